/- What is proved here: lemmas and contracts for the statement, put together out of smaller texts (DplWts, RegionNoS). No condition beyond those stated. -/
import Derived.Test.YtamlhapiehchoaaGreatDoorTkPkH
import Derived.Test.YtamlhapiehchoaaGreatDoorTkPkC
set_option linter.unusedVariables false
set_option linter.unusedSimpArgs false
namespace Go.Proofs.YtamlhapiehchoaaGreatDoor
open Go.RowKit Go.Lib

theorem any_next {α : Type} (f : α → Bool) (l : List α) (z : α) (q : Nat) (hq : q < l.length) : (l.take (q + 1)).any f = ((l.take q).any f || f (l.getD q z)) := by
  rw [List.take_add_one, List.getElem?_eq_getElem hq, List.any_append, List.getD_eq_getElem?_getD, List.getElem?_eq_getElem hq]
  simp
/-- The contexts of a list lie in memory one behind the other. -/
theorem ctx_row {w : World} {base : Nat} {p : DPlan} {l : List Nat} {v : Value} (h : w.ownsRow base 58 3 v l.length (ctxRow p l)) : (l = [] ∧ v = .slice none 0 0) ∨ ∃ g c, v = .slice (some ⟨g, 0, none⟩) l.length c ∧ ∀ q, q < l.length → ∀ W, Below w.heap.size w W → W.cell? ⟨g, q * 3, none⟩ = some (.string ⟨(p.ctxs.getD (l.getD q 0) noDCtx).key.toArray⟩) ∧ W.cell? ⟨g, q * 3 + 1, none⟩ = some (.slice (p.ctxs.getD (l.getD q 0) noDCtx).ra (p.ctxs.getD (l.getD q 0) noDCtx).rn (p.ctxs.getD (l.getD q 0) noDCtx).rc) ∧ W.cell? ⟨g, q * 3 + 2, none⟩ = some (.slice (p.ctxs.getD (l.getD q 0) noDCtx).ia (p.ctxs.getD (l.getD q 0) noDCtx).inn (p.ctxs.getD (l.getD q 0) noDCtx).ic) := by
  rcases shape_own h with ⟨h0, rfl⟩ | ⟨g, c, rfl, h1, h2⟩
  · exact Or.inl ⟨List.eq_nil_of_length_eq_zero h0, rfl⟩
  · refine Or.inr ⟨g, c, rfl, fun q hq W hW => ?_⟩
    obtain ⟨a9, c9, e9, hc⟩ := Cells.of_own h (fun x hx => by obtain ⟨y, _, rfl⟩ := List.mem_map.1 hx; rfl) (by decide)
    obtain ⟨b, off, e, hb, hcc⟩ := hc.at1 (f := fun k => (p.ctxs.getD k noDCtx).cells) 0 (by omega)
    injection e9 with e1
    rw [← e1] at e
    injection e with e
    injection e with e2 e3
    subst e2 e3
    have q0 := hcc q hq 0 (by decide)
    have q1 := hcc q hq 1 (by decide)
    have q2 := hcc q hq 2 (by decide)
    rw [Nat.zero_add] at q0 q1 q2
    exact ⟨(hW.cell (p := ⟨g, q * 3, none⟩) hb).trans q0, (hW.cell (p := ⟨g, q * 3 + 1, none⟩) hb).trans q1, (hW.cell (p := ⟨g, q * 3 + 2, none⟩) hb).trans q2⟩
def nowB (cs : List DCtx) (op : DRule → Bool) (d : List Nat) (l : List Nat) : Bool := l.any fun k => (decIn (cs.getD k noDCtx).rules op d).isSome
def WaitPost (a b : Bool) (w : World) (e : Ending) (w' : World) : Prop := e = .returned (.tuple #[.bool a, .bool b, .int .i64 0]) ∧ Below w.heap.size w w'
theorem opt_ge (o : Option Nat) : decide (0 ≤ optI o) = o.isSome := by cases o <;> simp [optI]
set_option maxRecDepth 100000 in
set_option maxHeartbeats 8000000 in
theorem waits_any (w : World) (p : DPlan) (hp : DPlanFine w p) (i : Nat) (hi : i < 3) (d : List Nat) (hd : ∀ j, j < d.length → d.getD j 0 < 12) (hd1 : 1 ≤ d.length) (hdl : d.length ≤ 30) (at_ : Int) (hat : isMomB at_ = true) (a0 : 0 ≤ at_) (a1 : at_ ≤ 345686400000) :
    Calls Tryz.prog 9 #[.agg p.cells.toArray, .string ⟨(ctxKey i).toArray⟩, .string ⟨(d.map signN).toArray⟩, .int .i64 at_] w (WaitPost (nowB p.ctxs (opR p at_) d (ordP p i)) (moreB p.ctxs (opR p at_) d (ordP p i)) w) := by
  have HAS := Lib.hid (fun W (hW : Below w.heap.size w W) => ask_any W p (hp.below hW) i hi d hd hd1 hdl at_ hat)
  have HDC := Lib.hid (fun k (hk : k < 3) W (hW : Below w.heap.size w W) => decides_any W p (hp.below hW) k hk d hd hdl at_ a0 a1)
  have HCN : Hid (∀ W, Below w.heap.size w W → ∀ s, s ∈ ([[], [104, 97], [104, 98]] : List (List UInt8)) → Calls Tryz.prog 35 #[.agg p.cells.toArray, .string ⟨s.toArray⟩, .int .i64 at_] W (BoolP (openR p.hrs at_ s) W)) := fun W hW s hs => counts_any W p (hp.below hW) s hs at_ a0 a1
  have HOP : Hid (∀ r, opR p at_ r = openR p.hrs at_ r.hours) := fun r => rfl
  have HLG := Lib.hid (fun W a n c (r : DRule) (hr : ElsOk r.els) (h : PatAt W a n r.els.pat) => longer_any W a n c r hr h d hd hdl)
  have HRR : Hid (∀ k : Nat, k < 3 → ∀ j, j < (p.ctxs.getD k noDCtx).rn → (p.ctxs.getD k noDCtx).rn = (p.ctxs.getD k noDCtx).rules.length ∧ DRuleOk ((p.ctxs.getD k noDCtx).rules.getD j noDRule) ∧ ∃ b off, (p.ctxs.getD k noDCtx).ra = some ⟨b, off, none⟩ ∧ ∀ W, Below w.heap.size w W → W.rangeAt b (off + j * 6) (((p.ctxs.getD k noDCtx).rules.getD j noDRule).cells)) := fun k hk j hj => by
    have hr := (hp.each k hk).rules
    obtain ⟨b, off, e, hbl, hcl⟩ := hr.at (by omega)
    obtain ⟨q0, q1, q2, q3, q4, q5⟩ := hcl j hj
    exact ⟨hr.len, hr.each j (by have := hr.len; omega), b, off, e, fun W hW => rule_range ((hW.cell (p := ⟨b, off + j * 6, none⟩) hbl).trans q0) ((hW.cell (p := ⟨b, off + j * 6 + 1, none⟩) hbl).trans q1) ((hW.cell (p := ⟨b, off + j * 6 + 2, none⟩) hbl).trans q2) ((hW.cell (p := ⟨b, off + j * 6 + 3, none⟩) hbl).trans q3) ((hW.cell (p := ⟨b, off + j * 6 + 4, none⟩) hbl).trans q4) ((hW.cell (p := ⟨b, off + j * 6 + 5, none⟩) hbl).trans q5)⟩
  have HRL : Hid (∀ k : Nat, k < 3 → (p.ctxs.getD k noDCtx).rn = (p.ctxs.getD k noDCtx).rules.length ∧ (p.ctxs.getD k noDCtx).rn ≤ 10) := fun k hk => ⟨(hp.each k hk).rules.len, (hp.each k hk).rules.few⟩
  have HL3 : Hid (∀ x ∈ ordP p i, x < 3) := (ordP_ok hp hi).1
  have hl7 := (ordP_ok hp hi).2
  clear hp hd hd1 hdl hat a0 a1
  unfold CtxsPost at HAS
  generalize hop : opR p at_ = op at HOP HDC ⊢
  clear hop
  have HCR : Hid (∀ (w : World) (base : Nat) (v : Value), w.ownsRow base 58 3 v (ordP p i).length (ctxRow p (ordP p i)) → _) := fun w base v h => ctx_row h
  generalize ctxRow p (ordP p i) = cr at HAS HCR
  generalize ordP p i = l at HAS HL3 hl7 HCR ⊢
  obtain ⟨ca, cn, cc, ctxs, ha, hn, hcp, hrs⟩ := p
  simp only at HDC HOP HRR HRL HCR ⊢
  have HAS2 : Hid (∀ W, Below w.heap.size w W → Calls Tryz.prog 32 #[.agg #[.slice ca cn cc, .slice ha hn hcp], .string ⟨(ctxKey i).toArray⟩, .string ⟨(d.map signN).toArray⟩, .int .i64 at_] W fun e w' => ∃ v, e = .returned (.tuple #[v, .int .i64 0]) ∧ w'.ownsRow W.heap.size 58 3 v l.length cr ∧ Below W.heap.size W w') := HAS.out
  have HDC2 : Hid (∀ k : Nat, k < 3 → ∀ W, Below w.heap.size w W → Calls Tryz.prog 33 #[.agg #[.slice ca cn cc, .slice ha hn hcp], .agg (ctxs.getD k noDCtx).cells.toArray, .string ⟨(d.map signN).toArray⟩, .int .i64 at_] W (IntP (optI (decIn (ctxs.getD k noDCtx).rules op d)) W)) := HDC.out
  have HCN2 : Hid (∀ W, Below w.heap.size w W → ∀ s, s ∈ ([[], [104, 97], [104, 98]] : List (List UInt8)) → Calls Tryz.prog 35 #[.agg #[.slice ca cn cc, .slice ha hn hcp], .string ⟨s.toArray⟩, .int .i64 at_] W (BoolP (openR hrs at_ s) W)) := HCN.out
  clear HAS HDC HCN
  have HLG2 : Hid (∀ W (a : Option Addr) n c (r : DRule) (hr : ElsOk r.els) (h : PatAt W a n r.els.pat), Calls Tryz.prog 36 #[patVal a n c r.els.pat, .string ⟨(d.map signN).toArray⟩] W (BoolP (longerB r d) W)) := HLG.out
  clear HLG
  generalize (⟨(d.map signN).toArray⟩ : ByteArray) = ds at HAS2 HDC2 HLG2 ⊢
  generalize ctxKey i = ki at HAS2 ⊢
  show Calls Tryz.prog 9 #[.agg #[.slice ca cn cc, .slice ha hn hcp], .string ⟨ki.toArray⟩, .string ds, .int .i64 at_] w (WaitPost (nowB ctxs op d l) (moreB ctxs op d l) w)
  have P1 : Hid (Blk (w.alloc (.cells #[.slice ca cn cc, .slice ha hn hcp] 29)) w.heap.size [.slice ca cn cc, .slice ha hn hcp] 29) := Blk.new w _ _
  have HB1 : Hid (Below w.heap.size w (w.alloc (.cells #[.slice ca cn cc, .slice ha hn hcp] 29))) := ext_alloc (Below.refl _ _)
  go_enter Tryz.func9, Tryz.ntmps9
  go_upto_region 1 with (fail)
  generalize (w.alloc (.cells #[.slice ca cn cc, .slice ha hn hcp] 29)) = w1 at P1 HB1 ⊢
  generalize w.heap.size = P at P1 ⊢
  have p0 := P1.out.cell 0 rfl
  have p1 := P1.out.cell 1 rfl
  as_aux_lemma =>
    go_wp2_with fail
    refine (HAS2.out _ HB1.out).mono ?_
    rintro e w2 ⟨v, rfl, ho, hb⟩
    have HB2 := Lib.hid (ext_trans HB1.out hb)
    have P2 := Lib.hid (P1.out.below hb)
    have hcr := HCR.out w2 _ v ho
    obtain ⟨va, vc, rfl, hrow⟩ : ∃ va vc, v = .slice va l.length vc ∧ (0 < l.length → ∃ g, va = some ⟨g, 0, none⟩ ∧ ∀ q, q < l.length → ∀ W, Below w2.heap.size w2 W → W.cell? ⟨g, q * 3, none⟩ = some (.string ⟨(ctxs.getD (l.getD q 0) noDCtx).key.toArray⟩) ∧ W.cell? ⟨g, q * 3 + 1, none⟩ = some (.slice (ctxs.getD (l.getD q 0) noDCtx).ra (ctxs.getD (l.getD q 0) noDCtx).rn (ctxs.getD (l.getD q 0) noDCtx).rc) ∧ W.cell? ⟨g, q * 3 + 2, none⟩ = some (.slice (ctxs.getD (l.getD q 0) noDCtx).ia (ctxs.getD (l.getD q 0) noDCtx).inn (ctxs.getD (l.getD q 0) noDCtx).ic)) := by
      rcases hcr with ⟨h0, rfl⟩ | ⟨g, c, rfl, h⟩
      · exact ⟨none, 0, by rw [h0]; rfl, fun h => by rw [h0] at h; cases h⟩
      · exact ⟨_, c, rfl, fun _ => ⟨g, rfl, h⟩⟩
    have HROW := Lib.hid hrow
    clear ho hb HB1 P1 p0 p1 HAS2 HCR hcr hrow
    as_aux_lemma =>
      go_wp2_with fail
      go_loopw [13, 14, 34] (fun vn vm it wr => ∃ q : Nat, q ≤ l.length ∧ it = .int .i64 q ∧ vn = .bool (nowB ctxs op d (l.take q)) ∧ vm = .bool (moreB ctxs op d (l.take q)) ∧ Hid (Below w2.heap.size w2 wr)) (fun _ _ it _ => l.length - (intOf it).toNat)
      case atStart => exact ⟨0, Nat.zero_le _, rfl, rfl, rfl, Below.refl _ _⟩
      case round =>
        obtain ⟨q, hq, rfl, rfl, rfl, HQ⟩ := hrel
        by_cases hlq : q < l.length
        case neg =>
          have hqn : ¬ (q : Int) < (l.length : Int) := by omega
          rw [List.take_of_length_le (by omega)]
          have HE : Hid (WaitPost (nowB ctxs op d l) (moreB ctxs op d l) w (.returned (.tuple #[.bool (nowB ctxs op d l), .bool (moreB ctxs op d l), .int .i64 0])) wr) := ⟨rfl, ext_trans HB2.out HQ.out⟩
          clear HROW HQ HB2 P2 HRR HRL HDC2 HCN2 HOP HL3 HLG2
          as_aux_lemma =>
            go_wp2_with fail
            go_ret3
            exact HE.out
        obtain ⟨g, rfl, hg⟩ := HROW.out (by omega)
        obtain ⟨c0, c1, c2⟩ := hg q hlq wr HQ.out
        have hk3 : l.getD q 0 < 3 := HL3.out _ (by rw [List.getD_eq_getElem?_getD, List.getElem?_eq_getElem hlq]; exact List.getElem_mem _)
        have HNX : Hid (nowB ctxs op d (l.take (q + 1)) = (nowB ctxs op d (l.take q) || (decIn (ctxs.getD (l.getD q 0) noDCtx).rules op d).isSome)) := any_next _ l 0 q hlq
        have HMX : Hid (moreB ctxs op d (l.take (q + 1)) = (moreB ctxs op d (l.take q) || ((ctxs.getD (l.getD q 0) noDCtx).rules.any fun r => op r && longerB r d))) := any_next (fun k => (ctxs.getD k noDCtx).rules.any fun r => op r && longerB r d) l 0 q hlq
        generalize l.getD q 0 = k at c0 c1 c2 hk3 HNX HMX
        have HDK := Lib.hid (HDC2.out k hk3)
        have HRK := Lib.hid (HRR.out k hk3)
        obtain ⟨hrn, hrf⟩ := HRL.out k hk3
        generalize ctxs.getD k noDCtx = c at c0 c1 c2 HNX HMX HDK HRK hrn hrf
        obtain ⟨key, ra, rn, rc, rules, ia, inn, ic, incs⟩ := c
        simp only at c0 c1 c2 HNX HMX HRK hrn hrf
        have HDK2 : Hid (∀ W, Below w.heap.size w W → Calls Tryz.prog 33 #[.agg #[.slice ca cn cc, .slice ha hn hcp], .agg #[.string ⟨key.toArray⟩, .slice ra rn rc, .slice ia inn ic], .string ds, .int .i64 at_] W (IntP (optI (decIn rules op d)) W)) := HDK.out
        have HRN := Lib.hid hrn
        have hq0 : ¬ ((q : Int) < 0) := by omega
        have hql : (q : Int) < (l.length : Int) := by omega
        generalize nowB ctxs op d (l.take q) = nq at HNX ⊢
        generalize moreB ctxs op d (l.take q) = mq at HMX ⊢
        obtain ⟨nq2, hnq2⟩ : ∃ x, x = nowB ctxs op d (l.take (q + 1)) := ⟨_, rfl⟩
        obtain ⟨mq2, hmq2⟩ : ∃ x, x = moreB ctxs op d (l.take (q + 1)) := ⟨_, rfl⟩
        rw [← hnq2] at HNX
        rw [← hmq2] at HMX
        have HNE := Lib.hid hnq2
        have HME2 := Lib.hid hmq2
        clear hnq2 hmq2
        have hA : Below wr.heap.size wr (wr.alloc (.cells #[.string ⟨key.toArray⟩, .slice ra rn rc, .slice ia inn ic] 58)) := ext_alloc (Below.refl _ _)
        have C3 : Hid (Blk (wr.alloc (.cells #[.string ⟨key.toArray⟩, .slice ra rn rc, .slice ia inn ic] 58)) wr.heap.size [.string ⟨key.toArray⟩, .slice ra rn rc, .slice ia inn ic] 58) := Blk.new _ _ _
        have HQ3 := Lib.hid (ext_trans HQ.out hA)
        clear hg hrn hA HQ HDK HRR HRL HDC2 HL3
        have HB3 := Lib.hid (ext_trans HB2.out HQ3.out)
        have P3 := Lib.hid (P2.out.below HQ3.out)
        as_aux_lemma =>
          go_upto_region 8 with (fail)
          clear c0 c1 c2
          generalize wr.alloc (.cells #[.string ⟨key.toArray⟩, .slice ra rn rc, .slice ia inn ic] 58) = w3 at C3 HQ3 HB3 P3 ⊢
          generalize wr.heap.size = C at C3 ⊢
          have p0 := P3.out.cell 0 rfl
          have p1 := P3.out.cell 1 rfl
          have c0 := C3.out.cell 0 rfl
          have c1 := C3.out.cell 1 rfl
          have c2 := C3.out.cell 2 rfl
          go_cut [13] (fun v wx => v = .bool nq2 ∧ Hid (Below w3.heap.size w3 wx))
          case first =>
            have HDD := Lib.hid (HDK2.out w3 HB3.out)
            have hog := opt_ge (decIn rules op d)
            generalize optI (decIn rules op d) = oi at HDD hog
            generalize (decIn rules op d).isSome = os at HNX hog
            cases nq
            · obtain rfl : nq2 = os := HNX.out
              have hog2 : decide (oi ≥ 0) = nq2 := hog
              clear hog HNX
              as_aux_lemma =>
                go_wp2_with fail
                refine HDD.out.mono ?_
                rintro e w4 ⟨rfl, hb⟩
                have HB4 := Lib.hid hb
                clear hb p0 p1 c0 c1 c2
                go_wp2_with fail
                go_meet
                exact ⟨by first | rfl | (rw [← hog2]), HB4.out⟩
            · obtain rfl : nq2 = true := HNX.out
              clear HNX
              as_aux_lemma =>
                go_wp2_with fail
                go_meet
                exact ⟨rfl, Below.refl _ _⟩
          case rest =>
            obtain ⟨rfl, HB4⟩ := hcut
            obtain ⟨w4, rfl⟩ : ∃ x : World, x = wc := ⟨_, rfl⟩
            have HB5 := Lib.hid (ext_trans HB3.out HB4.out)
            have HQ5 := Lib.hid (ext_trans HQ3.out HB4.out)
            have P5 := Lib.hid (P3.out.below HB4.out)
            have C5 := Lib.hid (C3.out.below HB4.out)
            clear p0 p1 c0 c1 c2 HB4 HB3 HQ3 P3 C3 HDK2 HNX
            have c1 := C5.out.cell 1 rfl
            as_aux_lemma =>
              go_wp2_with fail
              go_loopw [14, 50] (fun vm it wr => ∃ j : Nat, j ≤ rn ∧ it = .int .i64 j ∧ vm = .bool (mq || (rules.take j).any fun r => op r && longerB r d) ∧ Hid (Below w4.heap.size w4 wr)) (fun _ it _ => rn - (intOf it).toNat)
              case atStart => exact ⟨0, Nat.zero_le _, rfl, by simp, Below.refl _ _⟩
              case round =>
                obtain ⟨j, hj, rfl, rfl, HJ⟩ := hrel
                clear c1
                by_cases hlj : j < rn
                case neg =>
                  have hjn : ¬ (j : Int) < (rn : Int) := by omega
                  have HMM : Hid ((mq || (rules.take j).any fun r => op r && longerB r d) = mq2) := by show _ = _; rw [HMX.out, List.take_of_length_le (by have := HRN.out; omega)]
                  have HQ6 := Lib.hid (ext_trans HQ5.out HJ.out)
                  rw [HMM.out]
                  clear HMX HMM HRK
                  as_aux_lemma =>
                    go_wp2_with fail
                    go_roundw
                    case rel => exact ⟨q + 1, by omega, by go_num, by rw [HNE.out], by rw [HME2.out], HQ6⟩
                    case measure => simp [intOf]; omega
                obtain ⟨hrnl, hok, b0, off, rfl, hrg⟩ := HRK.out j hlj
                clear hrnl
                have HRG0 := hrg wr (ext_trans HB5.out HJ.out)
                have HJX : Hid ((mq || (rules.take (j + 1)).any fun r => op r && longerB r d) = ((mq || (rules.take j).any fun r => op r && longerB r d) || (op (rules.getD j noDRule) && longerB (rules.getD j noDRule) d))) := by show _ = _; rw [any_next _ rules noDRule j (by have := HRN.out; omega), Bool.or_assoc]
                obtain ⟨hels, hstrip, hpre, hto, hnamed, hbare, hhours⟩ := hok
                have HOJ : Hid (op (rules.getD j noDRule) = openR hrs at_ (rules.getD j noDRule).hours) := HOP.out _
                have HHX := Lib.hid (fun W hW => HCN2.out W hW _ hhours)
                have HRD : Hid (∀ W, Calls Tryz.prog 34 #[.string ⟨(rules.getD j noDRule).els.str.toArray⟩] W (ReadPat (rules.getD j noDRule).els.pat W)) := fun W => read_any W _ hels _ rfl
                have HLJ : Hid (∀ W (a : Option Addr) n c (h : PatAt W a n (rules.getD j noDRule).els.pat), Calls Tryz.prog 36 #[patVal a n c (rules.getD j noDRule).els.pat, .string ds] W (BoolP (longerB (rules.getD j noDRule) d) W)) := fun W a n c h => HLG2.out W a n c _ hels h
                clear hels hstrip hpre hto hnamed hbare hhours hrg
                unfold DRule.cells at HRG0
                generalize longerB (rules.getD j noDRule) d = lb at HJX HLJ
                generalize op (rules.getD j noDRule) = oh at HJX HOJ
                generalize (mq || (rules.take j).any fun r => op r && longerB r d) = mj at HJX ⊢
                obtain ⟨mj2, hmj2⟩ : ∃ x, x = (mq || (rules.take (j + 1)).any fun r => op r && longerB r d) := ⟨_, rfl⟩
                rw [← hmj2] at HJX
                have HME := Lib.hid hmj2.symm
                clear hmj2
                generalize rules.getD j noDRule = rl at HRG0 HOJ HHX HRD HLJ
                obtain ⟨rel, rn_, rp, rt, rm, rh⟩ := rl
                simp only at HRG0 HOJ HHX HRD HLJ
                rw [← HOJ.out] at HHX
                generalize rel.str = rs at HRG0 HRD
                generalize rel.pat = pt at HRD HLJ
                have HRG := Lib.hid HRG0
                clear HRG0 HOJ
                have hj0 : ¬ ((j : Int) < 0) := by omega
                have hjn : (j : Int) < (rn : Int) := by omega
                have hz0 := Blk.new wr [.string ⟨#[]⟩, .int .i64 0, .string ⟨#[]⟩, .int .i64 0, .string ⟨#[]⟩, .string ⟨#[]⟩] 63
                have HTH : Hid (World.there (wr.alloc (.cells #[.string ⟨#[]⟩, .int .i64 0, .string ⟨#[]⟩, .int .i64 0, .string ⟨#[]⟩, .string ⟨#[]⟩] 63)) wr.heap.size 0 6) := hz0.th 6 (Nat.le_refl 6)
                have hA : Below wr.heap.size wr (wr.alloc (.cells #[.string ⟨#[]⟩, .int .i64 0, .string ⟨#[]⟩, .int .i64 0, .string ⟨#[]⟩, .string ⟨#[]⟩] 63)) := ext_alloc (Below.refl _ _)
                have hV : Below wr.heap.size wr (World.setCells (wr.alloc (.cells #[.string ⟨#[]⟩, .int .i64 0, .string ⟨#[]⟩, .int .i64 0, .string ⟨#[]⟩, .string ⟨#[]⟩] 63)) wr.heap.size 0 [.string ⟨rs.toArray⟩, .int .i64 rn_, .string ⟨rp.toArray⟩, .int .i64 rt, .string ⟨rm.toArray⟩, .string ⟨rh.toArray⟩]) := belowW_put (Nat.le_refl _) hA _
                have R6 : Hid (Blk (World.setCells (wr.alloc (.cells #[.string ⟨#[]⟩, .int .i64 0, .string ⟨#[]⟩, .int .i64 0, .string ⟨#[]⟩, .string ⟨#[]⟩] 63)) wr.heap.size 0 [.string ⟨rs.toArray⟩, .int .i64 rn_, .string ⟨rp.toArray⟩, .int .i64 rt, .string ⟨rm.toArray⟩, .string ⟨rh.toArray⟩]) wr.heap.size [.string ⟨rs.toArray⟩, .int .i64 rn_, .string ⟨rp.toArray⟩, .int .i64 rt, .string ⟨rm.toArray⟩, .string ⟨rh.toArray⟩] 63) := hz0.put6 (.string ⟨rs.toArray⟩) (.int .i64 rn_) (.string ⟨rp.toArray⟩) (.int .i64 rt) (.string ⟨rm.toArray⟩) (.string ⟨rh.toArray⟩)
                have HJ6 := Lib.hid (ext_trans HJ.out hV)
                clear hz0 hA hV HJ
                as_aux_lemma =>
                  go_wp2_with (first | (refine wpList_load_mid rfl 63 (.tmp 52) rfl b0 (off + j * 6) rfl [.string ⟨rs.toArray⟩, .int .i64 rn_, .string ⟨rp.toArray⟩, .int .i64 rt, .string ⟨rm.toArray⟩, .string ⟨rh.toArray⟩] _ HRG.out Tryz.underlying63 rfl Tryz.druleSz ?_) | (refine wpList_store_mid rfl 63 (.tmp 18) (.tmp 53) rfl wr.heap.size 0 #[.string ⟨rs.toArray⟩, .int .i64 rn_, .string ⟨rp.toArray⟩, .int .i64 rt, .string ⟨rm.toArray⟩, .string ⟨rh.toArray⟩] rfl rfl HTH.out Tryz.druleSz (by simp [Value.oneCell']) ?_; generalize (World.setCells (wr.alloc (.cells #[.string ⟨#[]⟩, .int .i64 0, .string ⟨#[]⟩, .int .i64 0, .string ⟨#[]⟩, .string ⟨#[]⟩] 63)) wr.heap.size 0 [.string ⟨rs.toArray⟩, .int .i64 rn_, .string ⟨rp.toArray⟩, .int .i64 rt, .string ⟨rm.toArray⟩, .string ⟨rh.toArray⟩]) = w6 at R6 HJ6 ⊢; clear HTH HRG; refine Hid.out ?_))
                  refine Lib.hid ?_
                  generalize wr.heap.size = R at R6 ⊢
                  have r0 := R6.out.cell 0 rfl
                  as_aux_lemma =>
                    go_wp2_with fail
                    refine (HRD.out _).mono ?_
                    rintro e w7 ⟨xa, xn, xc, rfl, hpx, hb⟩
                    have HJ7 := Lib.hid (ext_trans HJ6.out hb)
                    have R7 := Lib.hid (R6.out.below hb)
                    have hA : Below w7.heap.size w7 (w7.alloc (.cells #[.slice xa xn xc, .int .u8 pt.tail] 82)) := ext_alloc (Below.refl _ _)
                    have X8 : Hid (Blk (w7.alloc (.cells #[.slice xa xn xc, .int .u8 pt.tail] 82)) w7.heap.size [.slice xa xn xc, .int .u8 pt.tail] 82) := Blk.new w7 _ _
                    have HJ8 := Lib.hid (ext_trans HJ7.out hA)
                    have R8 := Lib.hid (R7.out.below hA)
                    have HPX8 := Lib.hid (hpx.below hA)
                    clear hb hpx r0 hA HJ6 HJ7 R6 R7 HRD
                    as_aux_lemma =>
                      unfold patVal
                      go_upto_region 13 with (fail)
                      generalize w7.alloc (.cells #[.slice xa xn xc, .int .u8 pt.tail] 82) = w8 at X8 HJ8 R8 HPX8 ⊢
                      generalize w7.heap.size = X at X8 ⊢
                      have HB8 := Lib.hid (ext_trans HB5.out HJ8.out)
                      have P8 := Lib.hid (P5.out.below HJ8.out)
                      cases mj
                      case true =>
                        obtain rfl : mj2 = true := by rw [HJX.out]; simp
                        clear HJX HLJ HHX X8 R8 HPX8
                        as_aux_lemma =>
                          go_wp2_with fail
                          go_roundw
                          case rel => exact ⟨j + 1, by omega, by go_num, by rw [HME.out], HJ8⟩
                          case measure => simp [intOf]; omega
                      have p0 := P8.out.cell 0 rfl
                      have p1 := P8.out.cell 1 rfl
                      have r5 := R8.out.cell 5 rfl
                      have HCT := Lib.hid (HHX.out w8 HB8.out)
                      as_aux_lemma =>
                        go_wp2_with fail
                        refine HCT.out.mono ?_
                        rintro e w9 ⟨rfl, hb⟩
                        have HJ9 := Lib.hid (ext_trans HJ8.out hb)
                        have X9 := Lib.hid (X8.out.below hb)
                        have HPX9 := Lib.hid (HPX8.out.below hb)
                        clear hb p0 p1 r5 HCT HHX X8 HPX8 HJ8
                        cases oh
                        case false =>
                          obtain rfl : mj2 = false := by rw [HJX.out]; simp
                          clear HJX HLJ X9 HPX9
                          as_aux_lemma =>
                            go_wp2_with fail
                            go_roundw
                            case rel => exact ⟨j + 1, by omega, by go_num, by rw [HME.out], HJ9⟩
                            case measure => simp [intOf]; omega
                        obtain rfl : mj2 = lb := by rw [HJX.out]; simp
                        have x0 := X9.out.cell 0 rfl
                        have x1 := X9.out.cell 1 rfl
                        have HLC := Lib.hid (HLJ.out w9 xa xn xc HPX9.out)
                        unfold patVal at HLC
                        clear HJX HLJ
                        as_aux_lemma =>
                          go_wp2_with fail
                          refine HLC.out.mono ?_
                          rintro e w10 ⟨rfl, hb⟩
                          have HJ10 := Lib.hid (ext_trans HJ9.out hb)
                          clear hb x0 x1
                          go_wp2_with fail
                          go_roundw
                          case rel => exact ⟨j + 1, by omega, by go_num, by rw [HME.out], HJ10⟩
                          case measure => simp [intOf]; omega
end Go.Proofs.YtamlhapiehchoaaGreatDoor

set_option linter.unusedVariables false
namespace Go.Proofs.YtamlhapiehchoaaGreatDoor.NoS
open Go.RowKit

/-- Nothing that was there has turned. -/
def Keeps (_ : Nat) (w w' : World) : Prop := Below w.heap.size w w'
def StreamOk (_ : World) (_ _ : Nat) : Prop := True
theorem Keeps.below {S : Nat} {w w' : World} (h : Keeps S w w') : Below w.heap.size w w' := h
theorem Keeps.size {S : Nat} {w w' : World} (h : Keeps S w w') : w.heap.size ≤ w'.heap.size := Below.size h
theorem Keeps.refl (S : Nat) (w : World) : Keeps S w w := Below.refl _ _
theorem Keeps.trans {S : Nat} {a b c : World} (h : Keeps S a b) (k : Keeps S b c) : Keeps S a c := ext_trans h k
theorem Keeps.alloc {S : Nat} {a w : World} (h : Keeps S a w) (o : Obj) : Keeps S a (w.alloc o) := ext_alloc h
theorem Keeps.cell {S : Nat} {w w' : World} (h : Keeps S w w') {p : Addr} (hp : p.block < w.heap.size) : w'.cell? p = w.cell? p := Below.cell h hp
theorem Keeps.frozen {S : Nat} {w w' : World} (h : Keeps S w w') {p : Addr} (hp : p.block < w.heap.size) : w'.frozen? p = w.frozen? p := Below.frozen h hp
theorem Keeps.of_below {S : Nat} {w w' : World} (h : Below w.heap.size w w') : Keeps S w w' := h
theorem StreamOk.below {w w' : World} {S k : Nat} (h : StreamOk w S k) (b : Below w.heap.size w w') : StreamOk w' S k := trivial
theorem StreamOk.mono {w : World} {S k k' : Nat} (h : StreamOk w S k) (hk : k ≤ k') : StreamOk w S k' := trivial

section
variable {P : Program} {ops : Array Oper} {Q : Exit → Act → World → Prop}

/-- What is known of an operation's value: a property of the value; or a slice over a block of its own, whose cells are listed. -/
inductive Spec where
  | val (p : Value → Prop)
  | arr (n : Nat) (p : List Value → Prop)
  | mem (p : World → Value → Prop)

def Spec.holds (S : Nat) (w : World) : Spec → Value → Prop
  | .val p, v => p v
  | .arr n p, v => ∃ b vs, v = .slice (some ⟨b, 0, none⟩) n n ∧ p vs ∧ b < w.heap.size ∧ ∀ (j : Nat) (u : Value), vs[j]? = some u → w.cell? ⟨b, j, none⟩ = some u
  | .mem p, v => ∀ w', Keeps S w w' → p w' v

theorem Spec.holds.keeps {S : Nat} {w w' : World} {s : Spec} {v : Value} (h : s.holds S w v) (k : Keeps S w w') : s.holds S w' v := by
  cases s with
  | val p => exact h
  | arr n p =>
    obtain ⟨b, vs, hv, hp, hl, hc⟩ := h
    exact ⟨b, vs, hv, hp, Nat.lt_of_lt_of_le hl k.size, fun j u hj => (k.cell (p := ⟨b, j, none⟩) hl).trans (hc j u hj)⟩
  | mem p => exact fun w'' k' => h w'' (k.trans k')

def GenB (S k : Nat) (w0 : World) (c : Nat) (w : World) : Prop := Keeps S w0 w ∧ StreamOk w S (k + c)

/-- What is to be shown of operation i: it may look at what it waits for, and at what was there. -/
def GenStep (P : Program) (ops : Array Oper) (Q : Exit → Act → World → Prop) (a0 : Act) (S k : Nat) (w0 : World) (specs : List Spec) (total : Nat) (calls : List Nat) (i : Nat) : Prop :=
  ∀ (o : Oper) (s : Spec) (a : Act) (w : World) (c : Nat), ops[i]? = some o → specs[i]? = some s → Keeps S w0 w → StreamOk w S (k + c) → c + (if calls.contains i then 1 else 0) ≤ total →
    (∀ t, (∀ j, dstOf ops j ≠ some t) → a.eval (.tmp t) = a0.eval (.tmp t)) →
    (∀ e ∈ o.after, Region.binds .any e = true → ∀ t s', dstOf ops e.on = some t → specs[e.on]? = some s' → s'.holds S w (a.eval (.tmp t))) →
    ∀ K : Act → World → Prop, (∀ v w', s.holds S w' v → Keeps S w w' → StreamOk w' S (k + (c + if calls.contains i then 1 else 0)) → K (a.put o.dst v) w') → Oper.wp P o a w K Q

/-- The operations' temporaries are different ones and lie in the frame; the first ones have no guard and each a spec. -/
def genChk (ops : Array Oper) (size m : Nat) (calls : List Nat) : Bool :=
  ((List.range ops.size).all fun i => (List.range ops.size).all fun j => i == j || (match dstOf ops i with | none => true | some d => decide (d < size) && dstOf ops j != some d)) &&
  ((List.range m).all fun i => ((ops[i]?).map fun o => o.guard.isNone).getD false) && decide (m ≤ ops.size) && decide (1 < ops.size) && decide calls.Nodup && calls.all (fun i => decide (i < m))

theorem countP_set (calls : List Nat) (hn : calls.Nodup) (f : Nat → Bool) (i : Nat) (hu : f i = false) : calls.countP (fun j => if j = i then true else f j) = calls.countP f + if calls.contains i then 1 else 0 := by
  induction calls with
  | nil => simp
  | cons x xs ih =>
    have ih := ih (List.nodup_cons.1 hn).2
    have hx := (List.nodup_cons.1 hn).1
    by_cases hxi : x = i
    · subst hxi
      have : xs.countP (fun j => if j = x then true else f j) = xs.countP f := by
        refine List.countP_congr fun j hj => ?_
        have : j ≠ x := fun e => hx (e ▸ hj)
        simp [this]
      rw [List.countP_cons, this, List.countP_cons]
      simp [hu]
    · have hc : (x :: xs).contains i = xs.contains i := by simp [Ne.symm hxi]
      rw [hc, List.countP_cons, List.countP_cons, ih]
      simp [hxi]
      omega

theorem gen_any {m : Nat} {a0 : Act} {S k : Nat} {w0 : World} {specs : List Spec} {calls : List Nat} (hc : genChk ops a0.tmps.size m calls = true) (hlen : specs.length = m)
    (hstep : ∀ i, i < m → GenStep P (ops.extract 0 m) Q a0 S k w0 specs calls.length calls i)
    (hend : ∀ (vals : Nat → Value) (w : World), Keeps S w0 w → StreamOk w S (k + calls.length) → (∀ (i : Nat) (s : Spec), specs[i]? = some s → s.holds S w (vals i)) → Q .normal (putSome (ops.extract 0 m) vals (fun _ => true) (List.range m) a0) w) :
    ∀ (fuel : Nat) (l : Array Bool) (vals : Nat → Value) (w : World), l.size = m → Keeps S w0 w → StreamOk w S (k + calls.countP (fun i => l.getD i true)) → (∀ (i : Nat) (s : Spec), l.getD i true = true → specs[i]? = some s → s.holds S w (vals i)) → (l.toList.countP (fun b => !b) ≤ fuel) →
      (∀ i, i < m → ∃ o, (ops.extract 0 m)[i]? = some o ∧ ∀ e ∈ o.after, Region.binds .any e = true → e.on < i) →
      wpAny P .any (ops.extract 0 m) Q fuel l (putSome (ops.extract 0 m) vals (fun i => l.getD i true) (List.range m) a0) w := by
  simp only [genChk, Bool.and_eq_true, List.all_eq_true, List.mem_range, decide_eq_true_eq, Bool.or_eq_true, beq_iff_eq] at hc
  obtain ⟨⟨⟨⟨⟨hdst, hgd⟩, hmn⟩, h1n⟩, hnd⟩, hcm⟩ := hc
  have dsub : ∀ i t, dstOf (ops.extract 0 m) i = some t → dstOf ops i = some t ∧ i < m := by
    intro i t h
    unfold dstOf at *
    by_cases hi : i < m
    · rw [ext_get _ _ _ hi] at h
      exact ⟨h, hi⟩
    · rw [ext_get_no _ _ _ hi] at h; cases h
  have dne : ∀ i j, i ≠ j → ∀ t, dstOf (ops.extract 0 m) j = some t → dstOf (ops.extract 0 m) i ≠ some t := by
    intro i j hij t hj hi
    obtain ⟨hi1, hi2⟩ := dsub i t hi
    obtain ⟨hj1, hj2⟩ := dsub j t hj
    have := (hdst i (by omega) j (by omega)).resolve_left hij
    simp [hi1, hj1] at this
  have dlt : ∀ i t, dstOf (ops.extract 0 m) i = some t → t < a0.tmps.size := by
    intro i t hi
    obtain ⟨hi1, hi2⟩ := dsub i t hi
    have hj : ∃ j, j < ops.size ∧ i ≠ j := if h : i = 0 then ⟨1, by omega, by omega⟩ else ⟨0, by omega, h⟩
    obtain ⟨j, hj, hij⟩ := hj
    have := (hdst i (by omega) j hj).resolve_left hij
    simp [hi1] at this
    exact this.1
  have getl : ∀ (l : Array Bool) i, i < l.size → l.getD i true = true → l.getD i false = true := fun l i hi h => by rw [getD_two hi false true]; exact h
  intro fuel
  induction fuel with
  | zero =>
    intro l vals w hl hk hst hs hf hdown
    have hall : ∀ i, i < m → l.getD i true = true := by
      intro i hi
      rcases Bool.eq_false_or_eq_true (l.getD i true) with h | h
      · exact h
      · exfalso
        have : 0 < l.toList.countP (fun b => !b) := List.countP_pos_iff.2 ⟨false, by
          have hlt : i < l.size := by omega
          have : l[i] = false := by simpa [hlt] using h
          rw [← this]; simp, rfl⟩
        omega
    refine ⟨?_, ?_⟩
    · refine List.eq_nil_iff_forall_not_mem.2 fun i hi => ?_
      obtain ⟨h0, o, ho, _⟩ := mem_ready.1 hi
      have hlt : i < m := by have := (Array.getElem?_eq_some_iff.1 ho).1; simp at this; omega
      rw [hall i hlt] at h0; cases h0
    · have e1 : putSome (ops.extract 0 m) vals (fun i => l.getD i true) (List.range m) a0 = putSome (ops.extract 0 m) vals (fun _ => true) (List.range m) a0 := putSome_congr _ _ (fun i hi => ⟨hall i (List.mem_range.1 hi), fun _ => rfl⟩)
      rw [e1]
      refine hend vals w hk ?_ (fun i s h => hs i s (by
        by_cases hi : i < m
        · exact hall i hi
        · simp [show ¬ i < l.size by omega]) h)
      have : calls.countP (fun i => l.getD i true) = calls.length := List.countP_eq_length.2 (fun i hi => hall i (by simpa using hcm i hi))
      rw [this] at hst; exact hst
  | succ fuel ih =>
    intro l vals w hl hk hst hs hf hdown
    have dn := listed_of_none (ops := ops.extract 0 m) (m := m)
    refine ⟨fun h0 => ?_, fun i hi => ?_⟩
    · have hall : ∀ i, i < m → l.getD i true = true := by
        intro i
        induction i using Nat.strongRecOn with
        | _ i ihi =>
          intro hi
          rcases Bool.eq_false_or_eq_true (l.getD i true) with h | h
          · exact h
          · exfalso
            obtain ⟨o, ho, hd⟩ := hdown i hi
            have : i ∈ Region.ready .any (ops.extract 0 m) l := mem_ready.2 ⟨h, o, ho, fun e he hb => getl l _ (by have := hd e he hb; omega) (ihi e.on (hd e he hb) (by have := hd e he hb; omega))⟩
            rw [h0] at this; cases this
      have e1 : putSome (ops.extract 0 m) vals (fun i => l.getD i true) (List.range m) a0 = putSome (ops.extract 0 m) vals (fun _ => true) (List.range m) a0 := putSome_congr _ _ (fun i hi => ⟨hall i (List.mem_range.1 hi), fun _ => rfl⟩)
      rw [e1]
      refine hend vals w hk ?_ (fun i s h => hs i s (by
        by_cases hi : i < m
        · exact hall i hi
        · simp [show ¬ i < l.size by omega]) h)
      have : calls.countP (fun i => l.getD i true) = calls.length := List.countP_eq_length.2 (fun i hi => hall i (by simpa using hcm i hi))
      rw [this] at hst; exact hst
    · obtain ⟨hun, o, ho, hall⟩ := mem_ready.1 hi
      have him : i < m := by have := (Array.getElem?_eq_some_iff.1 ho).1; simp at this; omega
      have hilt : i < l.size := by omega
      obtain ⟨s, hsi⟩ : ∃ s, specs[i]? = some s := ⟨specs[i]'(by omega), by simp⟩
      have hguard : o.guard = none := by
        have hx := hgd i him
        have : ops[i]? = some o := by rw [ext_get _ _ _ him] at ho; exact ho
        simpa [this] using hx
      have hdo : dstOf (ops.extract 0 m) i = o.dst := by simp [dstOf, ho]
      unfold wpOp
      simp only [ho]
      rw [if_pos (by simp [Region.wanted, hguard])]
      refine Or.inl ?_
      have hcnt := countP_set calls hnd (fun j => l.getD j true) i hun
      refine hstep i him o s _ w (calls.countP fun j => l.getD j true) ho hsi hk hst ?_ ?_ ?_ _ ?_
      · rw [← hcnt]; exact List.countP_le_length
      · intro t ht
        exact putSome_eval_other _ _ (fun j _ => ht j)
      · intro e he hb t s' ht hs'
        have hon := hall e he hb
        have hlt : e.on < m := (dsub e.on t ht).2
        have hon' : l.getD e.on true = true := by rw [getD_two (by omega) true false]; exact hon
        rw [putSome_eval (i := e.on) _ _ List.nodup_range (List.mem_range.2 hlt) hon' ht (dlt _ _ ht) (fun j _ hj => fun h2 => dne e.on j (Ne.symm hj) t h2 ht)]
        exact hs e.on s' hon' hs'
      · intro v w' hv hkw hst'
        have e2 := putSome_set (ops := ops.extract 0 m) (vals := vals) (listed := fun j => l.getD j true) (i := i) v (List.range m) a0 List.nodup_range (List.mem_range.2 him) hun (fun j _ hj t ht => dne i j (Ne.symm hj) t ht)
        have e3 : (fun j => if j = i then true else l.getD j true) = fun j => (l.setIfInBounds i true).getD j true := by
          funext j
          by_cases hji : j = i
          · subst hji; simp [hilt]
          · simp only [hji, if_false]; rw [getD_set_ne true (Ne.symm hji)]
        rw [← hdo, ← e2, e3]
        refine ih _ _ w' (by simpa using hl) (hk.trans hkw) ?_ ?_ ?_ hdown
        · rw [← e3, hcnt]; exact hst'
        · intro j s' hj hs'
          by_cases hji : j = i
          · subst hji
            rw [hsi] at hs'; cases hs'
            simp only [if_true]; exact hv
          · simp only [hji, if_false]
            rw [getD_set_ne true (Ne.symm hji)] at hj
            exact (hs j s' hj hs').keeps hkw
        · have : (l.setIfInBounds i true).toList.countP (fun b => !b) + 1 = l.toList.countP (fun b => !b) := by
            have hli : l[i] = false := by simpa [hilt] using hun
            have hpos : 0 < l.toList.countP (fun b => !b) := List.countP_pos_iff.2 ⟨false, by rw [← hli]; simp, rfl⟩
            have := List.countP_set (p := fun b : Bool => !b) (l := l.toList) (i := i) (a := true) (by simpa using hilt)
            have e4 : l.toList[i]'(by simpa using hilt) = false := by simpa using hli
            rw [Array.toList_setIfInBounds, this, e4]
            rw [if_pos (by decide : (!false) = true), if_neg (by decide : ¬ (!true) = true)]
            omega
          omega

/-! ### The whole -/

/-- What is to be shown of an operation: it may look at what it waits for, and at what was there. -/
def GenOp (P : Program) (ops : Array Oper) (Q : Exit → Act → World → Prop) (a0 : Act) (S k : Nat) (w0 : World) (specs : List Spec) (calls : List Nat) (i : Nat) (o : Oper) (s : Spec) : Prop :=
  ∀ (a : Act) (w : World) (c : Nat), Keeps S w0 w → StreamOk w S (k + c) → c + (if calls.contains i then 1 else 0) ≤ calls.length →
    (∀ t, ((ops.extract 0 specs.length).all fun o => o.dst != some t) = true → a.eval (.tmp t) = a0.eval (.tmp t)) →
    (∀ (j : Nat) (t : Tmp) (s' : Spec), (o.after.any fun e => Region.binds .any e && e.on == j) = true → dstOf ops j = some t → specs[j]? = some s' → s'.holds S w (a.eval (.tmp t))) →
    ∀ K : Act → World → Prop, (∀ v w', s.holds S w' v → Keeps S w w' → StreamOk w' S (k + (c + if calls.contains i then 1 else 0)) → K (a.put o.dst v) w') → Oper.wp P o a w K (tailQ P ops Q specs.length)

def GenOps (P : Program) (ops : Array Oper) (Q : Exit → Act → World → Prop) (a0 : Act) (S k : Nat) (w0 : World) (specs : List Spec) (calls : List Nat) : Nat → List Oper → List Spec → Prop
  | i, o :: os, s :: ss => GenOp P ops Q a0 S k w0 specs calls i o s ∧ GenOps P ops Q a0 S k w0 specs calls (i + 1) os ss
  | _, _, _ => True

/-- For all values that the specs allow, put into the frame. -/
def ForVals (S : Nat) (w : World) (K : Act → Prop) : List (Option Tmp) → List Spec → Act → Prop
  | d :: ds, s :: ss, a => ∀ v, s.holds S w v → ForVals S w K ds ss (a.put d v)
  | _, _, a => K a

def downChk (ops : Array Oper) (m : Nat) : Bool := (List.range m).all fun i => ((ops[i]?).map fun o => o.after.all fun e => !Region.binds .any e || decide (e.on < i)).getD false

theorem genOps_at {a0 : Act} {S k : Nat} {w0 : World} {specs : List Spec} {calls : List Nat} : ∀ (i : Nat) (os : List Oper) (ss : List Spec), GenOps P ops Q a0 S k w0 specs calls i os ss → ∀ (j : Nat) (o : Oper) (s : Spec), os[j]? = some o → ss[j]? = some s → GenOp P ops Q a0 S k w0 specs calls (i + j) o s
  | i, o :: os, s :: ss, h, 0, _, _, ho, hs => by simp at ho hs; subst ho; subst hs; exact h.1
  | i, o :: os, s :: ss, h, j + 1, o', s', ho, hs => by
    have := genOps_at (i + 1) os ss h.2 j o' s' (by simpa using ho) (by simpa using hs)
    rw [show i + (j + 1) = i + 1 + j by omega]; exact this
  | i, [], _, _, j, _, _, ho, _ => by simp at ho
  | i, _ :: _, [], _, j, _, _, _, hs => by simp at hs

theorem forVals_all {S : Nat} {w : World} {K : Act → Prop} {vals : Nat → Value} {ops : Array Oper} : ∀ (ss : List Spec) (i : Nat) (a : Act), ForVals S w K ((List.range' i ss.length).map (dstOf ops)) ss a → (∀ (j : Nat) (s : Spec), ss[j]? = some s → s.holds S w (vals (i + j))) → K (putSome ops vals (fun _ => true) (List.range' i ss.length) a)
  | [], i, a, h, _ => h
  | s :: ss, i, a, h, hs => by
    have h1 : ForVals S w K ((List.range' (i + 1) ss.length).map (dstOf ops)) ss (a.put (dstOf ops i) (vals i)) := h (vals i) (hs 0 s rfl)
    have := forVals_all ss (i + 1) _ h1 (fun j s' hj => by have := hs (j + 1) s' (by simpa using hj); rwa [show i + (j + 1) = i + 1 + j by omega] at this)
    exact this

/-- **A region that draws its order, in which a stream hands out numbers**: shown for all orders at once; what comes behind the first operations goes in the text's order. -/
theorem region_gen {L : List Oper} {id : Nat} {a0 : Act} {w : World} (S k m : Nat) (specs : List Spec) (calls : List Nat) (ds : List (Option Tmp)) (hm : P.follows .mixedOrders = true) (hc : genChk L.toArray a0.tmps.size m calls = true) (ht : tailChk L.toArray m = true) (hd : downChk L.toArray m = true) (hlen : specs.length = m)
    (hds : (List.range m).map (dstOf L.toArray) = ds) (h0 : StreamOk w S k)
    (hstep : GenOps P L.toArray Q a0 S k w.drew specs calls 0 (L.take m) specs)
    (hend : ∀ w', Keeps S w.drew w' → StreamOk w' S (k + calls.length) → ForVals S w' (fun a => wpList P L.toArray Q (L.drop m) a w') ds specs a0) : (Code.region id L.toArray true).wp P Q a0 w := by
  subst hlen
  have hc0 := hc
  simp only [genChk, Bool.and_eq_true, List.all_eq_true, List.mem_range, decide_eq_true_eq] at hc0
  obtain ⟨⟨⟨⟨⟨_, hgd⟩, hmn⟩, h1n⟩, hnd⟩, hcm⟩ := hc0
  have hmn' : specs.length ≤ L.length := by simpa using hmn
  have hdown : ∀ i, i < specs.length → ∃ o, (L.toArray.extract 0 specs.length)[i]? = some o ∧ ∀ e ∈ o.after, Region.binds .any e = true → e.on < i := by
    intro i hi
    have h := List.all_eq_true.1 hd i (List.mem_range.2 hi)
    rw [ext_get _ _ _ hi]
    cases ho : L.toArray[i]? with
    | none => rw [ho] at h; cases h
    | some o =>
      rw [ho] at h
      simp only [Option.map_some, Option.getD_some] at h
      refine ⟨o, rfl, fun e he hb => ?_⟩
      have h1 := Array.all_eq_true_iff_forall_mem.1 h e he
      simpa [hb] using h1
  have tailNone : ∀ (k' : Nat) (o : Oper), specs.length ≤ k' → L.toArray[k']? = some o → o.guard = none := by
    intro k' o hk' ho
    have hlt := (Array.getElem?_eq_some_iff.1 ho).1
    have h := List.all_eq_true.1 ht k' (List.mem_range.2 hlt)
    simp only [Bool.or_eq_true, decide_eq_true_eq, Bool.and_eq_true] at h
    have h2 := (h.resolve_left (by omega)).2
    rw [ho] at h2
    simpa using h2
  have toTail : ∀ (l : List Oper), (∀ o ∈ l, o.guard = none) → ∀ a w, wpList P L.toArray Q l a w → tailQ.wpTail P Q l a w := by
    intro l
    induction l with
    | nil => intro _ a w h; exact h
    | cons o l ih =>
      intro hg a w h
      unfold wpList at h
      rw [if_pos (by simp [Region.wanted, hg o List.mem_cons_self])] at h
      exact h.imp (Oper.wp_mono (fun a w h => ih (fun o ho => hg o (List.mem_cons_of_mem _ ho)) a w h)) (fun h => h)
  refine wp_region_any hm ?_
  refine tail_any specs.length ht (L.length - specs.length) specs.length (by simp; omega) (Nat.le_refl _) a0 _ ?_
  have dEq : ∀ j, j < specs.length → dstOf (L.toArray.extract 0 specs.length) j = dstOf L.toArray j := fun j hj => by unfold dstOf; rw [ext_get _ _ _ hj]
  have dLt : ∀ j t, dstOf (L.toArray.extract 0 specs.length) j = some t → j < specs.length := fun j t h => by
    rcases Nat.lt_or_ge j specs.length with h' | h'
    · exact h'
    · unfold dstOf at h; rw [ext_get_no _ _ _ (by omega)] at h; cases h
  have g := gen_any (P := P) (ops := L.toArray) (Q := tailQ P L.toArray Q specs.length) (m := specs.length) (a0 := a0) (S := S) (k := k) (w0 := w.drew) (specs := specs) (calls := calls) hc rfl ?_ ?_ specs.length (Array.replicate specs.length false) (fun _ => undef) w.drew (by simp) (Keeps.refl _ _) ?_ ?_ ?_ hdown
  · have e0 : putSome (L.toArray.extract 0 specs.length) (fun _ => undef) (fun i => (Array.replicate specs.length false).getD i true) (List.range specs.length) a0 = a0 := by
      have : ∀ (l : List Nat), (∀ i ∈ l, i < specs.length) → ∀ a, putSome (L.toArray.extract 0 specs.length) (fun _ => undef) (fun i => (Array.replicate specs.length false).getD i true) l a = a := by
        intro l
        induction l with
        | nil => intro _ a; rfl
        | cons j l ih =>
          intro hl a
          have hj := hl j List.mem_cons_self
          have ih' := ih (fun i hi => hl i (List.mem_cons_of_mem _ hi))
          simp only [putSome, List.foldl_cons] at ih' ⊢
          rw [show (Array.replicate specs.length false).getD j true = false by simp [hj]]
          exact ih' a
      exact this _ (fun i hi => List.mem_range.1 hi) a0
    rw [e0] at g
    exact g
  · intro i hi o s a w' c ho hs hk hst hcc hfr hdp K hK
    have hoL : L[i]? = some o := by rw [ext_get _ _ _ hi] at ho; simpa using ho
    have st := genOps_at 0 _ _ hstep i o s (by rw [List.getElem?_take_of_lt hi]; exact hoL) hs
    rw [Nat.zero_add] at st
    refine st a w' c hk hst hcc (fun t ht => hfr t (fun j hj => ?_)) (fun j t s' hj ht hs' => ?_) K hK
    · unfold dstOf at hj
      cases hoj : (L.toArray.extract 0 specs.length)[j]? with
      | none => rw [hoj] at hj; cases hj
      | some oj =>
        rw [hoj] at hj
        have := Array.all_eq_true_iff_forall_mem.1 ht oj (Array.mem_of_getElem? hoj)
        simp at this hj
        exact this hj
    · obtain ⟨e, he, hb⟩ := Array.any_eq_true'.1 hj
      simp only [Bool.and_eq_true, beq_iff_eq] at hb
      obtain ⟨hb, rfl⟩ := hb
      have hlt : e.on < specs.length := (List.getElem?_eq_some_iff.1 hs').1
      exact hdp e he hb t s' (by rw [dEq _ hlt]; exact ht) hs'
  · intro vals w' hk hst hs
    have h := hend w' hk hst
    subst hds
    have e1 : putSome (L.toArray.extract 0 specs.length) vals (fun _ => true) (List.range specs.length) a0 = putSome L.toArray vals (fun _ => true) (List.range specs.length) a0 := by
      have : ∀ (l : List Nat), (∀ i ∈ l, i < specs.length) → ∀ a, putSome (L.toArray.extract 0 specs.length) vals (fun _ => true) l a = putSome L.toArray vals (fun _ => true) l a := by
        intro l
        induction l with
        | nil => intro _ a; rfl
        | cons j l ih =>
          intro hl a
          have ih' := ih (fun i hi => hl i (List.mem_cons_of_mem _ hi))
          simp only [putSome, List.foldl_cons] at ih' ⊢
          rw [dEq j (hl j List.mem_cons_self)]
          exact ih' _
      exact this _ (fun i hi => List.mem_range.1 hi) a0
    rw [e1]
    have h2 := forVals_all (S := S) (w := w') (vals := vals) (ops := L.toArray) (K := fun a => wpList P L.toArray Q (L.drop specs.length) a w') specs 0 a0 (by rw [← List.range_eq_range']; exact h) (fun j s hj => by rw [Nat.zero_add]; exact hs j s hj)
    rw [← List.range_eq_range'] at h2
    refine toTail _ (fun o ho => ?_) _ _ h2
    obtain ⟨j, hj⟩ := List.getElem?_of_mem ho
    rw [List.getElem?_drop] at hj
    exact tailNone _ o (Nat.le_add_right _ _) (by simpa using hj)
  · have : calls.countP (fun i => (Array.replicate specs.length false).getD i true) = 0 := List.countP_eq_zero.2 (fun i hi => by
      have := hcm i hi
      simp [this])
    rw [this]
    exact h0
  · intro i s h hs
    have hlt := (List.getElem?_eq_some_iff.1 hs).1
    simp [hlt] at h
  · exact Nat.le_trans List.countP_le_length (by simp)

theorem own_slice {w : World} {base : Nat} {e : TypeId} {size : Nat} {v : Value} {n : Nat} {xs : List Value} (h : w.ownsRow base e size v n xs) : ∃ a c, v = .slice a n c := by
  rcases h.2 with ⟨rfl, rfl⟩ | ⟨g, cap, cur, rfl, _⟩
  · exact ⟨none, 0, rfl⟩
  · exact ⟨_, _, rfl⟩
theorem addr_add0 (b j : Nat) : (⟨b, 0, none⟩ : Addr).add j = ⟨b, j, none⟩ := by unfold Addr.add; split <;> simp_all

/-! ### One operation -/
/-- A new block with such cells. -/
theorem gen_alloc {o : Oper} {a : Act} {w : World} {K : Act → World → Prop} {S k n : Nat} {p : List Value → Prop} (cs : Array Value) (ty : TypeId) (h : (execOp a.eval o).run P w = .ok (.value (.slice (some ⟨w.heap.size, 0, none⟩) n n)) (w.alloc (.cells cs ty))) (hp : p cs.toList) (hst : StreamOk w S k)
    (hK : ∀ v w', (Spec.arr n p).holds S w' v → Keeps S w w' → StreamOk w' S k → K (a.put o.dst v) w') : Oper.wp P o a w K Q := by
  unfold Oper.wp; rw [h]
  refine hK _ _ ⟨w.heap.size, cs.toList, rfl, hp, by simp, fun j u hj => ?_⟩ ((Keeps.refl S w).alloc _) (hst.below (ext_alloc (Below.refl _ _)))
  · simpa using hj
/-- A call of a Go function, whose arguments are known. -/
theorem gen_call {o : Oper} {a : Act} {w : World} {K : Act → World → Prop} {R : Ending → World → Prop} (f : Nat) (vs : Array Value) (h : (execOp a.eval o).run P w = .ok (.enter f vs) w) (hc : Calls P f vs w R) (hR : ∀ e w', R e w' → ∃ v, e = .returned v ∧ K (a.put o.dst v) w') : Oper.wp P o a w K Q := by
  unfold Oper.wp; rw [h]
  refine Calls.mono hc fun e w' he => ?_
  obtain ⟨v, rfl, hk⟩ := hR e w' he
  exact hk
theorem gen_pure {o : Oper} {a : Act} {w : World} {K : Act → World → Prop} {v : Value} (h : (execOp a.eval o).run P w = .ok (.value v) w) (hK : K (a.put o.dst v) w) : Oper.wp P o a w K Q := by
  unfold Oper.wp; rw [h]; exact hK
end
section
variable {P : Program} {ops : Array Oper} {Q : Exit → Act → World → Prop}

/-- What is to be shown of an operation: it may look at what it waits for, and at what was there. A call hands out at most W numbers. -/
def LateOp (P : Program) (ops : Array Oper) (Q : Exit → Act → World → Prop) (a0 : Act) (S k W : Nat) (w0 : World) (specs : List Spec) (calls : List Nat) (i : Nat) (o : Oper) (s : Spec) : Prop :=
  ∀ (a : Act) (w : World) (c : Nat), Keeps S w0 w → StreamOk w S (k + W * c) → c + (if calls.contains i then 1 else 0) ≤ calls.length →
    (∀ t, ((ops.extract 0 specs.length).all fun o => o.dst != some t) = true → a.eval (.tmp t) = a0.eval (.tmp t)) →
    (∀ (j : Nat) (t : Tmp) (s' : Spec), (o.after.any fun e => Region.binds .any e && e.on == j) = true → dstOf ops j = some t → specs[j]? = some s' → s'.holds S w (a.eval (.tmp t))) →
    ∀ K : Act → World → Prop, (∀ v w', s.holds S w' v → Keeps S w w' → StreamOk w' S (k + W * (c + if calls.contains i then 1 else 0)) → K (a.put o.dst v) w') → Oper.wp P o a w K Q
def LateOps (P : Program) (ops : Array Oper) (Q : Exit → Act → World → Prop) (a0 : Act) (S k W : Nat) (w0 : World) (specs : List Spec) (calls : List Nat) : Nat → List Oper → List Spec → Prop
  | i, o :: os, s :: ss => LateOp P ops Q a0 S k W w0 specs calls i o s ∧ LateOps P ops Q a0 S k W w0 specs calls (i + 1) os ss
  | _, _, _ => True
theorem lateOps_at {a0 : Act} {S k W : Nat} {w0 : World} {specs : List Spec} {calls : List Nat} : ∀ (i : Nat) (os : List Oper) (ss : List Spec), LateOps P ops Q a0 S k W w0 specs calls i os ss → ∀ (j : Nat) (o : Oper) (s : Spec), os[j]? = some o → ss[j]? = some s → LateOp P ops Q a0 S k W w0 specs calls (i + j) o s
  | i, o :: os, s :: ss, h, 0, _, _, ho, hs => by simp at ho hs; subst ho; subst hs; exact h.1
  | i, o :: os, s :: ss, h, j + 1, o', s', ho, hs => by
    have := lateOps_at (i + 1) os ss h.2 j o' s' (by simpa using ho) (by simpa using hs)
    rw [show i + (j + 1) = i + 1 + j by omega]; exact this
  | i, [], _, _, j, _, _, ho, _ => by simp at ho
  | i, _ :: _, [], _, j, _, _, _, hs => by simp at hs

/-- Operation m waits, through others, for all ahead of it but number d: each of those is waited for by one behind it, up to m, that is not d. -/
def lateChk (ops : Array Oper) (m d : Nat) : Bool :=
  ((List.range m).all fun i => i == d || (List.range (m + 1)).any fun k => decide (i < k) && k != d && ((ops[k]?).map fun o => o.after.any fun e => Region.binds .any e && e.on == i).getD false) && decide (d < m)

theorem late_listed {m d : Nat} (hc : lateChk ops m d = true) {l : Array Bool} (hl : l.size = m + 1) (hcl : ClosedL ops l) {om : Oper} (hom : ops[m]? = some om) (hall : ∀ e ∈ om.after, Region.binds .any e = true → l.getD e.on false = true) : ∀ i, i < m → i ≠ d → l.getD i true = true := by
  simp only [lateChk, Bool.and_eq_true, List.all_eq_true, List.any_eq_true, List.mem_range, decide_eq_true_eq, Bool.or_eq_true, beq_iff_eq, bne_iff_ne] at hc
  have main : ∀ n i, i < m → i ≠ d → m - i ≤ n → l.getD i false = true := by
    intro n
    induction n with
    | zero => intro i hi _ h; omega
    | succ n ih =>
      intro i hi hne h
      obtain ⟨k, hk, ⟨hik, hkd⟩, hk2⟩ := (hc.1 i hi).resolve_left hne
      cases ho : ops[k]? with
      | none => simp [ho] at hk2
      | some o =>
        simp only [ho, Option.map_some, Option.getD_some] at hk2
        obtain ⟨e, he, hb⟩ := Array.any_eq_true'.1 hk2
        simp only [Bool.and_eq_true, beq_iff_eq] at hb
        rcases Nat.lt_or_ge k m with hkm | hkm
        · rw [← hb.2]; exact hcl k o ho (ih k hkm hkd (by omega)) e he hb.1
        · obtain rfl : k = m := by omega
          rw [hom] at ho; cases ho
          rw [← hb.2]; exact hall e he hb.1
  intro i hi hne
  rw [getD_two (by omega) true false]
  exact main (m - i) i hi hne (Nat.le_refl _)

/-- Operation m waits, through others, for all ahead of it. -/
def lateAll (ops : Array Oper) (m : Nat) : Bool :=
  (List.range m).all fun i => (List.range (m + 1)).any fun k => decide (i < k) && ((ops[k]?).map fun o => o.after.any fun e => Region.binds .any e && e.on == i).getD false
theorem allW_listed {m : Nat} (hc : lateAll ops m = true) {l : Array Bool} (hl : l.size = m + 1) (hcl : ClosedL ops l) {om : Oper} (hom : ops[m]? = some om) (hall : ∀ e ∈ om.after, Region.binds .any e = true → l.getD e.on false = true) : ∀ i, i < m → l.getD i true = true := by
  simp only [lateAll, Bool.and_eq_true, List.all_eq_true, List.any_eq_true, List.mem_range, decide_eq_true_eq] at hc
  have main : ∀ n i, i < m → m - i ≤ n → l.getD i false = true := by
    intro n
    induction n with
    | zero => intro i hi h; omega
    | succ n ih =>
      intro i hi h
      obtain ⟨k, hk, hik, hk2⟩ := hc i hi
      cases ho : ops[k]? with
      | none => simp [ho] at hk2
      | some o =>
        simp only [ho, Option.map_some, Option.getD_some] at hk2
        obtain ⟨e, he, hb⟩ := Array.any_eq_true'.1 hk2
        simp only [Bool.and_eq_true, beq_iff_eq] at hb
        rcases Nat.lt_or_ge k m with hkm | hkm
        · rw [← hb.2]; exact hcl k o ho (ih k hkm (by omega)) e he hb.1
        · obtain rfl : k = m := by omega
          rw [hom] at ho; cases ho
          rw [← hb.2]; exact hall e he hb.1
  intro i hi
  rw [getD_two (by omega) true false]
  exact main (m - i) i hi (Nat.le_refl _)

theorem gen_late {m d W : Nat} {a0 : Act} {S k : Nat} {w0 : World} {specs : List Spec} {calls : List Nat} {st od : Oper} (hsz : ops.size = m + 1) (hc : genChk ops a0.tmps.size m calls = true) (hlen : specs.length = m) (hst : ops[m]? = some st) (hsg : st.guard = none) (hod : ops[d]? = some od) (hlate : lateChk ops m d = true) (hdc : d ∉ calls)
    (hdown : ∀ i, i < m + 1 → ∃ o, ops[i]? = some o ∧ ∀ e ∈ o.after, Region.binds .any e = true → e.on < i)
    (hstep : ∀ i o s, i < m → ops[i]? = some o → specs[i]? = some s → LateOp P ops Q a0 S k W w0 specs calls i o s)
    (hA : ∀ (vals : Nat → Value) (w : World), Keeps S w0 w → StreamOk w S (k + W * calls.length) → (∀ (i : Nat) (s : Spec), specs[i]? = some s → s.holds S w (vals i)) → lastQ P st Q .normal (putSome ops vals (fun _ => true) (List.range m) a0) w)
    (hB : lateAll ops m = false → ∀ (vals : Nat → Value) (w : World), Keeps S w0 w → StreamOk w S (k + W * calls.length) → (∀ (i : Nat) (s : Spec), i ≠ d → specs[i]? = some s → s.holds S w (vals i)) → lastQ P st (lastQ P od Q) .normal (putSome ops vals (fun i => i != d) (List.range m) a0) w) :
    ∀ (fuel : Nat) (l : Array Bool) (vals : Nat → Value) (w : World), l.size = m + 1 → l.getD m true = false → ClosedL ops l → Keeps S w0 w → StreamOk w S (k + W * calls.countP (fun i => l.getD i true)) → (∀ (i : Nat) (s : Spec), l.getD i true = true → specs[i]? = some s → s.holds S w (vals i)) → (l.toList.countP (fun b => !b) ≤ fuel) →
      wpAny P .any ops Q fuel l (putSome ops vals (fun i => l.getD i true) (List.range m) a0) w := by
  simp only [genChk, Bool.and_eq_true, List.all_eq_true, List.mem_range, decide_eq_true_eq, Bool.or_eq_true, beq_iff_eq] at hc
  obtain ⟨⟨⟨⟨⟨hdst, hgd⟩, hmn⟩, h1n⟩, hnd⟩, hcm⟩ := hc
  have hdm : d < m := by
    simp only [lateChk, Bool.and_eq_true, decide_eq_true_eq] at hlate
    exact hlate.2
  have dlt' : ∀ i t, dstOf ops i = some t → i < ops.size := by
    intro i t h
    rcases Nat.lt_or_ge i ops.size with h' | h'
    · exact h'
    · unfold dstOf at h; rw [Array.getElem?_eq_none h'] at h; cases h
  have dne : ∀ i j, i ≠ j → ∀ t, dstOf ops j = some t → dstOf ops i ≠ some t := by
    intro i j hij t hj hi
    have := (hdst i (dlt' i t hi) j (dlt' j t hj)).resolve_left hij
    simp [hi, hj] at this
  have dlt : ∀ i t, dstOf ops i = some t → t < a0.tmps.size := by
    intro i t hi
    have hj : ∃ j, j < ops.size ∧ i ≠ j := if h : i = 0 then ⟨1, by omega, by omega⟩ else ⟨0, by omega, h⟩
    obtain ⟨j, hj, hij⟩ := hj
    have := (hdst i (dlt' i t hi) j hj).resolve_left hij
    simp [hi] at this
    exact this.1
  have cntAll : ∀ l : Array Bool, (∀ i, i < m → i ≠ d → l.getD i true = true) → calls.countP (fun i => l.getD i true) = calls.length := fun l h => List.countP_eq_length.2 (fun i hi => h i (by simpa using hcm i hi) (fun e => hdc (e ▸ hi)))
  intro fuel
  induction fuel with
  | zero =>
    intro l vals w hl hlm hcl hk hstm hs hf
    exfalso
    have : 0 < l.toList.countP (fun b => !b) := List.countP_pos_iff.2 ⟨false, by
      have hlt : m < l.size := by omega
      have : l[m] = false := by simpa [hlt] using hlm
      rw [← this]; simp, rfl⟩
    omega
  | succ fuel ih =>
    intro l vals w hl hlm hcl hk hstm hs hf
    have cntSet : ∀ i, i < l.size → l.getD i true = false → (l.setIfInBounds i true).toList.countP (fun b => !b) + 1 = l.toList.countP (fun b => !b) := by
      intro i hilt hun
      have hli : l[i] = false := by simpa [hilt] using hun
      have hpos : 0 < l.toList.countP (fun b => !b) := List.countP_pos_iff.2 ⟨false, by rw [← hli]; simp, rfl⟩
      have := List.countP_set (p := fun b : Bool => !b) (l := l.toList) (i := i) (a := true) (by simpa using hilt)
      have e4 : l.toList[i]'(by simpa using hilt) = false := by simpa using hli
      rw [Array.toList_setIfInBounds, this, e4]
      rw [if_pos (by decide : (!false) = true), if_neg (by decide : ¬ (!true) = true)]
      omega
    refine ⟨fun h0 => ?_, fun i hi => ?_⟩
    · exfalso
      have hall : ∀ i, i < m + 1 → l.getD i true = true := by
        intro i
        induction i using Nat.strongRecOn with
        | _ i ihi =>
          intro hi
          rcases Bool.eq_false_or_eq_true (l.getD i true) with h | h
          · exact h
          · exfalso
            obtain ⟨o, ho, hd⟩ := hdown i hi
            have : i ∈ Region.ready .any ops l := mem_ready.2 ⟨h, o, ho, fun e he hb => by rw [getD_two (by have := hd e he hb; omega) false true]; exact ihi e.on (hd e he hb) (by have := hd e he hb; omega)⟩
            rw [h0] at this; cases this
      rw [hall m (by omega)] at hlm; cases hlm
    · obtain ⟨hun, o, ho, hall⟩ := mem_ready.1 hi
      have hile : i ≤ m := by have := (Array.getElem?_eq_some_iff.1 ho).1; omega
      by_cases him : i = m
      · subst him
        rw [hst] at ho; cases ho
        have hothers := late_listed hlate hl hcl hst hall
        unfold wpOp
        simp only [hst]
        rw [if_pos (by simp [Region.wanted, hsg])]
        rw [cntAll l hothers] at hstm
        by_cases hdl : l.getD d true = true
        · have e1 : putSome ops vals (fun j => l.getD j true) (List.range i) a0 = putSome ops vals (fun _ => true) (List.range i) a0 := putSome_congr _ _ (fun j hj => ⟨by
            by_cases hjd : j = d
            · rw [hjd]; exact hdl
            · exact hothers j (List.mem_range.1 hj) hjd, fun _ => rfl⟩)
          rw [e1]
          refine (hA vals w hk hstm (fun j s h => hs j s ?_ h)).imp (Oper.wp_mono (fun a' w' h' => wpAny_done (ready_all hsz fun j hj => ?_) h' fuel)) id
          · by_cases hjd : j = d
            · rw [hjd]; exact hdl
            · exact hothers j (by have := (List.getElem?_eq_some_iff.1 h).1; omega) hjd
          · by_cases hji : j = i
            · subst hji; simp [hl]
            · rw [getD_set_ne true (Ne.symm hji)]
              by_cases hjd : j = d
              · rw [hjd]; exact hdl
              · exact hothers j (by omega) hjd
        · have hdf : l.getD d true = false := by simpa using hdl
          have hla : lateAll ops i = false := by
            rcases Bool.eq_false_or_eq_true (lateAll ops i) with h | h
            · exact absurd (allW_listed h hl hcl hst hall d hdm) (by rw [hdf]; decide)
            · exact h
          have e1 : putSome ops vals (fun j => l.getD j true) (List.range i) a0 = putSome ops vals (fun j => j != d) (List.range i) a0 := putSome_congr _ _ (fun j hj => ⟨by
            by_cases hjd : j = d
            · rw [hjd, hdf]; simp
            · rw [hothers j (List.mem_range.1 hj) hjd]; simp [hjd], fun _ => rfl⟩)
          rw [e1]
          have hf1 : 1 ≤ fuel := by
            have h1 := cntSet d (by omega) hdf
            have h2 : 0 < (l.setIfInBounds d true).toList.countP (fun b => !b) := List.countP_pos_iff.2 ⟨false, by
              have hlt : i < (l.setIfInBounds d true).size := by simp; omega
              have : (l.setIfInBounds d true)[i] = false := by
                have h3 : (l.setIfInBounds d true).getD i true = false := by rw [getD_set_ne true (by omega)]; exact hlm
                rw [Array.getD_eq_getD_getElem?, Array.getElem?_eq_getElem hlt] at h3
                exact h3
              rw [← this]; exact Array.getElem_mem_toList _, rfl⟩
            omega
          obtain ⟨fuel', rfl⟩ : ∃ f, fuel = f + 1 := ⟨fuel - 1, by omega⟩
          have hg : od.guard = none := by
            have hx := hgd d hdm
            simpa [hod] using hx
          have hset : ∀ j, j < i + 1 → j ≠ d → (l.setIfInBounds i true).getD j true = true := by
            intro j hj hjd
            by_cases hji : j = i
            · subst hji; simp [hl]
            · rw [getD_set_ne true (Ne.symm hji)]; exact hothers j (by omega) hjd
          rcases hB hla vals w hk hstm (fun j s hjd h => hs j s (hothers j (by have := (List.getElem?_eq_some_iff.1 h).1; omega) hjd) h) with hq | hq
          · refine Or.inl ?_
            have conv : Oper.wp P st (putSome ops vals (fun j => j != d) (List.range i) a0) w (fun a' w' => lastQ P od Q .normal a' w') Q := by
              unfold Oper.wp at *
              generalize (execOp (putSome ops vals (fun j => j != d) (List.range i) a0).eval st).run P w = r at *
              cases r with
              | ok n w' =>
                cases n <;> simp only [Oper.upon] at hq ⊢ <;>
                  first
                    | exact hq
                    | exact Calls.mono hq (fun e w'' he => by cases e <;> exact he)
                    | exact Rows.mono hq (fun _ _ he => he)
              | halt x w' => cases x <;> simp only [Oper.upon] at hq ⊢ <;> exact hq
            refine Oper.wp_mono (fun a' w' h' => ?_) conv
            refine ⟨fun h0 => ?_, fun j hj => ?_⟩
            · exfalso
              obtain ⟨o2, ho2, hd2⟩ := hdown d (by omega)
              have : d ∈ Region.ready .any ops (l.setIfInBounds i true) := mem_ready.2 ⟨by rw [getD_set_ne true (by omega)]; exact hdf, o2, ho2, fun e he hb => by
                have := hd2 e he hb
                rw [getD_two (by simp; omega) false true]
                exact hset _ (by omega) (by omega)⟩
              rw [h0] at this; cases this
            · obtain ⟨hun2, o2, ho2, _⟩ := mem_ready.1 hj
              have hjle : j < i + 1 := by have := (Array.getElem?_eq_some_iff.1 ho2).1; omega
              obtain rfl : j = d := by
                apply Classical.byContradiction
                intro hjd
                rw [hset j hjle hjd] at hun2; cases hun2
              unfold wpOp
              simp only [hod]
              rw [if_pos (by simp [Region.wanted, hg])]
              refine h'.imp (Oper.wp_mono (fun a'' w'' h'' => wpAny_done (ready_all hsz fun q hq => ?_) h'' fuel')) id
              by_cases hqd : q = j
              · subst hqd; simp [show q < l.size by omega]
              · rw [getD_set_ne true (Ne.symm hqd)]; exact hset q hq hqd
          · exact Or.inr ⟨hq.1, by
              obtain ⟨a1, w1, h2⟩ := hq.2
              exact ⟨a1, w1, lastQ_other h2 (by simp)⟩⟩
      · have him' : i < m := by omega
        have hilt : i < l.size := by omega
        obtain ⟨s, hsi⟩ : ∃ s, specs[i]? = some s := ⟨specs[i]'(by omega), by simp⟩
        have hguard : o.guard = none := by
          have hx := hgd i him'
          simpa [ho] using hx
        have hdo : dstOf ops i = o.dst := by simp [dstOf, ho]
        unfold wpOp
        simp only [ho]
        rw [if_pos (by simp [Region.wanted, hguard])]
        refine Or.inl ?_
        have hcnt := countP_set calls hnd (fun j => l.getD j true) i hun
        refine hstep i o s him' ho hsi _ w (calls.countP fun j => l.getD j true) hk hstm ?_ ?_ ?_ _ ?_
        · rw [← hcnt]; exact List.countP_le_length
        · intro t ht
          refine putSome_eval_other _ _ (fun j hj => ?_)
          intro hjt
          have hjm := List.mem_range.1 hj
          unfold dstOf at hjt
          cases hoj : ops[j]? with
          | none => rw [hoj] at hjt; cases hjt
          | some oj =>
            rw [hoj] at hjt
            have h9 : (ops.extract 0 specs.length)[j]? = some oj := by rw [ext_get _ _ _ (by omega)]; exact hoj
            have := Array.all_eq_true_iff_forall_mem.1 ht oj (Array.mem_of_getElem? h9)
            simp at this hjt
            exact this hjt
        · intro j t s' hj ht hs'
          obtain ⟨e, he, hb⟩ := Array.any_eq_true'.1 hj
          simp only [Bool.and_eq_true, beq_iff_eq] at hb
          obtain ⟨hb, rfl⟩ := hb
          have hlt : e.on < m := by have := (List.getElem?_eq_some_iff.1 hs').1; omega
          have hon' : l.getD e.on true = true := by rw [getD_two (by omega) true false]; exact hall e he hb
          rw [putSome_eval (i := e.on) _ _ List.nodup_range (List.mem_range.2 hlt) hon' ht (dlt _ _ ht) (fun j _ hj => fun h2 => dne e.on j (Ne.symm hj) t h2 ht)]
          exact hs e.on s' hon' hs'
        · intro v w' hv hkw hst'
          have e2 := putSome_set (ops := ops) (vals := vals) (listed := fun j => l.getD j true) (i := i) v (List.range m) a0 List.nodup_range (List.mem_range.2 him') hun (fun j _ hj t ht => dne i j (Ne.symm hj) t ht)
          have e3 : (fun j => if j = i then true else l.getD j true) = fun j => (l.setIfInBounds i true).getD j true := by
            funext j
            by_cases hji : j = i
            · subst hji; simp [hilt]
            · simp only [hji, if_false]; rw [getD_set_ne true (Ne.symm hji)]
          rw [← hdo, ← e2, e3]
          refine ih _ _ w' (by simpa using hl) (by rw [getD_set_ne true him]; exact hlm) (hcl.set hi) (hk.trans hkw) ?_ ?_ ?_
          · rw [← e3, hcnt]; exact hst'
          · intro j s' hj hs'
            by_cases hji : j = i
            · subst hji
              rw [hsi] at hs'; cases hs'
              simp only [if_true]; exact hv
            · simp only [hji, if_false]
              rw [getD_set_ne true (Ne.symm hji)] at hj
              exact (hs j s' hj hs').keeps hkw
          · have := cntSet i hilt hun
            omega

theorem tailQ_wp {k : Nat} {o : Oper} {a : Act} {w : World} {K : Act → World → Prop} (h : Oper.wp P o a w K Q) : Oper.wp P o a w K (tailQ P ops Q k) := by
  unfold Oper.wp at *
  generalize (execOp a.eval o).run P w = r at *
  cases r with
  | ok n w' =>
    cases n <;> simp only [Oper.upon] at h ⊢ <;>
      first
        | exact h
        | exact Calls.mono h (fun e w'' he => by cases e <;> exact he)
        | exact Rows.mono h (fun _ _ he => he)
  | halt x w' => cases x <;> simp only [Oper.upon] at h ⊢ <;> exact h

theorem toTail_of {L : List Oper} : ∀ (l : List Oper), (∀ o ∈ l, o.guard = none) → ∀ a w, wpList P L.toArray Q l a w → tailQ.wpTail P Q l a w := by
  intro l
  induction l with
  | nil => intro _ a w h; exact h
  | cons o l ih =>
    intro hg a w h
    unfold wpList at h
    rw [if_pos (by simp [Region.wanted, hg o List.mem_cons_self])] at h
    exact h.imp (Oper.wp_mono (fun a w h => ih (fun o ho => hg o (List.mem_cons_of_mem _ ho)) a w h)) (fun h => h)

theorem forVals_skip {S : Nat} {w : World} {K : Act → Prop} {vals : Nat → Value} {ops : Array Oper} {d : Nat} : ∀ (ss : List Spec) (i : Nat) (a : Act), ForVals S w K (((List.range' i ss.length).map (dstOf ops)).eraseIdx (d - i)) (ss.eraseIdx (d - i)) a → i ≤ d → d < i + ss.length → (∀ (j : Nat) (s : Spec), i + j ≠ d → ss[j]? = some s → s.holds S w (vals (i + j))) → K (putSome ops vals (fun j => j != d) (List.range' i ss.length) a)
  | [], i, a, h, _, h2, _ => by simp at h2; omega
  | s :: ss, i, a, h, h1, h2, hs => by
    by_cases hid : i = d
    · subst hid
      simp only [Nat.sub_self, List.length_cons, List.range'_succ, List.map_cons, List.eraseIdx_cons_zero] at h
      have := forVals_all (vals := vals) ss (i + 1) a h (fun j s' hj => by have := hs (j + 1) s' (by omega) (by simpa using hj); rwa [show i + (j + 1) = i + 1 + j by omega] at this)
      simp only [putSome, List.length_cons, List.range'_succ, List.foldl_cons, bne_self_eq_false, Bool.false_eq_true, if_false] at this ⊢
      have e : ∀ (l : List Nat) (a : Act), (∀ j ∈ l, j ≠ i) → List.foldl (fun a j => if (j != i) = true then a.put (dstOf ops j) (vals j) else a) a l = List.foldl (fun a j => a.put (dstOf ops j) (vals j)) a l := by
        intro l
        induction l with
        | nil => intro a _; rfl
        | cons x xs ih =>
          intro a hx
          have hxi := hx x (by simp)
          have hb : (x != i) = true := by simpa using hxi
          simp only [List.foldl_cons, hb, if_true]
          exact ih _ (fun j hj => hx j (by simp [hj]))
      rw [e _ _ (fun j hj => by have := List.mem_range'_1.1 hj; omega)]
      simpa using this
    · have hsub : d - i = (d - (i + 1)) + 1 := by omega
      rw [hsub] at h
      simp only [List.length_cons, List.range'_succ, List.map_cons, List.eraseIdx_cons_succ] at h
      have h1' : ForVals S w K (((List.range' (i + 1) ss.length).map (dstOf ops)).eraseIdx (d - (i + 1))) (ss.eraseIdx (d - (i + 1))) (a.put (dstOf ops i) (vals i)) := h (vals i) (hs 0 s (by omega) rfl)
      have := forVals_skip ss (i + 1) _ h1' (by omega) (by simp at h2; omega) (fun j s' hj hj2 => by have := hs (j + 1) s' (by omega) (by simpa using hj2); rwa [show i + (j + 1) = i + 1 + j by omega] at this)
      simp only [putSome, List.length_cons, List.range'_succ, List.foldl_cons, bne_iff_ne, ne_eq, hid, not_false_eq_true, if_true] at this ⊢
      exact this

/-- **A region that draws its order**: shown for all orders at once; operation m comes behind all of the first m but, it may be, number d. -/
theorem region_lateC {L : List Oper} {id : Nat} {a0 : Act} {w : World} (S k W m d : Nat) (specs : List Spec) (calls : List Nat) (ds : List (Option Tmp)) {st od : Oper} (hm : P.follows .mixedOrders = true) (hc : genChk L.toArray a0.tmps.size m calls = true) (hc2 : ((L.toArray.extract 0 (m + 1)).size == m + 1) = true) (ht : tailChk L.toArray (m + 1) = true) (hd : downChk L.toArray (m + 1) = true) (hlate : lateChk (L.toArray.extract 0 (m + 1)) m d = true) (hlen : specs.length = m)
    (hds : (List.range m).map (dstOf L.toArray) = ds) (hst : L[m]? = some st) (hod : L[d]? = some od) (hsg : (st.guard.isNone && od.guard.isNone && decide (d ∉ calls)) = true) (h0 : StreamOk w S k)
    (hstep : LateOps P L.toArray (tailQ P L.toArray Q (m + 1)) a0 S k W w.drew specs calls 0 (L.take m) specs)
    (hA : ∀ w', Keeps S w.drew w' → StreamOk w' S (k + W * calls.length) → ForVals S w' (fun a => wpList P L.toArray Q (st :: L.drop (m + 1)) a w') ds specs a0)
    (hB : lateAll (L.toArray.extract 0 (m + 1)) m = false → ∀ w', Keeps S w.drew w' → StreamOk w' S (k + W * calls.length) → ForVals S w' (fun a => wpList P L.toArray Q (st :: od :: L.drop (m + 1)) a w') (ds.eraseIdx d) (specs.eraseIdx d) a0) : (Code.region id L.toArray true).wp P Q a0 w := by
  subst hlen
  simp only [Bool.and_eq_true, Option.isNone_iff_eq_none, decide_eq_true_eq] at hsg
  obtain ⟨⟨hsg, hog⟩, hdc⟩ := hsg
  have hsz : (L.toArray.extract 0 (specs.length + 1)).size = specs.length + 1 := by simpa using hc2
  have hmL : specs.length + 1 ≤ L.length := by simp at hsz; omega
  have hdm : d < specs.length := by
    simp only [lateChk, Bool.and_eq_true, decide_eq_true_eq] at hlate
    exact hlate.2
  have tailNone : ∀ o ∈ L.drop (specs.length + 1), o.guard = none := by
    intro o ho
    obtain ⟨j, hj⟩ := List.getElem?_of_mem ho
    rw [List.getElem?_drop] at hj
    have hlt := (List.getElem?_eq_some_iff.1 hj).1
    have h := List.all_eq_true.1 ht (specs.length + 1 + j) (List.mem_range.2 (by simpa using hlt))
    simp only [Bool.or_eq_true, decide_eq_true_eq, Bool.and_eq_true] at h
    have h2 := (h.resolve_left (by omega)).2
    rw [show L.toArray[specs.length + 1 + j]? = some o by simpa using hj] at h2
    simpa using h2
  have hdown : ∀ i, i < specs.length + 1 → ∃ o, (L.toArray.extract 0 (specs.length + 1))[i]? = some o ∧ ∀ e ∈ o.after, Region.binds .any e = true → e.on < i := by
    intro i hi
    have h := List.all_eq_true.1 hd i (List.mem_range.2 hi)
    rw [ext_get _ _ _ hi]
    cases ho : L.toArray[i]? with
    | none => rw [ho] at h; cases h
    | some o =>
      rw [ho] at h
      simp only [Option.map_some, Option.getD_some] at h
      refine ⟨o, rfl, fun e he hb => ?_⟩
      have h1 := Array.all_eq_true_iff_forall_mem.1 h e he
      simpa [hb] using h1
  have dEq : ∀ j, j < specs.length → dstOf (L.toArray.extract 0 (specs.length + 1)) j = dstOf L.toArray j := fun j hj => by unfold dstOf; rw [ext_get _ _ _ (by omega)]
  have pEq : ∀ (vals : Nat → Value) (f : Nat → Bool) (l : List Nat), (∀ j ∈ l, j < specs.length) → ∀ a, putSome (L.toArray.extract 0 (specs.length + 1)) vals f l a = putSome L.toArray vals f l a := by
    intro vals f l
    induction l with
    | nil => intro _ a; rfl
    | cons j l ih =>
      intro hl a
      have ih' := ih (fun i hi => hl i (List.mem_cons_of_mem _ hi))
      simp only [putSome, List.foldl_cons] at ih' ⊢
      rw [dEq j (hl j List.mem_cons_self)]
      exact ih' _
  have hc' : genChk (L.toArray.extract 0 (specs.length + 1)) a0.tmps.size specs.length calls = true := by
    simp only [genChk, Bool.and_eq_true, List.all_eq_true, List.mem_range, decide_eq_true_eq, Bool.or_eq_true, beq_iff_eq] at hc ⊢
    obtain ⟨⟨⟨⟨⟨hdst, hgd⟩, hmn⟩, h1n⟩, hnd⟩, hcm⟩ := hc
    refine ⟨⟨⟨⟨⟨fun i hi j hj => ?_, fun i hi => ?_⟩, by omega⟩, by omega⟩, hnd⟩, hcm⟩
    · rw [hsz] at hi hj
      have := hdst i (by simp; omega) j (by simp; omega)
      have ei : dstOf (L.toArray.extract 0 (specs.length + 1)) i = dstOf L.toArray i := by unfold dstOf; rw [ext_get _ _ _ hi]
      have ej : dstOf (L.toArray.extract 0 (specs.length + 1)) j = dstOf L.toArray j := by unfold dstOf; rw [ext_get _ _ _ hj]
      rw [ei, ej]; exact this
    · rw [ext_get _ _ _ (by omega)]; exact hgd i hi
  refine wp_region_any hm ?_
  refine tail_any (specs.length + 1) ht (L.length - (specs.length + 1)) (specs.length + 1) (by simp; omega) (Nat.le_refl _) a0 _ ?_
  have g := gen_late (P := P) (ops := L.toArray.extract 0 (specs.length + 1)) (Q := tailQ P L.toArray Q (specs.length + 1)) (m := specs.length) (d := d) (W := W) (a0 := a0) (S := S) (k := k) (w0 := w.drew) (specs := specs) (calls := calls) (st := st) (od := od) hsz hc' rfl (by rw [ext_get _ _ _ (by omega)]; simpa using hst) hsg (by rw [ext_get _ _ _ (by omega)]; simpa using hod) hlate hdc hdown ?_ ?_ ?_ (specs.length + 1) (Array.replicate (specs.length + 1) false) (fun _ => undef) w.drew (by simp) (by simp) ?_ (Keeps.refl _ _) ?_ ?_ ?_
  · have e0 : ∀ (l : List Nat), (∀ i ∈ l, i < specs.length) → ∀ a, putSome (L.toArray.extract 0 (specs.length + 1)) (fun _ => undef) (fun i => (Array.replicate (specs.length + 1) false).getD i true) l a = a := by
      intro l
      induction l with
      | nil => intro _ a; rfl
      | cons j l ih =>
        intro hl a
        have hj := hl j List.mem_cons_self
        have ih' := ih (fun i hi => hl i (List.mem_cons_of_mem _ hi))
        simp only [putSome, List.foldl_cons] at ih' ⊢
        rw [show (Array.replicate (specs.length + 1) false).getD j true = false by simp [show j < specs.length + 1 by omega]]
        exact ih' a
    rw [e0 _ (fun i hi => List.mem_range.1 hi) a0] at g
    exact g
  · intro i o s hi ho hs a w' c hk hst2 hcc hfr hdp K hK
    have hoL : L[i]? = some o := by rw [ext_get _ _ _ (by omega)] at ho; simpa using ho
    have st2 := lateOps_at 0 _ _ hstep i o s (by rw [List.getElem?_take_of_lt hi]; exact hoL) hs
    rw [Nat.zero_add] at st2
    refine st2 a w' c hk hst2 hcc (fun t ht => hfr t ?_) (fun j t s' hj ht hs' => hdp j t s' hj (by rw [dEq j (List.getElem?_eq_some_iff.1 hs').1]; exact ht) hs') K hK
    rw [Array.extract_extract] 
    simpa [Nat.min_eq_left (show specs.length ≤ specs.length + 1 by omega)] using ht
  · intro vals w' hk hst2 hs
    rw [pEq vals _ _ (fun j hj => List.mem_range.1 hj)]
    have h := hA w' hk hst2
    subst hds
    have h2 := forVals_all (S := S) (w := w') (vals := vals) (ops := L.toArray) (K := fun a => wpList P L.toArray Q (st :: L.drop (specs.length + 1)) a w') specs 0 a0 (by rw [← List.range_eq_range']; exact h) (fun j s hj => by rw [Nat.zero_add]; exact hs j s hj)
    rw [← List.range_eq_range'] at h2
    have h3 := toTail_of (st :: L.drop (specs.length + 1)) (fun o ho => by
      rcases List.mem_cons.1 ho with rfl | ho
      · exact hsg
      · exact tailNone o ho) _ _ h2
    exact h3.imp (fun h => tailQ_wp h) (fun h => h)
  · intro hla vals w' hk hst2 hs
    rw [pEq vals _ _ (fun j hj => List.mem_range.1 hj)]
    have h := hB hla w' hk hst2
    subst hds
    have h2 := forVals_skip (S := S) (w := w') (vals := vals) (ops := L.toArray) (d := d) (K := fun a => wpList P L.toArray Q (st :: od :: L.drop (specs.length + 1)) a w') specs 0 a0 (by rw [← List.range_eq_range']; exact h) (Nat.zero_le _) (by omega) (fun j s hne hj => by rw [Nat.zero_add] at hne ⊢; exact hs j s hne hj)
    rw [← List.range_eq_range'] at h2
    have h3 := toTail_of (st :: od :: L.drop (specs.length + 1)) (fun o ho => by
      rcases List.mem_cons.1 ho with rfl | ho
      · exact hsg
      · rcases List.mem_cons.1 ho with rfl | ho
        · exact hog
        · exact tailNone o ho) _ _ h2
    refine h3.imp (fun h => ?_) (fun h => h)
    have h4 := Oper.wp_mono (K' := fun a' w' => lastQ P od (tailQ P L.toArray Q (specs.length + 1)) .normal a' w') (fun a w h => h.imp (fun h => tailQ_wp h) (fun h => h)) h
    unfold Oper.wp at *
    generalize (execOp (putSome L.toArray vals (fun i => i != d) (List.range specs.length) a0).eval st).run P w' = r at *
    cases r with
    | ok n w' =>
      cases n <;> simp only [Oper.upon] at h4 ⊢ <;>
        first
          | exact h4
          | exact Calls.mono h4 (fun e w'' he => by cases e <;> exact he)
          | exact Rows.mono h4 (fun _ _ he => he)
    | halt x w' => cases x <;> simp only [Oper.upon] at h4 ⊢ <;> exact h4
  · intro i o _ hl
    exfalso
    by_cases h' : i < specs.length + 1
    · simp [h'] at hl
    · simp [h'] at hl
  · have : calls.countP (fun i => (Array.replicate (specs.length + 1) false).getD i true) = 0 := List.countP_eq_zero.2 (fun i hi => by
      have h5 := hc
      simp only [genChk, Bool.and_eq_true, List.all_eq_true, decide_eq_true_eq] at h5
      have := h5.2 i hi
      simp [show i < specs.length + 1 by omega])
    rw [this, Nat.mul_zero]
    exact h0
  · intro i s h hs
    have hlt := (List.getElem?_eq_some_iff.1 hs).1
    simp [show i < specs.length + 1 by omega] at h
  · exact Nat.le_trans List.countP_le_length (by simp)
theorem region_late {L : List Oper} {id : Nat} {a0 : Act} {w : World} (S k W m d : Nat) (specs : List Spec) (calls : List Nat) (ds : List (Option Tmp)) {st od : Oper} (hm : P.follows .mixedOrders = true) (hc : genChk L.toArray a0.tmps.size m calls = true) (hc2 : ((L.toArray.extract 0 (m + 1)).size == m + 1) = true) (ht : tailChk L.toArray (m + 1) = true) (hd : downChk L.toArray (m + 1) = true) (hlate : lateChk (L.toArray.extract 0 (m + 1)) m d = true) (hlen : specs.length = m)
    (hds : (List.range m).map (dstOf L.toArray) = ds) (hst : L[m]? = some st) (hod : L[d]? = some od) (hsg : (st.guard.isNone && od.guard.isNone && decide (d ∉ calls)) = true) (h0 : StreamOk w S k)
    (hstep : LateOps P L.toArray (tailQ P L.toArray Q (m + 1)) a0 S k W w.drew specs calls 0 (L.take m) specs)
    (hA : ∀ w', Keeps S w.drew w' → StreamOk w' S (k + W * calls.length) → ForVals S w' (fun a => wpList P L.toArray Q (st :: L.drop (m + 1)) a w') ds specs a0)
    (hB : ∀ w', Keeps S w.drew w' → StreamOk w' S (k + W * calls.length) → ForVals S w' (fun a => wpList P L.toArray Q (st :: od :: L.drop (m + 1)) a w') (ds.eraseIdx d) (specs.eraseIdx d) a0) : (Code.region id L.toArray true).wp P Q a0 w :=
  region_lateC S k W m d specs calls ds hm hc hc2 ht hd hlate hlen hds hst hod hsg h0 hstep hA (fun _ => hB)
/-- The same where operation m waits, through others, for all ahead of it (d: any one that is no call): one end goal. -/
theorem region_all {L : List Oper} {id : Nat} {a0 : Act} {w : World} (S k W m d : Nat) (specs : List Spec) (calls : List Nat) (ds : List (Option Tmp)) {st od : Oper} (hm : P.follows .mixedOrders = true) (hc : genChk L.toArray a0.tmps.size m calls = true) (hc2 : ((L.toArray.extract 0 (m + 1)).size == m + 1) = true) (ht : tailChk L.toArray (m + 1) = true) (hd : downChk L.toArray (m + 1) = true) (hlate : (lateAll (L.toArray.extract 0 (m + 1)) m && lateChk (L.toArray.extract 0 (m + 1)) m d) = true) (hlen : specs.length = m)
    (hds : (List.range m).map (dstOf L.toArray) = ds) (hst : L[m]? = some st) (hod : L[d]? = some od) (hsg : (st.guard.isNone && od.guard.isNone && decide (d ∉ calls)) = true) (h0 : StreamOk w S k)
    (hstep : LateOps P L.toArray (tailQ P L.toArray Q (m + 1)) a0 S k W w.drew specs calls 0 (L.take m) specs)
    (hA : ∀ w', Keeps S w.drew w' → StreamOk w' S (k + W * calls.length) → ForVals S w' (fun a => wpList P L.toArray Q (st :: L.drop (m + 1)) a w') ds specs a0) : (Code.region id L.toArray true).wp P Q a0 w := by
  rw [Bool.and_eq_true] at hlate
  exact region_lateC S k W m d specs calls ds hm hc hc2 ht hd hlate.2 hlen hds hst hod hsg h0 hstep hA (fun h => by rw [hlate.1] at h; cases h)
theorem heap_alloc_new (w : World) (o : Obj) : (w.alloc o).heap[w.heap.size]? = some o := by
  show (w.heap.push o)[w.heap.size]? = some o
  simp
/-- A new block behind a pointer. -/
theorem gen_box {o : Oper} {a : Act} {w : World} {K : Act → World → Prop} {S k : Nat} {p : World → Value → Prop} (cs : Array Value) (ty : TypeId) (h : (execOp a.eval o).run P w = .ok (.value (.pointer (some ⟨w.heap.size, 0, none⟩))) (w.alloc (.cells cs ty))) (hp : ∀ w', Keeps S (w.alloc (.cells cs ty)) w' → p w' (.pointer (some ⟨w.heap.size, 0, none⟩))) (hst : StreamOk w S k)
    (hK : ∀ v w', (Spec.mem p).holds S w' v → Keeps S w w' → StreamOk w' S k → K (a.put o.dst v) w') : Oper.wp P o a w K Q := by
  unfold Oper.wp; rw [h]
  exact hK _ _ hp ((Keeps.refl S w).alloc _) (hst.below (ext_alloc (Below.refl _ _)))
/-- What was there before, asked on a list (quick to reckon). -/
theorem fr_list {ops : Array Oper} {n : Nat} {R : Tmp → Prop} (h : ∀ t, ((ops.extract 0 n).all fun o => o.dst != some t) = true → R t) (t : Tmp) (hl : ((ops.toList.take n).all fun o => o.dst != some t) = true) : R t := by
  refine h t ?_
  rw [← Array.all_toList, Array.toList_extract, List.extract_eq_take_drop]
  simpa using hl
end
end Go.Proofs.YtamlhapiehchoaaGreatDoor.NoS
