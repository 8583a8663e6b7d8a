/- What is proved here: what Losses tells of right arrivals adds up. Condition: what is handed in lies in memory as stated. -/
import Derived.Test.YtdjlchhfpomaiaaDoorNumbers
import Derived.Test.YtdjlchhfpomaiaaDoorSeenSet
import Derived.Test.YtdjlchhfpomaiaaDoorGenPick
set_option linter.unusedVariables false
set_option linter.unusedSimpArgs false
namespace Go.Proofs.YtdjlchhfpomaiaaDoor
open Go.RowKit

/-- The record of losses lies in block L. -/
structure LossAt (w : World) (L : Nat) (due mis tw lt jit : Int) : Prop where
  c0 : w.cell? ⟨L, 0, none⟩ = some (.int .i64 due)
  c1 : w.cell? ⟨L, 1, none⟩ = some (.int .i64 mis)
  c2 : w.cell? ⟨L, 2, none⟩ = some (.int .i64 tw)
  c3 : w.cell? ⟨L, 3, none⟩ = some (.int .i64 lt)
  c4 : w.cell? ⟨L, 4, none⟩ = some (.int .i64 jit)
  fro : ∀ j, w.frozen? ⟨L, j, none⟩ = false
  lt_ : L < w.heap.size

theorem LossAt.keeps {w w' : World} {L S : Nat} {due mis tw lt jit : Int} (h : LossAt w L due mis tw lt jit) (hk : Keeps S w w') (hS : L ≠ S) : LossAt w' L due mis tw lt jit := by
  have cc := fun j => hk.cell (p := ⟨L, j, none⟩) h.lt_ hS
  exact ⟨(cc 0).trans h.c0, (cc 1).trans h.c1, (cc 2).trans h.c2, (cc 3).trans h.c3, (cc 4).trans h.c4, fun j => (hk.frozen (p := ⟨L, j, none⟩) h.lt_ hS).trans (h.fro j), Nat.lt_of_lt_of_le h.lt_ hk.size⟩
theorem LossAt.set0 {w : World} {L : Nat} {due mis tw lt jit : Int} (h : LossAt w L due mis tw lt jit) (v : Int) : LossAt (w.setCell ⟨L, 0, none⟩ (.int .i64 v)) L v mis tw lt jit := by
  have cc := fun j => (World.cell?_setCell_other w ⟨L, 0, none⟩ ⟨L, j, none⟩ (.int .i64 v))
  exact ⟨World.cell?_setCell_same _ _ _ h.c0, (cc 1 (by simp)).trans h.c1, (cc 2 (by simp)).trans h.c2, (cc 3 (by simp)).trans h.c3, (cc 4 (by simp)).trans h.c4, fun j => by rw [World.frozen?_setCell]; exact h.fro j, by simpa using h.lt_⟩
theorem LossAt.set1 {w : World} {L : Nat} {due mis tw lt jit : Int} (h : LossAt w L due mis tw lt jit) (v : Int) : LossAt (w.setCell ⟨L, 1, none⟩ (.int .i64 v)) L due v tw lt jit := by
  have cc := fun j => (World.cell?_setCell_other w ⟨L, 1, none⟩ ⟨L, j, none⟩ (.int .i64 v))
  exact ⟨(cc 0 (by simp)).trans h.c0, World.cell?_setCell_same _ _ _ h.c1, (cc 2 (by simp)).trans h.c2, (cc 3 (by simp)).trans h.c3, (cc 4 (by simp)).trans h.c4, fun j => by rw [World.frozen?_setCell]; exact h.fro j, by simpa using h.lt_⟩
theorem LossAt.set2 {w : World} {L : Nat} {due mis tw lt jit : Int} (h : LossAt w L due mis tw lt jit) (v : Int) : LossAt (w.setCell ⟨L, 2, none⟩ (.int .i64 v)) L due mis v lt jit := by
  have cc := fun j => (World.cell?_setCell_other w ⟨L, 2, none⟩ ⟨L, j, none⟩ (.int .i64 v))
  exact ⟨(cc 0 (by simp)).trans h.c0, (cc 1 (by simp)).trans h.c1, World.cell?_setCell_same _ _ _ h.c2, (cc 3 (by simp)).trans h.c3, (cc 4 (by simp)).trans h.c4, fun j => by rw [World.frozen?_setCell]; exact h.fro j, by simpa using h.lt_⟩
theorem LossAt.set3 {w : World} {L : Nat} {due mis tw lt jit : Int} (h : LossAt w L due mis tw lt jit) (v : Int) : LossAt (w.setCell ⟨L, 3, none⟩ (.int .i64 v)) L due mis tw v jit := by
  have cc := fun j => (World.cell?_setCell_other w ⟨L, 3, none⟩ ⟨L, j, none⟩ (.int .i64 v))
  exact ⟨(cc 0 (by simp)).trans h.c0, (cc 1 (by simp)).trans h.c1, (cc 2 (by simp)).trans h.c2, World.cell?_setCell_same _ _ _ h.c3, (cc 4 (by simp)).trans h.c4, fun j => by rw [World.frozen?_setCell]; exact h.fro j, by simpa using h.lt_⟩
theorem LossAt.set4 {w : World} {L : Nat} {due mis tw lt jit : Int} (h : LossAt w L due mis tw lt jit) (v : Int) : LossAt (w.setCell ⟨L, 4, none⟩ (.int .i64 v)) L due mis tw lt v := by
  have cc := fun j => (World.cell?_setCell_other w ⟨L, 4, none⟩ ⟨L, j, none⟩ (.int .i64 v))
  exact ⟨(cc 0 (by simp)).trans h.c0, (cc 1 (by simp)).trans h.c1, (cc 2 (by simp)).trans h.c2, (cc 3 (by simp)).trans h.c3, World.cell?_setCell_same _ _ _ h.c4, fun j => by rw [World.frozen?_setCell]; exact h.fro j, by simpa using h.lt_⟩

/-- The first loop: what was seen lies in block B, a new one. -/
structure LossSt (w2 wr : World) (L B k : Nat) (ns : List Int) (lt : Int) : Prop where
  at_ : LossAt wr L 0 0 ((k : Int) - ((diffTo ns k).length : Int)) lt 0
  seen : SeenAt wr B k (diffTo ns k)
  kp : Keeps L w2 wr
  late0 : 0 ≤ lt
  late1 : lt ≤ k

theorem keeps_of_grown {w w' : World} {b : Nat} (h : w.grownBy w' (some b)) : Keeps b w w' :=
  ⟨h.os, h.tape, h.output, h.size, fun k hk hn => h.block k hk (fun e => hn (by injection e))⟩

theorem LossSt.step {w2 wr w3 w' : World} {L B k : Nat} {ns : List Int} {lt lt' : Int} (h : LossSt w2 wr L B k ns lt) (hB : w2.heap.size ≤ B) (hL : L < w2.heap.size) (hk3 : Keeps L wr w3) (hat : LossAt w3 L 0 0 ((k : Int) + 1 - ((diffTo ns (k + 1)).length : Int)) lt' 0) (l0 : 0 ≤ lt') (l1 : lt' ≤ k + 1) (hs : SeenAt w' B (k + 1) (if (diffTo ns k).contains (ns.getD k 0) then diffTo ns k else diffTo ns k ++ [ns.getD k 0])) (hg : w3.grownBy w' (some B)) : LossSt w2 w' L B (k + 1) ns lt' := by
  refine ⟨?_, ?_, ?_, l0, by omega⟩
  · have := hat.keeps (keeps_of_grown hg) (by omega)
    rw [show (((k + 1 : Nat)) : Int) = (k : Int) + 1 by omega]
    exact this
  · exact hs
  · exact (h.kp.trans hk3).grown0 hg (fun b e => by injection e with e; omega)

def LossPost (n : Nat) (w : World) (e : Ending) (w' : World) : Prop :=
  ∃ due mis tw lt jit : Int, e = .returned (.tuple #[.agg #[.int .i64 due, .int .i64 mis, .int .i64 tw, .int .i64 lt, .int .i64 jit], .int .i64 0]) ∧ 0 ≤ mis ∧ mis ≤ 1000000000 ∧ 0 ≤ tw ∧ tw ≤ n ∧ 0 ≤ jit ∧ (n : Int) - tw + mis = due ∧ Below w.heap.size w w'

set_option maxRecDepth 100000 in
set_option maxHeartbeats 4000000 in
theorem losses_any (w : World) (a : Option Addr) (n cap : Nat) (l : List Arr) (hr : ArrRow w a n l) (hok : ArrOk l) :
    Calls Tryd.prog 15 #[.slice a n cap] w (LossPost n w) := by
  have hmm := @run_makeMap Tryd.prog
  have HR := Lib.hid hr
  have HOK := Lib.hid hok
  have hn : n ≤ 2000 := by have := hok.few; have := hr.len; omega
  clear hr hok
  go_enter Tryd.func15, Tryd.ntmps15
  go_wp2_with fail
  refine (checkArrivals_ok _ a n cap l (HR.out.below (ext_alloc (Below.refl _ _))) HOK.out).mono ?_
  rintro e w1 ⟨rfl, hb1⟩
  have rc : Hid (∀ j, w1.cell? ⟨w.heap.size, j, none⟩ = (w.alloc (.cells #[.int .i64 0, .int .i64 0, .int .i64 0, .int .i64 0, .int .i64 0] 44)).cell? ⟨w.heap.size, j, none⟩) := fun j => hb1.cell (p := ⟨w.heap.size, j, none⟩) (by simp)
  have rf : Hid (∀ j, w1.frozen? ⟨w.heap.size, j, none⟩ = (w.alloc (.cells #[.int .i64 0, .int .i64 0, .int .i64 0, .int .i64 0, .int .i64 0] 44)).frozen? ⟨w.heap.size, j, none⟩) := fun j => hb1.frozen (p := ⟨w.heap.size, j, none⟩) (by simp)
  have z1 : w.heap.size + 1 ≤ w1.heap.size := by have := hb1.size; simp at this; omega
  have HB1 : Hid (Below w.heap.size w w1) := ext_trans (ext_alloc (Below.refl _ _)) hb1
  have HRL : Hid (LossAt w1 w.heap.size 0 0 0 0 0) := ⟨(rc.out 0).trans (by go_simp), (rc.out 1).trans (by go_simp), (rc.out 2).trans (by go_simp), (rc.out 3).trans (by go_simp), (rc.out 4).trans (by go_simp), fun j => (rf.out j).trans (by go_simp), by omega⟩
  clear hb1 rc rf
  by_cases hn0 : n = 0
  · have r0 := HRL.out.c0
    have r1 := HRL.out.c1
    have r2 := HRL.out.c2
    have r3 := HRL.out.c3
    have r4 := HRL.out.c4
    have f0 := HRL.out.fro 0
    have f1 := HRL.out.fro 1
    have f2 := HRL.out.fro 2
    have f3 := HRL.out.fro 3
    have f4 := HRL.out.fro 4
    have HBW : Hid (∀ w', Keeps w.heap.size w1 w' → Below w.heap.size w w') := fun w' hk => HB1.out.trans (hk.below (by omega) (Nat.le_refl _))
    have HKW := Lib.hid ((((((Keeps.refl w.heap.size w1).setCell (p := ⟨w.heap.size, 0, none⟩) rfl (.int .i64 0)).setCell (p := ⟨w.heap.size, 1, none⟩) rfl (.int .i64 0)).setCell (p := ⟨w.heap.size, 2, none⟩) rfl (.int .i64 0)).setCell (p := ⟨w.heap.size, 3, none⟩) rfl (.int .i64 0)).setCell (p := ⟨w.heap.size, 4, none⟩) rfl (.int .i64 0))
    go_wp2_with fail
    refine bodyPost_ret (v := .tuple #[.agg #[.int .i64 0, .int .i64 0, .int .i64 0, .int .i64 0, .int .i64 0], .int .i64 0]) (by simp [results, Tryd.results15, go_sem, r0, r1, r2, r3, r4]) rfl ⟨0, 0, 0, 0, 0, rfl, by omega, by omega, by omega, by omega, by omega, by omega, HBW.out _ HKW.out⟩
  · have hn1 : ¬ (n : Int) = 0 := by omega
    have hn2 : ((n : Int) == 0) = false := by simp; omega
    go_wp2_with fail
    refine (numbers_any _ a n cap l (HR.out.below (ext_alloc HB1.out)) HOK.out).mono ?_
    rintro e w2 ⟨v, rfl, hown, hb2⟩
    rw [← HR.out.len] at hown
    obtain ⟨va, vc, rfl, hrow, hat⟩ := IRow.of_own_at hown
    have HNS : Hid (∀ i, i < n → 0 ≤ (numsL l).getD i 0 ∧ (numsL l).getD i 0 ≤ 70000000) := fun i hi => by
      have h1 := nums_ok _ (seqsOf_ok HOK.out) l.length (by simp [seqsOf])
      have h2 := h1.each i (by rw [← HR.out.len]; exact hi)
      have h3 := HR.out.len
      unfold numsL
      omega
    have HNL : Hid ((numsL l).length = n) := by
      show _ = _
      rw [HR.out.len]
      exact (nums_ok _ (seqsOf_ok HOK.out) l.length (by simp [seqsOf])).len
    have hbA : Below w1.heap.size w1 w2 := ext_trans (ext_alloc (Below.refl _ _)) hb2
    have lc := fun j => hb2.cell (p := ⟨w1.heap.size, j, none⟩) (by simp)
    have lf := fun j => hb2.frozen (p := ⟨w1.heap.size, j, none⟩) (by simp)
    have z2 : w1.heap.size + 1 ≤ w2.heap.size := by have := hb2.size; simp at this; omega
    have HLA : Hid (LossAt w2 w1.heap.size 0 0 0 0 0) := ⟨(lc 0).trans (by go_simp), (lc 1).trans (by go_simp), (lc 2).trans (by go_simp), (lc 3).trans (by go_simp), (lc 4).trans (by go_simp), fun j => (lf j).trans (by go_simp), by omega⟩
    have HRA : Hid (LossAt w2 w.heap.size 0 0 0 0 0) := HRL.out.keeps (S := w2.heap.size) (Keeps.of_below hbA) (by omega)
    have HB2 : Hid (Below w.heap.size w w2) := HB1.out.trans (hbA.mono (by omega))
    obtain ⟨vb, vo, rfl, hvb⟩ : ∃ vb vo, va = some ⟨vb, vo, none⟩ ∧ w1.heap.size + 1 ≤ vb := by
      rcases hrow.2 with h0 | ⟨b, off, e, _⟩
      · omega
      · exact ⟨b, off, e, by have := hat b off e; simpa using this⟩
    have HROW := Lib.hid hrow
    have hc0 : w2.cell? ⟨vb, vo, none⟩ = some (.int .i64 ((numsL l).getD 0 0)) := by
      rcases hrow.2 with h0 | ⟨b, off, e, _, hc⟩
      · omega
      · injection e with e; injection e with e1 e2; subst e1; subst e2; exact hc 0 (by omega)
    have e1 : (0 : Int) < n := by omega
    have e2 : 0 < n := by omega
    generalize numsL l = ns at *
    obtain ⟨x0, hx0⟩ : ∃ x0, x0 = ns.getD 0 0 := ⟨_, rfl⟩
    rw [← hx0] at hc0
    have HX0 := Lib.hid hx0
    clear hx0
    clear hown hb2 hbA lc lf hrow hat HB1 HRL hn1 hn2 hn0
    go_wp2_with fail
    go_quiet (fail)
    go_wp2_with fail
    have HST0 : Hid (LossSt w2 ((w2.drewN nq).alloc (.map #[] 0)) w1.heap.size w2.heap.size 0 ns 0) :=
      ⟨HLA.out.keeps (S := w2.heap.size + 1) (Keeps.of_below (ext_alloc (ext_drewN (Below.refl _ _)))) (by omega), SeenAt.made _, Keeps.of_below (ext_alloc (ext_drewN (Below.refl _ _))), by omega, by omega⟩
    go_loopw [7, 8, 35] (fun le gr it wr => ∃ (k : Nat) (lt : Int), k ≤ n ∧ it = .int .i64 k ∧ le = .int .i64 (leastTo ns k) ∧ gr = .int .i64 (mostTo ns k) ∧ Hid (LossSt w2 wr w1.heap.size w2.heap.size k ns lt)) (fun _ _ it _ => n - (intOf it).toNat)
    case atStart => exact ⟨0, 0, Nat.zero_le _, rfl, by rw [HX0.out]; rfl, by rw [HX0.out]; rfl, HST0⟩
    case round =>
      obtain ⟨k, lt, hk, rfl, rfl, rfl, HST⟩ := hrel
      by_cases hlt : k < n
      · have hx := HNS.out k hlt
        have c0 : wr.cell? ⟨vb, vo + k, none⟩ = some (.int .i64 (ns.getD k 0)) := by
          have hI := HROW.out.keeps HST.out.kp (fun b off e => by injection e with e; injection e with e1 e2; omega)
          rcases hI.2 with h0 | ⟨b, off, e, _, hc⟩
          · omega
          · injection e with e; injection e with e1 e2; subst e1; subst e2; exact hc k hlt
        have hwf := seen_wf (x := ns.getD k 0) (by omega) (by omega)
        have HWF := Lib.hid hwf
        have hlook := HST.out.seen.look hwf
        have t2 := HST.out.at_.c2
        have t3 := HST.out.at_.c3
        have f2 := HST.out.at_.fro 2
        have f3 := HST.out.at_.fro 3
        have zL := HST.out.at_.lt_
        have lt0 := HST.out.late0
        have lt1 := HST.out.late1
        have hdl := diff_len ns k
        have hkm : Hid (k < maxLen) := by show _ < _; unfold maxLen; omega
        have HLS : Hid (leastTo ns (k + 1) = min (leastTo ns k) (ns.getD k 0)) := rfl
        have HMS : Hid (mostTo ns (k + 1) = max (mostTo ns k) (ns.getD k 0)) := rfl
        have HDS : Hid (diffTo ns (k + 1) = if (diffTo ns k).contains (ns.getD k 0) then diffTo ns k else diffTo ns k ++ [ns.getD k 0]) := rfl
        have HSE := Lib.hid HST.out.seen
        have HAT := Lib.hid HST.out.at_
        have HSTEP := Lib.hid (fun w3 w' lt' => HST.out.step (w3 := w3) (w' := w') (lt' := lt') (Nat.le_refl _) (by omega))
        generalize leastTo ns k = le at HLS
        generalize mostTo ns k = gr at HMS
        generalize ns.getD k 0 = x at c0 hx HWF hlook HLS HMS HDS HSTEP
        generalize diffTo ns k = ds at hlook t2 hdl HDS HSE HAT HSTEP
        clear hwf
        by_cases hc : ds.contains x = true
        · have hd1 : Hid (diffTo ns (k + 1) = ds) := by show _ = _; rw [HDS.out, if_pos hc]
          have HC := Lib.hid hc
          rw [hc] at hlook
          clear hc
          go_wp2_with (at_mapUpdate; refine wpList_seen _ rfl _ _ _ rfl w2.heap.size k ds rfl (HSE.out.setCell (by show w2.heap.size ≠ w1.heap.size; omega) _) hkm.out x rfl rfl HWF.out ?_; intro w4 hs4 hg4)
          have hnew := HSTEP.out _ _ lt ((Keeps.refl w1.heap.size wr).setCell (p := ⟨w1.heap.size, 2, none⟩) rfl _) (by rw [hd1.out, show (k : Int) + 1 - (ds.length : Int) = (k : Int) - (ds.length : Int) + 1 by omega]; exact HAT.out.set2 _) lt0 (by omega) hs4 hg4
          go_roundw
          case rel => exact ⟨k + 1, lt, hlt, by go_num, by rw [HLS.out], by rw [HMS.out], hnew⟩
          case measure => simp [intOf]; omega
        · have hc2 : ds.contains x = false := by simpa using hc
          have hd1 : Hid (diffTo ns (k + 1) = ds ++ [x]) := by show _ = _; rw [HDS.out, if_neg hc]
          have hd2 : Hid ((k : Int) + 1 - ((ds ++ [x]).length : Int) = (k : Int) - (ds.length : Int)) := by show _ = _; simp; omega
          rw [hc2] at hlook
          clear hc hc2
          by_cases hxg : x < gr
          · go_wp2_with (at_mapUpdate; refine wpList_seen _ rfl _ _ _ rfl w2.heap.size k ds rfl (HSE.out.setCell (by show w2.heap.size ≠ w1.heap.size; omega) _) hkm.out x rfl rfl HWF.out ?_; intro w4 hs4 hg4)
            have hnew := HSTEP.out _ _ (lt + 1) ((Keeps.refl w1.heap.size wr).setCell (p := ⟨w1.heap.size, 3, none⟩) rfl _) (by rw [hd1.out, hd2.out]; exact HAT.out.set3 _) (by omega) (by omega) hs4 hg4
            go_roundw
            case rel => exact ⟨k + 1, lt + 1, hlt, by go_num, by rw [HLS.out], by rw [HMS.out], hnew⟩
            case measure => simp [intOf]; omega
          · go_wp2_with (at_mapUpdate; refine wpList_seen _ rfl _ _ _ rfl w2.heap.size k ds rfl HSE.out hkm.out x rfl rfl HWF.out ?_; intro w4 hs4 hg4)
            have hnew := HSTEP.out wr _ lt (Keeps.refl _ _) (by rw [hd1.out, hd2.out]; exact HAT.out) (by omega) (by omega) hs4 hg4
            go_roundw
            case rel => exact ⟨k + 1, lt, hlt, by go_num, by rw [HLS.out], by rw [HMS.out], hnew⟩
            case measure => simp [intOf]; omega
      · obtain rfl : k = n := by omega
        have hfew := diff_few ns k
        have hdl := diff_len ns k
        have hl := least_range ns 70000000 (fun i => by
          rcases Nat.lt_or_ge i k with h | h
          · exact HNS.out i h
          · rw [List.getD_eq_getElem?_getD, List.getElem?_eq_none (by rw [HNL.out]; exact h)]; simp) k
        have hm := most_range ns 70000000 (fun i => by
          rcases Nat.lt_or_ge i k with h | h
          · exact HNS.out i h
          · rw [List.getD_eq_getElem?_getD, List.getElem?_eq_none (by rw [HNL.out]; exact h)]; simp) k
        have t0 := HST.out.at_.c0
        have t1 := HST.out.at_.c1
        have f0 := HST.out.at_.fro 0
        have f1 := HST.out.at_.fro 1
        have zL := HST.out.at_.lt_
        have hcount := fun u ty => (HST.out.seen.setCell (a := ⟨w1.heap.size, 0, none⟩) (by show w2.heap.size ≠ w1.heap.size; omega) u).count ty
        have HAT := Lib.hid HST.out.at_
        have HKP := Lib.hid HST.out.kp
        generalize leastTo ns k = le at hfew hl
        generalize mostTo ns k = gr at hfew hm
        generalize diffTo ns k = ds at hfew hdl hcount HAT
        obtain ⟨hl0, hl1⟩ := hl
        obtain ⟨hm0, hm1⟩ := hm
        go_wp2_with fail
        have HA1 := Lib.hid ((HAT.out.set0 (gr - le + 1)).set1 (gr - le + 1 - (ds.length : Int)))
        have HK1 := Lib.hid ((HKP.out.setCell (p := ⟨w1.heap.size, 0, none⟩) rfl (.int .i64 (gr - le + 1))).setCell (p := ⟨w1.heap.size, 1, none⟩) rfl (.int .i64 (gr - le + 1 - (ds.length : Int))))
        clear hcount HAT HKP t0 t1 f0 f1
        go_loopw [12] (fun it wq => ∃ (q : Nat) (jit : Int), 1 ≤ q ∧ q ≤ k ∧ it = .int .i64 q ∧ 0 ≤ jit ∧ jit ≤ 1000000000000 * (q : Int) ∧ Hid (LossAt wq w1.heap.size (gr - le + 1) (gr - le + 1 - (ds.length : Int)) ((k : Int) - (ds.length : Int)) lt jit) ∧ Hid (Keeps w1.heap.size w2 wq)) (fun it _ => k - (intOf it).toNat)
        case atStart => exact ⟨1, 0, Nat.le_refl _, e2, rfl, by omega, by omega, HA1, HK1⟩
        case round =>
          obtain ⟨q, jit, hq1, hqk, rfl, hj0, hj1, HAQ, HKQ⟩ := hrel
          have HRQ := Lib.hid (HRA.out.keeps HKQ.out (by omega))
          have HBQ : Hid (Below w.heap.size w wr) := HB2.out.trans (HKQ.out.below (by omega) (by omega))
          by_cases hlq : q < k
          · rcases HR.out.row with h0 | ⟨b, off, rfl, hb, hc⟩
            · omega
            have hll : q < l.length := by rw [← HR.out.len]; exact hlq
            obtain ⟨c0, c1, c2, c3, c4, c5, c6⟩ := arr_cells (w := wr) (fun j hj => (HBQ.out.cell (p := ⟨b, off + q * 7 + j, none⟩) hb).trans (hc q hlq j hj))
            obtain ⟨d0, d1, d2, d3, d4, d5, d6⟩ := arr_cells (w := wr) (fun j hj => (HBQ.out.cell (p := ⟨b, off + (q - 1) * 7 + j, none⟩) hb).trans (hc (q - 1) (by omega) j hj))
            have hp1 := HOK.out.pkt q hll
            have hp0 := HOK.out.pkt (q - 1) (by omega)
            have a0 := HOK.out.at0 q hll
            have a1 := HOK.out.at1 q hll
            have b0 := HOK.out.at0 (q - 1) (by omega)
            have b1 := HOK.out.at1 (q - 1) (by omega)
            generalize l.getD q noArr = x at c0 c1 c2 c3 c4 c5 c6 hp1 a0 a1
            generalize l.getD (q - 1) noArr = y at d0 d1 d2 d3 d4 d5 d6 hp0 b0 b1
            have u0 := hp1.i0
            have u1 := hp1.i1
            have v0 := hp0.i0
            have v1 := hp0.i1
            have kq : ((q : Int) - 1).toNat = q - 1 := by omega
            have kr : 0 ≤ (q : Int) - 1 := by omega
            have ks : (q : Int) - 1 < k := by omega
            have g4 := HAQ.out.c4
            have f4 := HAQ.out.fro 4
            have zL := HAQ.out.lt_
            clear hc hp1 hp0 c1 c2 c4 c5 c6 d1 d2 d4 d5 d6
            go_wp2_with fail
            go_quiet (first | (go_at_call 31; refine Calls.quiet_of_same (v := .int .i64 (apartI x.p.time y.p.time)) ((apart_any _ _ _ u0 u1 v0 v1).mono ?_); rintro e w' ⟨rfl, rfl⟩; exact ⟨rfl, rfl⟩))
            obtain ⟨r0, r1⟩ := apartI_range x.p.time y.p.time
            generalize apartI x.p.time y.p.time = fr at *
            have hd : wrap64 (x.at_ - y.at_ - fr / 8) = x.at_ - y.at_ - fr / 8 := by unfold wrap64; omega
            generalize wrap64 (x.at_ - y.at_ - fr / 8) = d at *
            have d0 : -346000000000 ≤ d := by omega
            have d1 : d ≤ 346000000000 := by omega
            clear hd
            go_wp2_with fail
            have hj2 : 0 ≤ jit + (max d (-d) - (jit + 8) / 16) := by omega
            have hj3 : jit + (max d (-d) - (jit + 8) / 16) ≤ 1000000000000 * ((q + 1 : Nat) : Int) := by omega
            go_roundw
            case rel => exact ⟨q + 1, _, by omega, by omega, by go_num, hj2, hj3, (HAQ.out.keeps (S := w1.heap.size + 1) (Keeps.of_below (ext_drewN (Below.refl _ _))) (by omega)).set4 _, (HKQ.out.drewN _).setCell rfl _⟩
            case measure => simp [intOf]; omega
          · have r0 := HRQ.out.c0
            have r1 := HRQ.out.c1
            have r2 := HRQ.out.c2
            have r3 := HRQ.out.c3
            have r4 := HRQ.out.c4
            have p0 := HRQ.out.fro 0
            have p1 := HRQ.out.fro 1
            have p2 := HRQ.out.fro 2
            have p3 := HRQ.out.fro 3
            have p4 := HRQ.out.fro 4
            have g0 := HAQ.out.c0
            have g1 := HAQ.out.c1
            have g2 := HAQ.out.c2
            have g3 := HAQ.out.c3
            have g4 := HAQ.out.c4
            have HKW := Lib.hid ((((((Keeps.refl w.heap.size wr).setCell (p := ⟨w.heap.size, 0, none⟩) rfl (.int .i64 (gr - le + 1))).setCell (p := ⟨w.heap.size, 1, none⟩) rfl (.int .i64 (gr - le + 1 - (ds.length : Int)))).setCell (p := ⟨w.heap.size, 2, none⟩) rfl (.int .i64 ((k : Int) - (ds.length : Int)))).setCell (p := ⟨w.heap.size, 3, none⟩) rfl (.int .i64 lt)).setCell (p := ⟨w.heap.size, 4, none⟩) rfl (.int .i64 jit))
            have zR := HRQ.out.lt_
            go_wp2_with fail
            refine bodyPost_ret (v := .tuple #[.agg #[.int .i64 (gr - le + 1), .int .i64 (gr - le + 1 - (ds.length : Int)), .int .i64 ((k : Int) - (ds.length : Int)), .int .i64 lt, .int .i64 jit], .int .i64 0]) (by simp [results, Tryd.results15, go_sem, r0, r1, r2, r3, r4]) rfl ⟨_, _, _, _, _, rfl, by omega, by omega, by omega, by omega, hj0, by omega, HBQ.out.trans (HKW.out.below (by omega) (Nat.le_refl _))⟩
end Go.Proofs.YtdjlchhfpomaiaaDoor
