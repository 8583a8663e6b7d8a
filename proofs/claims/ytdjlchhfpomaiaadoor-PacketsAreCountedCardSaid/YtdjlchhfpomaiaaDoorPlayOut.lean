/- What is proved here: PlayOut of right arrivals, as a fold over lists. Condition: what is handed in lies in memory as stated. -/
import Derived.Test.YtdjlchhfpomaiaaDoorPlayRows
import Derived.Test.YtdjlchhfpomaiaaDoorGreat
set_option linter.unusedVariables false
set_option linter.unusedSimpArgs false
namespace Go.Proofs.YtdjlchhfpomaiaaDoor
open Go.RowKit

theorem made_bools (n : Nat) : (madeCells (Value.bool false).cells (n * 1)).toList = List.replicate n (Value.bool false) := by
  unfold madeCells
  apply List.ext_getElem
  · simp
  · intro i h1 h2; simp [Value.cells, Nat.mod_one]
theorem Tryd.infoBool : (Tryd.prog.info? 4).map (fun i => (i.zero, i.size, i.bytes)) = some (some (.bool false), 1, 1) := by kernel_rfl

theorem Tryd.underBools : Tryd.prog.underlying 71 = some (.slice 4) := by kernel_rfl

def playSt (l : List Arr) (delay : Int) (n k : Nat) : List Int × List Bool := playTo l delay (List.replicate n 0, List.replicate n false) k
def playL (l : List Arr) (delay : Int) (n : Nat) : List Int := hideTo (playSt l delay n l.length).2 (playSt l delay n l.length).1 n

theorem PlayRows.start {w1 w2 w3 : World} {base g h n : Nat} (bg : base ≤ g) (bh : base ≤ h) (ne : g ≠ h)
    (h1 : w3.ownsRow base 3 1 (.slice (some ⟨g, 0, none⟩) n n) n (madeCells (Value.int .i64 0).cells (n * 1)).toList)
    (h2 : w3.ownsRow base 4 1 (.slice (some ⟨h, 0, none⟩) n n) n (madeCells (Value.bool false).cells (n * 1)).toList) : PlayRows w3 base g h n (List.replicate n 0, List.replicate n false) := by
  rw [made_ints] at h1
  rw [made_bools] at h2
  exact ⟨by simp, by simp, ne, bg, bh, by simpa using h1, by simpa using h2⟩


theorem samples_set {xs : List Int} {i : Nat} {v : Int} (h : Samples xs) (h0 : -32768 ≤ v) (h1 : v ≤ 32767) : Samples (xs.set i v) := by
  intro x hx
  rcases List.mem_or_eq_of_mem_set hx with hx | rfl
  · exact h x hx
  · exact ⟨h0, h1⟩
theorem putI_samples {st : List Int × List Bool} {i b : Int} (h : Samples st.1) (h0 : 0 ≤ b) (h1 : b ≤ 255) : Samples (putI st i b).1 := by
  unfold putI
  split
  · exact samples_set h (expand_sample b h0 h1).1 (expand_sample b h0 h1).2.1
  · exact h
theorem payTo_samples {fr : Int} {pay : List Int} {st : List Int × List Bool} (h : Samples st.1) (hp : Bytes pay) : ∀ k, Samples (payTo fr pay st k).1
  | 0 => h
  | k + 1 => by
    rw [payTo]
    have hb : 0 ≤ pay.getD k 0 ∧ pay.getD k 0 ≤ 255 := by
      rcases Nat.lt_or_ge k pay.length with hk | hk
      · exact hp _ (mem_getD hk)
      · rw [List.getD_eq_getElem?_getD, List.getElem?_eq_none hk]; simp
    exact putI_samples (payTo_samples h hp k) hb.1 hb.2
theorem playTo_samples {l : List Arr} {delay : Int} {st : List Int × List Bool} (h : Samples st.1) (hp : ∀ k, k < l.length → Bytes (l.getD k noArr).p.pay) : ∀ k, k ≤ l.length → Samples (playTo l delay st k).1
  | 0, _ => h
  | k + 1, hk => by
    rw [playTo]
    split
    · exact playTo_samples h hp k (by omega)
    · exact payTo_samples (playTo_samples h hp k (by omega)) (hp k (by omega)) _
theorem half_range (x : Int) (h0 : -32768 ≤ x) (h1 : x ≤ 32767) : -32768 ≤ x.tdiv 2 ∧ x.tdiv 2 ≤ 32767 := by
  have h2 := Int.mul_tdiv_add_tmod x 2
  have h3 := Int.tmod_lt_of_pos x (show (0 : Int) < 2 by omega)
  have h4 : -2 < x.tmod 2 := Int.lt_tmod_of_pos x (by omega)
  omega
theorem hideTo_samples {ts : List Bool} {os : List Int} (h : Samples os) : ∀ k, Samples (hideTo ts os k)
  | 0 => h
  | k + 1 => by
    rw [hideTo]
    have ih := hideTo_samples (ts := ts) h k
    split
    · have hb : -32768 ≤ (hideTo ts os k).getD (k - 160) 0 ∧ (hideTo ts os k).getD (k - 160) 0 ≤ 32767 := by
        rcases Nat.lt_or_ge (k - 160) (hideTo ts os k).length with hk | hk
        · exact ih _ (mem_getD hk)
        · rw [List.getD_eq_getElem?_getD, List.getElem?_eq_none hk]; simp
      exact samples_set ih (half_range _ hb.1 hb.2).1 (half_range _ hb.1 hb.2).2
    · exact ih
theorem playSt_samples {l : List Arr} {delay : Int} {n : Nat} (hok : ArrOk l) (k : Nat) (hk : k ≤ l.length) : Samples (playSt l delay n k).1 :=
  playTo_samples (by intro x hx; have := List.eq_of_mem_replicate hx; omega) (fun k hk => (hok.pkt k hk).pay) k hk

set_option maxRecDepth 100000 in
set_option maxHeartbeats 4000000 in
theorem playOut_any (w : World) (a : Option Addr) (n cap : Nat) (l : List Arr) (delay : Int) (long : Nat) (hr : ArrRow w a n l) (hok : ArrOk l) (d0 : 0 ≤ delay) (d1 : delay ≤ 10000) (hlo : long ≤ 2500) (N : Nat) (hN : N = 8 * long) :
    Calls Tryd.prog 10 #[.slice a n cap, .int .i64 delay, .int .i64 long] w (RowPost .i64 3 (playL l delay N) w) := by
  obtain ⟨i0, hi, hz0, hz1, hz2⟩ := info_parts Tryd.infoInt
  obtain ⟨i1, hi1, hy0, hy1, hy2⟩ := info_parts Tryd.infoBool
  have HB8 : Hid (i0.bytes * N ≤ 281474976710656) := by show _ ≤ _; rw [hz2]; omega
  have HB1 : Hid (i1.bytes * N ≤ 281474976710656) := by show _ ≤ _; rw [hy2]; omega
  have HML : Hid (N ≤ maxLen) := by show _ ≤ maxLen; unfold maxLen; omega
  have HR := Lib.hid hr
  have HOK := Lib.hid hok
  have hn : n ≤ 2000 := by have := hok.few; have := hr.len; omega
  have HN := Lib.hid hN
  have hN2 : N ≤ 20000 := by omega
  clear hr hok hN
  go_enter Tryd.func10, Tryd.ntmps10
  go_wp2_with fail
  refine (checkArrivals_ok _ a n cap l HR.out HOK.out).mono ?_
  rintro e w1 ⟨rfl, hb1⟩
  have HB := Lib.hid hb1
  have hsz := hb1.size
  clear hb1
  go_wp2_with (first | (go_at_call 30; refine (within_m _ _ _ _ (by omega) (by omega)).mono ?_; rintro e w' ⟨rfl, rfl⟩) | (at_make; refine wpList_make_full _ rfl (.tmp 32) (.tmp 32) 22 rfl w.heap.size 3 i0 (.int .i64 0) 1 Tryd.underlying22 hi hz0 hz1 .i64 .i64 (8 * (long : Int)) (8 * (long : Int)) N (by simp [Act.eval]) (by simp [Act.eval]) (by have := HN.out; omega) (by have := HN.out; omega) HB8.out HML.out hsz ?_; intro w2 hown2 hgr2) | (at_make; refine wpList_make_full _ rfl (.tmp 35) (.tmp 35) 71 rfl w.heap.size 4 i1 (.bool false) 1 Tryd.underBools hi1 hy0 hy1 .i64 .i64 _ _ N (by simp [Act.eval]) (by simp [Act.eval]) rfl rfl HB1.out HML.out (Nat.le_trans hsz (below_of_grown_none hgr2).size) ?_; intro w3 hown3 hgr3))
  have HO2 := Lib.hid hown2
  have HW2 := Lib.hid (below_of_grown_none hgr2)
  have hsz2 := HW2.out.size
  clear hown2 hgr2
  have HP : Hid (PlayRows w3 w.heap.size w1.heap.size w2.heap.size N (playSt l delay N 0)) := by
    have hne : w1.heap.size < w2.heap.size := by
      rcases HO2.out.2 with ⟨h', _⟩ | ⟨g', cap', cur, h', hb, hg, _⟩
      · simp at h'
      · simp at h'
        obtain ⟨rfl, _⟩ := h'
        exact (Array.getElem?_eq_some_iff.1 hg).1
    exact PlayRows.start (w1 := w) (w2 := w) hsz (Nat.le_trans hsz hsz2) (by omega) (HO2.out.kept_below (below_of_grown_none hgr3)) hown3
  have HB3 : Hid (Below w.heap.size w w3) := HB.out.trans (Below.mono (HW2.out.trans (Below.mono (below_of_grown_none hgr3) hsz2)) hsz)
  have hsz3 := (below_of_grown_none hgr3).size
  clear hown3 hgr3 HO2 HW2 HB
  obtain ⟨wo, rfl⟩ : ∃ wo : World, wo = w3 := ⟨_, rfl⟩
  generalize w1.heap.size = g at *
  generalize w2.heap.size = h at *
  go_loopw [39] (fun it wr => ∃ k : Nat, k ≤ n ∧ it = .int .i64 k ∧ Hid (Below w.heap.size w wr) ∧ Hid (PlayRows wr w.heap.size g h N (playSt l delay N k))) (fun it _ => n - (intOf it).toNat)
  case atStart => exact ⟨0, Nat.zero_le _, rfl, HB3, HP⟩
  case round =>
    obtain ⟨k, hk, rfl, HBk, HPk⟩ := hrel
    by_cases hlt : k < n
    · rcases HR.out.row with h0 | ⟨b, off, rfl, hb, hc⟩
      · omega
      have hll : k < l.length := by rw [← HR.out.len]; exact hlt
      obtain ⟨c0, c1, c2, c3, c4, c5, c6⟩ := arr_cells (w := wr) (fun j hj => (HBk.out.cell (p := ⟨b, off + k * 7 + j, none⟩) hb).trans (hc k hlt j hj))
      obtain ⟨f0, f1, f2, f3, f4, f5, f6⟩ := arr_cells (w := wr) (x := l.getD 0 noArr) (o := off) (fun j hj => by simpa using (HBk.out.cell (p := ⟨b, off + 0 * 7 + j, none⟩) hb).trans (hc 0 (by omega) j hj))
      clear hc f1 f2 f4 f5 f6
      have hpk := HOK.out.pkt k hll
      have hp0 := HOK.out.pkt 0 (by omega)
      have ha0 := HOK.out.at0 k hll
      have ha1 := HOK.out.at1 k hll
      have ga0 := HOK.out.at0 0 (by omega)
      have ga1 := HOK.out.at1 0 (by omega)
      have HPAY := Lib.hid (HR.out.pays k hlt)
      have HST : Hid (playSt l delay N (k + 1) = if lateB l delay k then playSt l delay N k else payTo (apartI (l.getD k noArr).p.time (l.getD 0 noArr).p.time) (l.getD k noArr).p.pay (playSt l delay N k) (l.getD k noArr).p.pay.length) := rfl
      have HLA : Hid (lateB l delay k = decide ((l.getD 0 noArr).at_ + delay + apartI (l.getD k noArr).p.time (l.getD 0 noArr).p.time / 8 < (l.getD k noArr).at_)) := rfl
      have zb : b < wr.heap.size := by have := HBk.out.size; omega
      generalize l.getD k noArr = x at c0 c1 c2 c3 c4 c5 c6 hpk ha0 ha1 HPAY HST HLA
      generalize l.getD 0 noArr = y at f0 f3 hp0 ga0 ga1 HST HLA
      have t0 := hpk.i0
      have t1 := hpk.i1
      have s0 := hp0.i0
      have s1 := hp0.i1
      have HPL := Lib.hid hpk.few
      have HIB := Lib.hid hpk.pay
      clear hpk hp0
      have e1 : (0 : Int) < n := by omega
      have e2 : 0 < n := by omega
      go_wp2_with fail
      go_quiet (first | (go_at_call 31; refine Calls.quiet_of_same (v := .int .i64 (apartI x.p.time y.p.time)) ((apart_any _ _ _ t0 t1 s0 s1).mono ?_); rintro e w' ⟨rfl, rfl⟩; exact ⟨rfl, rfl⟩))
      obtain ⟨r0, r1⟩ := apartI_range x.p.time y.p.time
      generalize apartI x.p.time y.p.time = fr at *
      go_wp2_with fail
      go_quiet (fail)
      have HBA : Hid (∀ (o : Obj) m, Below wr.heap.size wr ((wr.alloc o).drewN m)) := fun o m => ext_drewN (ext_alloc (Below.refl _ wr))
      have hzk := HBk.out.size
      by_cases hla : y.at_ + delay + fr / 8 < x.at_
      · have hst : Hid (playSt l delay N (k + 1) = playSt l delay N k) := by
          show _ = _
          rw [HST.out, HLA.out, if_pos (by simpa using hla)]
        go_wp2_with fail
        go_roundw
        case rel => exact ⟨k + 1, by omega, by go_num, HBk.out.trans (Below.mono (HBA.out _ _) hzk), by show PlayRows _ _ _ _ _ _; rw [hst.out]; exact HPk.out.below (HBA.out _ _)⟩
        case measure => simp [intOf]; omega
      · have hst : Hid (playSt l delay N (k + 1) = payTo fr x.p.pay (playSt l delay N k) x.p.pay.length) := by
          show _ = _
          rw [HST.out, HLA.out, if_neg (by simpa using hla)]
        have HP4 := Lib.hid (fun (o : Obj) m => HPk.out.below (HBA.out o m))
        have HB4 := Lib.hid (fun (o : Obj) m => HBk.out.trans (Below.mono (HBA.out o m) hzk))
        go_wp2_with fail
        obtain ⟨hpl, hprow⟩ := HPAY.out
        have HPR := Lib.hid hprow
        have HLP := Lib.hid hpl
        clear hprow hpl HPAY
        have hp1000 := HPL.out
        have hpn : x.pn ≤ 1000 := by rw [HLP.out]; exact hp1000
        generalize x.pa = pa at *
        generalize x.pn = pn at *
        go_loopw [68] (fun it wq => ∃ j : Nat, j ≤ pn ∧ it = .int .i64 j ∧ Hid (Below w.heap.size w wq) ∧ Hid (PlayRows wq w.heap.size g h N (payTo fr x.p.pay (playSt l delay N k) j))) (fun it _ => pn - (intOf it).toNat)
        case atStart => exact ⟨0, Nat.zero_le _, rfl, HB4.out _ _, HP4.out _ _⟩
        case round =>
          obtain ⟨j, hj, rfl, HBj, HPj⟩ := hrel
          by_cases hlj : j < pn
          · rcases HPR.out with h0 | ⟨b2, off2, hpa, hb2, hc2⟩
            · omega
            have HNX : Hid (payTo fr x.p.pay (playSt l delay N k) (j + 1) = putI (payTo fr x.p.pay (playSt l delay N k) j) (fr + j) (x.p.pay.getD j 0)) := rfl
            have q0 := (HBj.out.cell (p := ⟨b2, off2 + j, none⟩) hb2).trans (hc2 j hlj)
            have hby := HIB.out (x.p.pay.getD j 0) (by rw [List.getD_eq_getElem?_getD, List.getElem?_eq_getElem (by rw [← HLP.out]; exact hlj)]; simp)
            have l1 := HPj.out.len1
            generalize x.p.pay.getD j 0 = bt at q0 hby HNX
            generalize payTo fr x.p.pay (playSt l delay N k) j = st at HPj HNX l1
            subst hpa
            clear hc2
            by_cases hz : 0 ≤ fr + (j : Int) ∧ fr + (j : Int) < N
            · obtain ⟨I, hI⟩ : ∃ I : Nat, fr + (j : Int) = I := ⟨(fr + (j : Int)).toNat, by omega⟩
              have hIN : I < N := by omega
              obtain ⟨u0, u1⟩ := HPj.out.bool hIN
              obtain ⟨v0, v1⟩ := HPj.out.int hIN
              have HTR := Lib.hid u0
              by_cases hth : st.2.getD I true = true
              · have hnx : Hid (payTo fr x.p.pay (playSt l delay N k) (j + 1) = st) := by
                  show _ = _
                  rw [HNX.out]; unfold putI; rw [if_neg (by rw [hI]; intro hh; have h3 := hh.2.2; rw [show ((I : Nat) : Int).toNat = I from rfl, hth] at h3; exact absurd h3 (by simp))]
                rw [hth] at u0
                go_wp2_with fail
                go_roundw
                case rel => exact ⟨j + 1, by omega, by go_num, HBj, by show PlayRows _ _ _ _ _ _; rw [hnx.out]; exact HPj.out⟩
                case measure => simp [intOf]; omega
              · have hth2 : st.2.getD I true = false := by simpa using hth
                have hnx : Hid (payTo fr x.p.pay (playSt l delay N k) (j + 1) = (st.1.set I (expandI bt), st.2.set I true)) := by
                  show _ = _
                  rw [HNX.out]; unfold putI; rw [if_pos ⟨hz.1, by rw [l1]; exact hz.2, by rw [hI]; simpa using hth2⟩, hI]; rfl
                rw [hth2] at u0
                have HFIN : Hid (PlayRows ((wr.setCell ⟨g, I, none⟩ (.int .i64 (expandI bt))).setCell ⟨h, I, none⟩ (.bool true)) w.heap.size g h N (st.1.set I (expandI bt), st.2.set I true)) := (HPj.out.setInt I (expandI bt)).setBool I true
                have hgh := HPj.out.ne
                have hbg := HPj.out.bg
                have hbh := HPj.out.bh
                go_wp2_with (go_at_call 28; refine (expand_any _ _ hby.1 hby.2).mono ?_; rintro e w' ⟨rfl, rfl⟩)
                go_roundw
                case rel => exact ⟨j + 1, by omega, by go_num, ext_setCell (ext_setCell HBj.out hbg) hbh, by show PlayRows _ _ _ _ _ _; rw [hnx.out]; exact HFIN.out⟩
                case measure => simp [intOf]; omega
            · have hnx : Hid (payTo fr x.p.pay (playSt l delay N k) (j + 1) = st) := by
                show _ = _
                rw [HNX.out]; unfold putI; rw [if_neg (by rw [l1]; exact fun hh => hz ⟨hh.1, hh.2.1⟩)]
              by_cases hz0 : 0 ≤ fr + (j : Int)
              · have hz1 : ¬ fr + (j : Int) < N := fun hh => hz ⟨hz0, hh⟩
                go_wp2_with fail
                go_roundw
                case rel => exact ⟨j + 1, by omega, by go_num, HBj, by show PlayRows _ _ _ _ _ _; rw [hnx.out]; exact HPj.out⟩
                case measure => simp [intOf]; omega
              · go_wp2_with fail
                go_roundw
                case rel => exact ⟨j + 1, by omega, by go_num, HBj, by show PlayRows _ _ _ _ _ _; rw [hnx.out]; exact HPj.out⟩
                case measure => simp [intOf]; omega
          · obtain rfl : j = pn := by omega
            go_wp2_with fail
            go_roundw
            case rel => exact ⟨k + 1, by omega, by go_num, HBj, by show PlayRows _ _ _ _ _ _; rw [hst.out, ← HLP.out]; exact HPj.out⟩
            case measure => simp [intOf]; omega
    · obtain rfl : k = n := by omega
      have HLN := Lib.hid HR.out.len
      have HPL : Hid (playL l delay N = hideTo (playSt l delay N k).2 (playSt l delay N k).1 N) := by
        show _ = _
        rw [HLN.out]; rfl
      have HSM : Hid (Samples (playSt l delay N k).1) := playSt_samples HOK.out k (by rw [← HLN.out]; exact Nat.le_refl _)
      generalize playSt l delay N k = st at HPk HPL HSM
      go_wp2_with fail
      go_loopw [103] (fun it wq => ∃ q : Nat, q ≤ N ∧ it = .int .i64 q ∧ Hid (Below w.heap.size w wq) ∧ Hid (PlayRows wq w.heap.size g h N (hideTo st.2 st.1 q, st.2))) (fun it _ => N - (intOf it).toNat)
      case atStart => exact ⟨0, Nat.zero_le _, rfl, HBk, HPk⟩
      case round =>
        obtain ⟨q, hq, rfl, HBq, HPq⟩ := hrel
        by_cases hlq : q < N
        · have HNX : Hid (hideTo st.2 st.1 (q + 1) = if st.2.getD q true = false ∧ 160 ≤ q then (hideTo st.2 st.1 q).set q ((hideTo st.2 st.1 q).getD (q - 160) 0 |>.tdiv 2) else hideTo st.2 st.1 q) := rfl
          obtain ⟨u0, u1⟩ := HPq.out.bool hlq
          obtain ⟨v0, v1⟩ := HPq.out.int hlq
          simp only at u0 v0
          have HSQ : Hid (Samples (hideTo st.2 st.1 q)) := hideTo_samples HSM.out q
          generalize hideTo st.2 st.1 q = os at HPq HNX v0 HSQ
          by_cases hth : st.2.getD q true = true
          · have hnx : Hid (hideTo st.2 st.1 (q + 1) = os) := by
              show _ = _
              rw [HNX.out, if_neg (by rw [hth]; simp)]
            rw [hth] at u0
            go_wp2_with fail
            go_roundw
            case rel => exact ⟨q + 1, by omega, by go_num, HBq, by show PlayRows _ _ _ _ _ _; rw [hnx.out]; exact HPq.out⟩
            case measure => simp [intOf]; omega
          · have hth2 : st.2.getD q true = false := by simpa using hth
            rw [hth2] at u0
            by_cases h160 : 160 ≤ q
            · obtain ⟨y0, y1⟩ := HPq.out.int (i := q - 160) (by omega)
              simp only at y0
              have hos : os.length = N := HPq.out.len1
              have hxr := HSQ.out _ (mem_getD (xs := os) (i := q - 160) (by omega))
              have kq : ((q : Int) - 160).toNat = q - 160 := by omega
              have kr : 0 ≤ (q : Int) - 160 := by omega
              have ks : (q : Int) - 160 < N := by omega
              have hnx : Hid (hideTo st.2 st.1 (q + 1) = os.set q ((os.getD (q - 160) 0).tdiv 2)) := by
                show _ = _
                rw [HNX.out, if_pos ⟨hth2, h160⟩]
              generalize os.getD (q - 160) 0 = x at y0 hxr hnx
              obtain ⟨x0, x1⟩ := hxr
              have HFIN : Hid (PlayRows (wr.setCell ⟨g, q, none⟩ (.int .i64 (x.tdiv 2))) w.heap.size g h N (os.set q (x.tdiv 2), st.2)) := HPq.out.setInt q (x.tdiv 2)
              have hbg := HPq.out.bg
              clear hos
              go_wp2_with fail
              go_roundw
              case rel => exact ⟨q + 1, by omega, by go_num, ext_setCell HBq.out hbg, by show PlayRows _ _ _ _ _ _; rw [hnx.out]; exact HFIN.out⟩
              case measure => simp [intOf]; omega
            · have hnx : Hid (hideTo st.2 st.1 (q + 1) = os) := by
                show _ = _
                rw [HNX.out, if_neg (fun hh => h160 hh.2)]
              go_wp2_with fail
              go_roundw
              case rel => exact ⟨q + 1, by omega, by go_num, HBq, by show PlayRows _ _ _ _ _ _; rw [hnx.out]; exact HPq.out⟩
              case measure => simp [intOf]; omega
        · obtain rfl : q = N := by omega
          have hfin : Hid (wr.ownsRow w.heap.size 3 1 (.slice (some ⟨g, 0, none⟩) q q) (playL l delay q).length ((playL l delay q).map (Value.int .i64))) := by
            show World.ownsRow _ _ _ _ _ _ _
            rw [HPL.out]
            have := HPq.out.ints
            rw [show (hideTo st.2 st.1 q).length = q from HPq.out.len1]
            exact this
          go_wp2_with fail
          go_ret2
          exact ⟨_, rfl, hfin.out, HBq.out⟩
end Go.Proofs.YtdjlchhfpomaiaaDoor
