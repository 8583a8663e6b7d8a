/- What is proved here: lemmas and contracts for the statement, put together out of smaller texts (Ready, LawWts, Laid). No condition beyond those stated. -/
import Derived.Test.YtamlhapiehchoaaGreatDoorWtPkA
import Derived.Test.YtamlhapiehchoaaGreatDoorWtPkJ
import Derived.Test.YtamlhapiehchoaaGreatDoorWtPkH
import Derived.Test.YtamlhapiehchoaaGreatDoorWtPkF
import Derived.Deep.DeepCutAuto
import Derived.Test.YtamlhapiehchoaaGreatDoorRows
import Derived.Test.YtamlhapiehchoaaGreatDoorTie
import Derived.Test.YtamlhapiehchoaaGreatDoorCards
import Derived.Test.YtamlhapiehchoaaGreatDoorWtPkC
import Derived.ProofKit
import Derived.OpenShut
import Derived.ShutString
import Derived.ChangeOld
import Derived.LaidMore
import Derived.Lay
import Derived.Lib.LaidU8
import Derived.SevenTiedAt
namespace Go.Proofs.YtamlhapiehchoaaGreatDoor
open Go.RowKit
set_option linter.unusedVariables false
set_option linter.unusedSimpArgs false

set_option maxHeartbeats 1000000 in
theorem errs_zero (w : World) (b n cap : Nat) (hn : n ≤ 100) (hc : ∀ i, i < n → w.cell? ⟨b, i, none⟩ = some (.int .i64 0)) :
    Calls Tryz.prog 24 #[.slice (some ⟨b, 0, none⟩) n cap] w fun e w' => e = .returned (.int .i64 0) ∧ w = w' := by
  have Hc := Lib.hid hc
  clear hc
  go_enter Tryz.func24, Tryz.ntmps24
  go_wp2_with fail
  go_loop [7] (fun i => ∃ k : Nat, k ≤ n ∧ i = .int .i64 k) (fun i => n - (intOf i).toNat)
  case atStart => exact ⟨0, Nat.zero_le _, rfl⟩
  case round =>
    obtain ⟨k, hk, rfl⟩ := hrel
    by_cases hlt : k < n
    · have hc := Hc.out k hlt
      go_wp2_with fail
      go_round
      case rel => exact ⟨k + 1, by omega, by go_num⟩
      case measure => simp [intOf]; omega
    · go_wp2_with fail
      go_ret
      exact ⟨rfl, rfl⟩

theorem expand_any (b : Int) (w : World) (h0 : 0 ≤ b) (h1 : b ≤ 255) :
    Calls Tryz.prog 41 #[.int .u8 b] w fun e w' => e = .returned (.int .i64 (expandI b)) ∧ w = w' := by
  have hw := Lib.hid (expand_wraps b h0 h1)
  by_cases hs : (255 - b) / 128 = 1
  · have hd : Hid (expandI b = -(((2 * ((255 - b) % 16) + 33) * 2 ^ ((255 - b) / 16 % 8).toNat - 33) * 4) - 1) := by show expandI b = _; unfold expandI; rw [if_pos hs]
    have hs2 : ((255 - b) / 128 == 1) = true := by simpa using hs
    clear hs
    go_enter Tryz.func41, Tryz.ntmps41
    go_wp2_with fail
    go_ret
    exact ⟨ret_int (by rw [hd.out]; exact hw.out.2), rfl⟩
  · have hd : Hid (expandI b = ((2 * ((255 - b) % 16) + 33) * 2 ^ ((255 - b) / 16 % 8).toNat - 33) * 4) := by show expandI b = _; unfold expandI; rw [if_neg hs]
    have hs2 : ((255 - b) / 128 == 1) = false := by simpa using hs
    clear hs
    go_enter Tryz.func41, Tryz.ntmps41
    go_wp2_with fail
    go_ret
    exact ⟨ret_int (by rw [hd.out]; exact hw.out.1), rfl⟩

def aClass : Cls := ⟨[43, 49], [97], 0, 0, 1000, 7⟩
theorem aClass_good : GoodCls aClass := ⟨by decide, by decide, by decide, by decide, by decide, by decide, by decide, by decide, by decide, by decide, by decide, by decide⟩

theorem ready_tariff (w : World) (b : Nat) (hb : b < w.heap.size) (h0 : w.cell? ⟨b, 0, none⟩ = some (.string ⟨#[43, 49]⟩)) (h1 : w.cell? ⟨b, 1, none⟩ = some (.string ⟨#[97]⟩)) (h2 : w.cell? ⟨b, 2, none⟩ = some (.int .i64 0)) (h3 : w.cell? ⟨b, 3, none⟩ = some (.int .i64 0)) (h4 : w.cell? ⟨b, 4, none⟩ = some (.int .i64 1000)) (h5 : w.cell? ⟨b, 5, none⟩ = some (.int .i64 7)) :
    TariffAt w (some ⟨b, 0, none⟩) 1 [aClass] 0 none 0 [] where
  row := ⟨rfl, by omega, Or.inr ⟨b, 0, rfl, hb, fun i hi j hj => by
    obtain rfl : i = 0 := by omega
    match j, hj with
    | 0, _ => exact h0
    | 1, _ => exact h1
    | 2, _ => exact h2
    | 3, _ => exact h3
    | 4, _ => exact h4
    | 5, _ => exact h5⟩⟩
  good := fun i hi => by
    obtain rfl : i = 0 := by omega
    exact aClass_good
  sorted := fun i h0 h1 => by simp at h1; omega
  ins := ⟨rfl, by omega, Or.inl rfl⟩
  keys := fun i hi => by omega
  order := fun i h0 h1 => by omega
  free0 := by omega
  free1 := by omega

set_option maxHeartbeats 1000000 in
theorem price_ready (w : World) (b : Nat) (hb : b < w.heap.size) (h0 : w.cell? ⟨b, 0, none⟩ = some (.string ⟨#[43, 49]⟩)) (h1 : w.cell? ⟨b, 1, none⟩ = some (.string ⟨#[97]⟩)) (h2 : w.cell? ⟨b, 2, none⟩ = some (.int .i64 0)) (h3 : w.cell? ⟨b, 3, none⟩ = some (.int .i64 0)) (h4 : w.cell? ⟨b, 4, none⟩ = some (.int .i64 1000)) (h5 : w.cell? ⟨b, 5, none⟩ = some (.int .i64 7)) :
    Calls Tryz.prog 40 #[.agg #[.slice (some ⟨b, 0, none⟩) 1 1, .int .i64 0, .slice none 0 0], .string ⟨#[43, 49, 50, 48, 48]⟩, .int .i64 1500] w fun e w' => e = .returned (.tuple #[.int .i64 14, .int .i64 0]) ∧ Below w.heap.size w w' := by
  refine (price_at (ready_tariff w b hb h0 h1 h2 h3 h4 h5) [43, 49, 50, 48, 48] (by decide) (by decide) 1500 (by omega) (by omega)).mono ?_
  rintro e w' ⟨hB, rfl⟩
  exact ⟨rfl, hB⟩

theorem expand_128 (w : World) : Calls Tryz.prog 41 #[.int .u8 128] w fun e w' => e = .returned (.int .i64 32124) ∧ w = w' := expand_any 128 w (by omega) (by omega)

set_option maxRecDepth 100000 in
set_option maxHeartbeats 2000000 in
theorem ready_true (w : World) (ht : TabAt w) : Calls Tryz.prog 11 #[] w fun e w' => e = .returned (.bool true) ∧ Below w.heap.size w w' := by
  have HT := Lib.hid ht
  clear ht
  go_enter Tryz.func11, Tryz.ntmps11
  go_wp2_with fail
  refine (least_ready _ HT.out).mono ?_
  rintro e w1 ⟨rfl, hB1⟩
  go_wp2_with fail
  refine (present_ready _).mono ?_
  rintro e w2 ⟨rfl, hB2⟩
  go_wp2_with fail
  refine (ends_ready _).mono ?_
  rintro e w3 ⟨rfl, hB3⟩
  go_wp2_with fail
  refine (price_ready _ _ ?_ ?_ ?_ ?_ ?_ ?_ ?_).mono ?_
  · simp
  iterate 6 (focus (go_simp; done))
  rintro e w4 ⟨rfl, hB4⟩
  go_wp2_with fail
  refine (errs_zero _ _ 4 4 (by omega) ?_).mono ?_
  · intro i hi
    match i, hi with
    | 0, _ => go_simp
    | 1, _ => go_simp
    | 2, _ => go_simp
    | 3, _ => go_simp
  rintro e w5 ⟨rfl, rfl⟩
  go_wp2_with fail
  refine (expand_128 _).mono ?_
  rintro e w6 ⟨rfl, rfl⟩
  go_wp2_with fail
  go_ret
  exact ⟨rfl, (by (try show Below _ _ _); repeat (with_reducible first | exact Below.refl _ _ | assumption | exact Hid.out (by assumption) | refine ext_alloc ?_ | refine ext_drewN ?_ | refine ext_drew ?_ | refine ext_setCell ?_ (Nat.le_refl _) | refine ext_setCell ?_ (Nat.le_succ _) | refine ext_trans ?_ (by assumption) | (refine ext_setCell ?_ (by simp)) | (refine ext_setCell ?_ (by simp at *; omega))))⟩
end Go.Proofs.YtamlhapiehchoaaGreatDoor

set_option linter.unusedVariables false
set_option linter.unusedSimpArgs false
namespace Go.Proofs.YtamlhapiehchoaaGreatDoor
open Go.RowKit Go.Lib

theorem key0 : ctxKey 0 = [99, 97] := by decide
theorem hit_shape (cs : List DCtx) (op : DRule → Bool) (d : List Nat) (l : List Nat) : ∃ s1 z1 z2 s2 s3, hitV cs op d l = [.string s1, .int .i64 z1, .int .i64 z2, .string s2, .string s3] := by
  unfold hitV
  split
  · exact ⟨_, _, _, _, _, rfl⟩
  · split
    · exact ⟨_, _, _, _, _, rfl⟩
    · exact ⟨_, _, _, _, _, rfl⟩
theorem dial_cat (d x : List Nat) : ((⟨(d.map signN).toArray⟩ : ByteArray) ++ (⟨(x.map signN).toArray⟩ : ByteArray)) = ⟨((d ++ x).map signN).toArray⟩ := by
  rw [cat_bytes, List.map_append]
theorem dial_both {d x : List Nat} (hd : ∀ j, j < d.length → d.getD j 0 < 12) (hx : ∀ j, j < x.length → x.getD j 0 < 12) : ∀ j, j < (d ++ x).length → (d ++ x).getD j 0 < 12 := fun j hj => by
  rw [List.length_append] at hj
  by_cases h : j < d.length
  · rw [List.getD_eq_getElem?_getD, List.getElem?_append_left h, ← List.getD_eq_getElem?_getD]; exact hd j h
  · rw [List.getD_eq_getElem?_getD, List.getElem?_append_right (by omega), ← List.getD_eq_getElem?_getD]; exact hx _ (by omega)
theorem bl_lwt0 (e : Operand → Value) (he : ∀ v, e (.const v) = v) (o : Oper) (w : World)  (z0 : Int) (z1 : Int) (ho : o.op = .buildSlice 22 2 #[(0, .const (.int .i64 z0)), (1, .const (.int .i64 z1))])  :
   (execOp e o).run Tryz.prog w = .ok (.value (.slice (some ⟨w.heap.size, 0, none⟩) 2 2)) (w.alloc (.cells #[.int .i64 z0, .int .i64 z1] 3)) := by
  unfold execOp
  rw [ho]
  simp only [List.map_toArray, List.map_cons, List.map_nil, he]
  kernel_rfl
set_option maxRecDepth 100000 in
set_option maxHeartbeats 40000000 in
theorem waits_true (w : World) (a0 : Option Addr) (len cap : Nat) (zs : List Int) (hr : ArgRow w a0 len cap zs) (ht : TabAt w) :
    Calls Tryz.prog 3 #[.slice a0 len cap] w fun e w' => e = .returned (.bool true) ∧ Below w.heap.size w w' := by
  have HS0 := Lib.hid (stream_start hr)
  have HT0 : Hid (TabAt (w.alloc (.cells #[.slice a0 len cap, .int .i64 0] 25))) := ht.below (ext_alloc (Below.refl _ _))
  have HTN : Hid (0 ≠ w.heap.size) := by have := ht.1; show _ ≠ _; omega
  have HEND : Hid (∀ W, Keeps w.heap.size (w.alloc (.cells #[.slice a0 len cap, .int .i64 0] 25)) W → Below w.heap.size w W) := fun W h => law_end h
  have hsz : w.heap.size < (w.alloc (.cells #[.slice a0 len cap, .int .i64 0] 25)).heap.size := by simp
  clear hr ht
  go_enter Tryz.func3, Tryz.ntmps3
  go_wp2_with fail
  refine (rightPlan_any w.heap.size 0 4 (by decide) _ HS0.out (by omega)).mono ?_
  rintro e w1 ⟨p, he, hfine, hst, hk'⟩
  obtain ⟨pp, hpp⟩ : ∃ x, x = p := ⟨_, rfl⟩
  have HFP : Hid (∀ W, Keeps w.heap.size w1 W → DPlanFine W pp) := by rw [hpp]; exact hfine
  have HPP := Lib.hid hpp
  obtain ⟨ca, cn, cc, ctxs, ha, hn, hcp, hrs⟩ := p
  have he2 : e = .returned (.agg #[.slice ca cn cc, .slice ha hn hcp]) := he
  subst he2
  clear he hfine hpp
  have HS1 := Lib.hid hst
  have HK1 := Lib.hid hk'
  clear hst hk' HS0
  as_aux_lemma =>
    go_wp2_with fail
    refine (rightDialled_any w.heap.size (0 + 400) _ HS1.out (by omega)).mono ?_
    rintro e w2 ⟨d, hd, hd1, hd6, rfl, hst, hk'⟩
    have HD := Lib.hid hd
    have HS2 := Lib.hid hst
    have HK2 := Lib.hid hk'
    clear hd hst hk' HS1
    as_aux_lemma =>
      go_wp2_with ((refine wpList_val rfl (bl_lwt0 _ (fun _ => rfl) _ _  0 32400000 rfl) ?_))
      refine (pick_lit w.heap.size (0 + 400 + 7) [0, 32400000] (fun x => x = 0 ∨ x = 32400000) _ _ _ HS2.out (by omega) rfl rfl (by decide) (by decide) (by decide)).mono ?_
      rintro e w3 ⟨at_, rfl, hz, hst, hk'⟩
      have HS3 := Lib.hid hst
      have HK3 := Lib.hid (HK2.out.trans hk')
      have hat0 : 0 ≤ at_ := by omega
      have hat1 : at_ ≤ 345686400000 := by omega
      have HMO : Hid (isMomB at_ = true) := Lib.hid (by rcases hz with rfl | rfl <;> decide)
      clear hz hst hk' HS2 HK2
      have hA : Below w3.heap.size w3 (w3.alloc (.cells #[.slice ca cn cc, .slice ha hn hcp] 29)) := ext_alloc (Below.refl _ _)
      have X4 : Hid (Blk (w3.alloc (.cells #[.slice ca cn cc, .slice ha hn hcp] 29)) w3.heap.size [.slice ca cn cc, .slice ha hn hcp] 29) := Blk.new _ _ _
      have HS4 := Lib.hid (HS3.out.below hA)
      have HK4 := Lib.hid (HK3.out.trans (Keeps.of_below hA))
      have hS3 : w.heap.size < w3.heap.size := HS3.out.lt
      have HWT : Hid (∀ W, Keeps w.heap.size w1 W → Calls Tryz.prog 9 #[.agg #[.slice ca cn cc, .slice ha hn hcp], .string ⟨#[99, 97]⟩, .string ⟨(d.map signN).toArray⟩, .int .i64 at_] W (WaitPost (nowB ctxs (opR pp at_) d (ordP pp 0)) (moreB ctxs (opR pp at_) d (ordP pp 0)) W)) := fun W hW => by
        have := waits_any W pp (HFP.out W hW) 0 (by decide) d HD.out hd1 (by omega) at_ HMO.out hat0 hat1
        rw [key0] at this
        rw [HPP.out] at this ⊢
        exact this
      have HDX : Hid (∀ x : List Nat, (∀ j, j < x.length → x.getD j 0 < 12) → 1 ≤ x.length → x.length ≤ 30 → ∀ W, Keeps w.heap.size w1 W → Calls Tryz.prog 10 #[.agg #[.slice ca cn cc, .slice ha hn hcp], .string ⟨#[99, 97]⟩, .string ⟨(x.map signN).toArray⟩, .int .i64 at_] W fun e w9 => (∃ s1 z1 z2 s2 s3, e = .returned (.tuple #[.agg #[.string s1, .int .i64 z1, .int .i64 z2, .string s2, .string s3], .int .i64 (decErr ctxs (opR pp at_) x (ordP pp 0))])) ∧ Below W.heap.size W w9) := fun x hx h1 h2 W hW => by
        have := decide_any W pp (HFP.out W hW) 0 (by decide) x hx h1 h2 at_ HMO.out hat0 hat1
        rw [key0] at this
        obtain ⟨s1, z1, z2, s2, s3, hs⟩ := hit_shape pp.ctxs (opR pp at_) x (ordP pp 0)
        unfold HitPost at this
        rw [hs] at this
        rw [HPP.out] at this ⊢
        exact this.mono fun e w9 h => ⟨⟨s1, z1, z2, s2, s3, h.1⟩, h.2⟩
      have HNOW : Hid (decErr ctxs (opR pp at_) d (ordP pp 0) ≠ 8 ↔ nowB ctxs (opR pp at_) d (ordP pp 0) = true) := decErr_iff
      have HMOR : Hid (∀ x : List Nat, 1 ≤ x.length → decErr ctxs (opR pp at_) (d ++ x) (ordP pp 0) ≠ 8 → moreB ctxs (opR pp at_) d (ordP pp 0) = true) := fun x h1 h2 => more_of h1 (by omega) h2
      have HDD := Lib.hid (HDX.out d HD.out hd1 (by omega))
      have HFIN : Hid (∀ W, Keeps w.heap.size w1 W → Below w.heap.size w W ∧ TabAt W) := fun W hW => ⟨HEND.out W (HK1.out.trans hW), HT0.out.keeps (HK1.out.trans hW) HTN.out⟩
      generalize nowB ctxs (opR pp at_) d (ordP pp 0) = nv at HWT HNOW
      generalize moreB ctxs (opR pp at_) d (ordP pp 0) = mv at HWT HMOR
      generalize hEE : decErr ctxs (opR pp at_) d (ordP pp 0) = E at HNOW HDD
      clear hEE hA HFP HPP HMO HS3 HK3 HT0 HEND HTN HK1
      as_aux_lemma =>
        go_upto_region 3 with (fail)
        generalize (w3.alloc (.cells #[.slice ca cn cc, .slice ha hn hcp] 29)) = w4 at X4 HS4 HK4 ⊢
        have hXS : w3.heap.size ≠ w.heap.size := by omega
        generalize w3.heap.size = X at X4 hXS ⊢
        have x0 := X4.out.cell 0 rfl
        have x1 := X4.out.cell 1 rfl
        go_wp2_with fail
        refine (HWT.out _ HK4.out).mono ?_
        rintro e w5 ⟨rfl, hb⟩
        have X5 := Lib.hid (X4.out.below hb)
        have HS5 := Lib.hid (HS4.out.below hb)
        have HK5 := Lib.hid (HK4.out.trans (Keeps.of_below hb))
        clear hb x0 x1 X4 HS4 HK4 HWT
        have x0 := X5.out.cell 0 rfl
        have x1 := X5.out.cell 1 rfl
        as_aux_lemma =>
          go_wp2_with fail
          refine (HDD.out _ HK5.out).mono ?_
          rintro e w6 ⟨⟨y1, y2, y3, y4, y5, rfl⟩, hb⟩
          have X6 := Lib.hid (X5.out.below hb)
          have HS6 := Lib.hid (HS5.out.below hb)
          have HK6 := Lib.hid (HK5.out.trans (Keeps.of_below hb))
          clear hb x0 x1 X5 HS5 HK5 HDD
          have hz0 := Blk.new w6 [.string ⟨#[]⟩, .int .i64 0, .int .i64 0, .string ⟨#[]⟩, .string ⟨#[]⟩] 37
          have HTH : Hid (World.there (w6.alloc (.cells #[.string ⟨#[]⟩, .int .i64 0, .int .i64 0, .string ⟨#[]⟩, .string ⟨#[]⟩] 37)) w6.heap.size 0 5) := hz0.th 5 (Nat.le_refl 5)
          have hV : Hid (Below w6.heap.size w6 (World.setCells (w6.alloc (.cells #[.string ⟨#[]⟩, .int .i64 0, .int .i64 0, .string ⟨#[]⟩, .string ⟨#[]⟩] 37)) w6.heap.size 0 [.string y1, .int .i64 y2, .int .i64 y3, .string y4, .string y5])) := belowW_put (Nat.le_refl _) (ext_alloc (Below.refl _ _)) _
          clear hz0
          as_aux_lemma =>
            go_wp2_with (refine wpList_store_mid rfl 37 (.tmp 10) (.tmp 38) rfl w6.heap.size 0 #[.string y1, .int .i64 y2, .int .i64 y3, .string y4, .string y5] rfl rfl HTH.out Tryz.hitSz (by simp [Value.oneCell']) ?_; generalize (World.setCells (w6.alloc (.cells #[.string ⟨#[]⟩, .int .i64 0, .int .i64 0, .string ⟨#[]⟩, .string ⟨#[]⟩] 37)) w6.heap.size 0 [.string y1, .int .i64 y2, .int .i64 y3, .string y4, .string y5]) = w7 at hV ⊢; clear HTH; refine Hid.out ?_)
            refine Lib.hid ?_
            have X7 := Lib.hid (X6.out.below hV.out)
            have HS7 := Lib.hid (HS6.out.below hV.out)
            have HK7 := Lib.hid (HK6.out.trans (Keeps.of_below hV.out))
            clear hV X6 HS6 HK6
            as_aux_lemma =>
              go_upto_region 5 with (fail)
              go_cut [47] (fun v wx => v = .bool false ∧ Hid (Below w7.heap.size w7 wx))
              case first =>
                by_cases hE : E = 8
                · subst hE
                  obtain rfl : nv = false := by
                    cases nv
                    · rfl
                    · exact absurd (HNOW.out.2 rfl) (by decide)
                  as_aux_lemma =>
                    go_wp2_with fail
                    go_meet
                    exact ⟨rfl, Below.refl _ _⟩
                · obtain rfl : nv = true := HNOW.out.1 hE
                  have hb8 : (E != 8) = true := bne_iff_ne.2 hE
                  as_aux_lemma =>
                    go_wp2_with fail
                    go_meet
                    exact ⟨rfl, Below.refl _ _⟩
              case rest =>
                obtain ⟨rfl, hV⟩ := hcut
                obtain ⟨w8, rfl⟩ : ∃ x : World, x = wc := ⟨_, rfl⟩
                have X8 := Lib.hid (X7.out.below hV.out)
                have HS8 := Lib.hid (HS7.out.below hV.out)
                have HK8 := Lib.hid (HK7.out.trans (Keeps.of_below hV.out))
                clear hV X7 HS7 HK7 HNOW
                as_aux_lemma =>
                  go_wp2_with fail
                  go_loopw [48] (fun it wr => ∃ j : Nat, j ≤ 4 ∧ it = .int .i64 j ∧ Hid (StreamOk wr w.heap.size (408 + 8 * j)) ∧ Hid (Blk wr X [.slice ca cn cc, .slice ha hn hcp] 29) ∧ Hid (Keeps w.heap.size w1 wr)) (fun it _ => 4 - (intOf it).toNat)
                  case atStart => exact ⟨0, by omega, rfl, HS8, X8, HK8⟩
                  case round =>
                    obtain ⟨j, hj, rfl, HSj, Xj, HKj⟩ := hrel
                    clear HS8 X8 HK8
                    by_cases hlj : j < 4
                    case neg =>
                      have hjn : ¬ (j : Int) < 4 := by omega
                      obtain ⟨_, htt⟩ := HFIN.out wr HKj.out
                      as_aux_lemma =>
                        go_wp2_with fail
                        refine (ready_true _ htt).mono ?_
                        rintro e w9 ⟨rfl, hb⟩
                        have HF := Lib.hid (HFIN.out w9 (HKj.out.trans (Keeps.of_below hb))).1
                        clear hb
                        go_wp2_with fail
                        go_ret
                        exact ⟨rfl, HF.out⟩
                    have hj4 : (j : Int) < 4 := by omega
                    as_aux_lemma =>
                      go_wp2_with fail
                      refine (rightDialled_any w.heap.size (408 + 8 * j) _ HSj.out (by omega)).mono ?_
                      rintro e w9 ⟨x, hx, hx1, hx6, rfl, hst, hk'⟩
                      have HS9 := Lib.hid hst
                      have X9 := Lib.hid (Xj.out.keeps hk' hXS)
                      have HK9 := Lib.hid (HKj.out.trans hk')
                      have HDY := Lib.hid (HDX.out (d ++ x) (dial_both HD.out hx) (by rw [List.length_append]; omega) (by rw [List.length_append]; omega) w9 HK9.out)
                      have HMX := Lib.hid (HMOR.out x hx1)
                      have hcat := dial_cat d x
                      clear hx hst hk' HSj Xj HKj
                      generalize (⟨((d ++ x).map signN).toArray⟩ : ByteArray) = dx at HDY hcat
                      generalize decErr ctxs (opR pp at_) (d ++ x) (ordP pp 0) = G at HDY HMX
                      have x0 := X9.out.cell 0 rfl
                      have x1 := X9.out.cell 1 rfl
                      have hlen2 : (d.map signN).length + (x.map signN).length ≤ 9223372036854775807 := by rw [List.length_map, List.length_map]; omega
                      as_aux_lemma =>
                        go_upto_region 10 with (fail)
                        go_wp2_with fail
                        refine HDY.out.mono ?_
                        rintro e w10 ⟨⟨y1, y2, y3, y4, y5, rfl⟩, hb⟩
                        have HSa := Lib.hid (HS9.out.below hb)
                        have Xa := Lib.hid (X9.out.below hb)
                        have HKa := Lib.hid (HK9.out.trans (Keeps.of_below hb))
                        clear hb HDY HS9 X9 HK9 x0 x1 hcat hlen2
                        have hz0 := Blk.new w10 [.string ⟨#[]⟩, .int .i64 0, .int .i64 0, .string ⟨#[]⟩, .string ⟨#[]⟩] 37
                        have HTH : Hid (World.there (w10.alloc (.cells #[.string ⟨#[]⟩, .int .i64 0, .int .i64 0, .string ⟨#[]⟩, .string ⟨#[]⟩] 37)) w10.heap.size 0 5) := hz0.th 5 (Nat.le_refl 5)
                        have hV : Hid (Below w10.heap.size w10 (World.setCells (w10.alloc (.cells #[.string ⟨#[]⟩, .int .i64 0, .int .i64 0, .string ⟨#[]⟩, .string ⟨#[]⟩] 37)) w10.heap.size 0 [.string y1, .int .i64 y2, .int .i64 y3, .string y4, .string y5])) := belowW_put (Nat.le_refl _) (ext_alloc (Below.refl _ _)) _
                        clear hz0
                        as_aux_lemma =>
                          go_wp2_with (refine wpList_store_mid rfl 37 (.tmp 13) (.tmp 59) rfl w10.heap.size 0 #[.string y1, .int .i64 y2, .int .i64 y3, .string y4, .string y5] rfl rfl HTH.out Tryz.hitSz (by simp [Value.oneCell']) ?_; generalize (World.setCells (w10.alloc (.cells #[.string ⟨#[]⟩, .int .i64 0, .int .i64 0, .string ⟨#[]⟩, .string ⟨#[]⟩] 37)) w10.heap.size 0 [.string y1, .int .i64 y2, .int .i64 y3, .string y4, .string y5]) = w11 at hV ⊢; clear HTH; refine Hid.out ?_)
                          refine Lib.hid ?_
                          have HSb := Lib.hid (HSa.out.below hV.out)
                          have Xb := Lib.hid (Xa.out.below hV.out)
                          have HKb := Lib.hid (HKa.out.trans (Keeps.of_below hV.out))
                          clear hV HSa Xa HKa
                          have HSc := Lib.hid (HSb.out.mono (k' := 408 + 8 * (j + 1)) (by omega))
                          clear HSb
                          by_cases hG : G = 8
                          · subst hG
                            clear HMX
                            as_aux_lemma =>
                              go_wp2_with fail
                              go_roundw
                              case rel => exact ⟨j + 1, by omega, by go_num, HSc, Xb, HKb⟩
                              case measure => simp [intOf]; omega
                          · obtain rfl : mv = true := HMX.out hG
                            have hb8 : (G != 8) = true := bne_iff_ne.2 hG
                            clear HMX
                            as_aux_lemma =>
                              go_wp2_with fail
                              go_roundw
                              case rel => exact ⟨j + 1, by omega, by go_num, HSc, Xb, HKb⟩
                              case measure => simp [intOf]; omega
end Go.Proofs.YtamlhapiehchoaaGreatDoor

namespace Go.Proofs.YtamlhapiehchoaaGreatDoor
open Go.ChangeShapes Go.WideShapes Go.ChangeAt Go.RowKit
set_option linter.unusedVariables false

theorem own : ownKnob Tryz.prog.godebug = none := by kernel_rfl
theorem laidOut : laidOutB Tryz.prog = true := by kernel_rfl

/-- The listed variables. -/
abbrev laid3 : List (String × DataW Unit) := [("math/bits.deBruijn32tab", Rows.laid_math_bits_deBruijn32tab), ("unicode/utf8.acceptRanges", Rows.laid_unicode_utf8_acceptRanges), ("unicode/utf8.first", Rows.laid_unicode_utf8_first)]

theorem gTab : Tryz.prog.globalNamed "math/bits.deBruijn32tab" = some 0 := by kernel_rfl
theorem tTab : (Tryz.prog.globals[0]?).map (·.type) = some 198 := by kernel_rfl
theorem cByte : Tryz.prog.cellsOf 5 = 1 := by kernel_rfl

theorem tab_of_laid {W : World} (h : laidMetH Tryz.prog laid3 W) : TabAt W := by
  rw [MakeChecks.laidMetH_plain _ _ _ (by kernel_rfl)] at h
  obtain ⟨g, t, cs, fuel, p, hg, ht, hv, hd⟩ := Lib.laidMet.reads h (List.mem_cons_self ..)
  obtain rfl := Option.some.inj (gTab.symm.trans hg)
  obtain rfl := Option.some.inj (tTab.symm.trans ht)
  obtain ⟨xs, m, rfl, hx, hlen, hn, hel⟩ := DataW.trod_array Tryz.underlying198 hd
  have hxs : xs.map (·.1) = tabL.map (fun z => (DataW.lit (.int .u8 z) : DataW Unit)) := by
    have := congrArg Prod.fst hx
    simp only [Rows.laid_math_bits_deBruijn32tab, DataW.agg.injEq] at this
    exact this.symm
  have key : ∀ i, i < 32 → W.cell? ⟨0, i, none⟩ = some (.int .u8 (tabL.getD i 0)) := by
    intro i hi
    have h1 := hel i hi
    obtain ⟨b, hb⟩ : ∃ b, xs[i]? = some b := ⟨xs[i]'(by omega), List.getElem?_eq_getElem (by omega)⟩
    rw [hb, cByte] at h1
    obtain ⟨z, hcz, hbz, _⟩ := DataW.trod_int Tryz.underlying5 h1
    have h2 : cs[i]? = some (.int .u8 z) := by
      have := congrArg (·[0]?) hcz
      simpa [List.getElem?_take, List.getElem?_drop] using this
    have h3 : (xs.map (·.1))[i]? = some (DataW.lit (.int .u8 z) : DataW Unit) := by simp [hb, hbz]
    rw [hxs] at h3
    simp only [List.getElem?_map, Option.map_eq_some_iff, DataW.lit.injEq, Lit.int.injEq, true_and] at h3
    obtain ⟨z', hz', rfl⟩ := h3
    rw [World.var?_cell hg hv i, h2]
    simp [List.getD_eq_getElem?_getD, hz']
  refine ⟨?_, key⟩
  have := key 0 (by omega)
  rcases Nat.lt_or_ge 0 W.heap.size with h | h
  · exact h
  · simp [World.cell?, Array.getElem?_eq_none h] at this
end Go.Proofs.YtamlhapiehchoaaGreatDoor
