/- What is proved here: lemmas and contracts for the statement, put together out of smaller texts (LawHid, Laid). No condition beyond those stated. -/
import Derived.Test.YtamlhapiehchoaaGreatDoorHnPkH
import Derived.Test.YtamlhapiehchoaaGreatDoorHnPkJ
import Derived.Test.YtamlhapiehchoaaGreatDoorHnPkK
import Derived.Test.YtamlhapiehchoaaGreatDoorHnPkL
import Derived.Test.YtamlhapiehchoaaGreatDoorHnPkB
import Derived.Test.YtamlhapiehchoaaGreatDoorHnPkI
import Derived.Test.YtamlhapiehchoaaGreatDoorHnPkF
import Derived.Deep.DeepCutAuto
import Derived.Test.YtamlhapiehchoaaGreatDoorRows
import Derived.Test.YtamlhapiehchoaaGreatDoorTie
import Derived.Test.YtamlhapiehchoaaGreatDoorCards
import Derived.Test.YtamlhapiehchoaaGreatDoorHnPkC
import Derived.ProofKit
import Derived.OpenShut
import Derived.ShutString
import Derived.ChangeOld
import Derived.LaidMore
import Derived.Lay
import Derived.Lib.LaidU8
import Derived.SevenTiedAt
set_option linter.unusedVariables false
set_option linter.unusedSimpArgs false
namespace Go.Proofs.YtamlhapiehchoaaGreatDoor
open Go.RowKit Go.Lib

theorem key0H : ctxKey 0 = [99, 97] := by decide
theorem HRow.keeps {S : Nat} {cs : List DCtx} {w w' : World} {base : Nat} {v : Value} {l : List (Nat × Nat)} (h : HRow cs w base v l) (hk : Keeps S w w') (hS : S < base) : HRow cs w' base v l := ⟨own_keeps h.own hk hS, h.nil⟩
theorem wp_valH {P : Program} {o : Oper} {a : Act} {w w' : World} {v : Value} {K : Act → World → Prop} {Q : Exit → Act → World → Prop} (h : (execOp a.eval o).run P w = .ok (.value v) w') (hK : K (a.put o.dst v) w') : Oper.wp P o a w K Q := by
  unfold Oper.wp; rw [h]; exact hK
theorem bl_lhd0 (e : Operand → Value) (he : ∀ v, e (.const v) = v) (o : Oper) (w : World)  (z0 : Int) (z1 : Int) (z2 : Int) (ho : o.op = .buildSlice 22 3 #[(0, .const (.int .i64 z0)), (1, .const (.int .i64 z1)), (2, .const (.int .i64 z2))])  :
   (execOp e o).run Tryz.prog w = .ok (.value (.slice (some ⟨w.heap.size, 0, none⟩) 3 3)) (w.alloc (.cells #[.int .i64 z0, .int .i64 z1, .int .i64 z2] 3)) := by
  unfold execOp
  rw [ho]
  simp only [List.map_toArray, List.map_cons, List.map_nil, he]
  kernel_rfl
set_option maxRecDepth 100000 in
set_option maxHeartbeats 40000000 in
theorem hiddenLaw_true (w : World) (a0 : Option Addr) (len cap : Nat) (zs : List Int) (hr : ArgRow w a0 len cap zs) (ht : TabAt w) :
    Calls Tryz.prog 5 #[.slice a0 len cap] w fun e w' => e = .returned (.bool true) ∧ Below w.heap.size w w' := by
  have HS0 := Lib.hid (stream_start hr)
  have HT0 : Hid (TabAt (w.alloc (.cells #[.slice a0 len cap, .int .i64 0] 25))) := ht.below (ext_alloc (Below.refl _ _))
  have HTN : Hid (0 ≠ w.heap.size) := by have := ht.1; show _ ≠ _; omega
  have HEND : Hid (∀ W, Keeps w.heap.size (w.alloc (.cells #[.slice a0 len cap, .int .i64 0] 25)) W → Below w.heap.size w W) := fun W h => law_end h
  have hsz : w.heap.size < (w.alloc (.cells #[.slice a0 len cap, .int .i64 0] 25)).heap.size := by simp
  clear hr ht
  go_enter Tryz.func5, Tryz.ntmps5
  go_wp2_with fail
  refine (rightPlan_any w.heap.size 0 4 (by decide) _ HS0.out (by omega)).mono ?_
  rintro e w1 ⟨p, he, hfine, hst, hk'⟩
  obtain ⟨pp, hpp⟩ : ∃ x, x = p := ⟨_, rfl⟩
  have HFP : Hid (∀ W, Keeps w.heap.size w1 W → DPlanFine W pp) := by rw [hpp]; exact hfine
  obtain ⟨g, go, hca, hcn, hrows⟩ := plan_rows HFP.out
  have HPP := Lib.hid hpp
  obtain ⟨ca, cn, cc, ctxs, ha, hn, hcp, hrs⟩ := p
  have hca2 : ca = some ⟨g, go, none⟩ := by rw [← hca, hpp]
  have hcn2 : cn = 3 := by rw [← hcn, hpp]
  subst hca2 hcn2
  have he2 : e = .returned (.agg #[.slice (some ⟨g, go, none⟩) 3 cc, .slice ha hn hcp]) := he
  subst he2
  have HROWS := Lib.hid hrows
  clear he hfine hpp hrows hca hcn
  have HS1 := Lib.hid hst
  have HK1 := Lib.hid hk'
  clear hst hk' HS0
  as_aux_lemma =>
    go_wp2_with ((refine wpList_val rfl (bl_lhd0 _ (fun _ => rfl) _ _  0 32400000 432000000 rfl) ?_))
    refine (pick_lit w.heap.size (0 + 400) [0, 32400000, 432000000] (fun x => x = 0 ∨ x = 32400000 ∨ x = 432000000) _ _ _ HS1.out (by omega) rfl rfl (by decide) (by decide) (by decide)).mono ?_
    rintro e w2 ⟨at_, rfl, hz, hst, hk'⟩
    have HS2 := Lib.hid (hst.mono (k' := 408) (by omega))
    have HK2 := Lib.hid hk'
    have hat0 : 0 ≤ at_ := by omega
    have hat1 : at_ ≤ 345686400000 := by omega
    have HMO : Hid (isMomB at_ = true) := Lib.hid (by rcases hz with rfl | rfl | rfl <;> decide)
    clear hz hst hk' HS1
    have hA : Below w2.heap.size w2 (w2.alloc (.cells #[.slice (some ⟨g, go, none⟩) 3 cc, .slice ha hn hcp] 29)) := ext_alloc (Below.refl _ _)
    have X3 : Hid (Blk (w2.alloc (.cells #[.slice (some ⟨g, go, none⟩) 3 cc, .slice ha hn hcp] 29)) w2.heap.size [.slice (some ⟨g, go, none⟩) 3 cc, .slice ha hn hcp] 29) := Blk.new _ _ _
    have HS3 := Lib.hid (HS2.out.below hA)
    have HK3 := Lib.hid (HK2.out.trans (Keeps.of_below hA))
    have hS2 : w.heap.size < w2.heap.size := HS2.out.lt
    have HHD : Hid (∀ W, Keeps w.heap.size w1 W → Calls Tryz.prog 17 #[.agg #[.slice (some ⟨g, go, none⟩) 3 cc, .slice ha hn hcp], .string ⟨#[99, 97]⟩] W (HidPost pp.ctxs (ordP pp 0) W)) := fun W hW => by
      have := hidden_any W pp (HFP.out W hW) 0 (by decide)
      rw [key0H] at this
      rw [HPP.out] at this ⊢
      exact this
    have HDX : Hid (∀ x : List Nat, (∀ j, j < x.length → x.getD j 0 < 12) → 1 ≤ x.length → x.length ≤ 30 → ∀ W, Keeps w.heap.size w1 W → Calls Tryz.prog 10 #[.agg #[.slice (some ⟨g, go, none⟩) 3 cc, .slice ha hn hcp], .string ⟨#[99, 97]⟩, .string ⟨(x.map signN).toArray⟩, .int .i64 at_] W (HitPost (hitV pp.ctxs (opR pp at_) x (ordP pp 0)) (decErr pp.ctxs (opR pp at_) x (ordP pp 0)) W)) := fun x hx h1 h2 W hW => by
      have := decide_any W pp (HFP.out W hW) 0 (by decide) x hx h1 h2 at_ HMO.out hat0 hat1
      rw [key0H] at this
      rw [HPP.out] at this ⊢
      exact this
    have HIX : Hid (∀ k, k < 3 → ∀ W, Keeps w.heap.size w1 W → ∀ A, A < W.heap.size → W.cell? ⟨A, 0, none⟩ = some (.string ⟨(ctxKey k).toArray⟩) → Calls Tryz.prog 18 #[.slice (some ⟨g, go, none⟩) 3 cc, .func (.func 19) #[] #[.pointer (some ⟨A, 0, none⟩)]] W (IntP k W)) := fun k hk W hW A hA c0 => by
      have := hidCtx_at (HFP.out W hW) k hk A hA c0
      rw [HPP.out] at this
      exact this
    have HFIN : Hid (∀ W, Keeps w.heap.size w1 W → Below w.heap.size w W ∧ TabAt W) := fun W hW => ⟨HEND.out W (HK1.out.trans hW), HT0.out.keeps (HK1.out.trans hW) HTN.out⟩
    clear hA HMO HS2 HK2 HT0 HEND HTN HK1 HPP hat0 hat1
    as_aux_lemma =>
      go_upto_region 3 with (fail)
      generalize (w2.alloc (.cells #[.slice (some ⟨g, go, none⟩) 3 cc, .slice ha hn hcp] 29)) = w3 at X3 HS3 HK3 ⊢
      have hXS : w2.heap.size ≠ w.heap.size := by omega
      generalize w2.heap.size = X at X3 hXS ⊢
      have x0 := X3.out.cell 0 rfl
      have x1 := X3.out.cell 1 rfl
      as_aux_lemma =>
        go_wp2_with fail
        refine (HHD.out _ HK3.out).mono ?_
        rintro e w4 hhp
        rcases hhp with ⟨rfl, hb⟩ | ⟨v, hs, base, rfl, hrow, hhid, hlen, hbase, hb⟩
        · have HK4 := Lib.hid (HK3.out.ext hb)
          clear hb x0 x1
          obtain ⟨_, htt⟩ := HFIN.out w4 HK4.out
          as_aux_lemma =>
            go_wp2_with fail
            refine (ready_true _ htt).mono ?_
            rintro e w9 ⟨rfl, hb⟩
            have HF := Lib.hid (HFIN.out w9 (HK4.out.ext hb)).1
            clear hb
            go_wp2_with fail
            go_ret
            exact ⟨rfl, HF.out⟩
        have X4 := Lib.hid (X3.out.below hb)
        have HS4 := Lib.hid (HS3.out.below hb)
        have HK4 := Lib.hid (HK3.out.ext hb)
        have HSB : Hid (w.heap.size < base) := by have := HS3.out.lt; show _ < _; omega
        have HR4 := Lib.hid hrow
        have HHID := Lib.hid hhid
        have HHL := Lib.hid hlen
        clear hb x0 x1 X3 HS3 HK3 hrow hhid hlen hbase HHD
        as_aux_lemma =>
          go_wp2_with fail
          go_loopw [46] (fun it wr => ∃ j : Nat, j ≤ 6 ∧ it = .int .i64 j ∧ Hid (StreamOk wr w.heap.size (408 + 8 * j)) ∧ Hid (Blk wr X [.slice (some ⟨g, go, none⟩) 3 cc, .slice ha hn hcp] 29) ∧ Hid (HRow pp.ctxs wr base v hs) ∧ Hid (Keeps w.heap.size w1 wr)) (fun it _ => 6 - (intOf it).toNat)
          case atStart => exact ⟨0, by omega, rfl, HS4, X4, HR4, HK4⟩
          case round =>
            obtain ⟨j, hj, rfl, HSj, Xj, HRj, HKj⟩ := hrel
            clear HS4 X4 HR4 HK4
            by_cases hlj : j < 6
            case neg =>
              have hjn : ¬ (j : Int) < 6 := by omega
              obtain ⟨_, htt⟩ := HFIN.out wr HKj.out
              as_aux_lemma =>
                go_wp2_with fail
                refine (ready_true _ htt).mono ?_
                rintro e w9 ⟨rfl, hb⟩
                have HF := Lib.hid (HFIN.out w9 (HKj.out.ext hb)).1
                clear hb
                go_wp2_with fail
                go_ret
                exact ⟨rfl, HF.out⟩
            have hj6 : (j : Int) < 6 := by omega
            as_aux_lemma =>
              go_wp2_with fail
              refine (rightDialled_any w.heap.size (408 + 8 * j) _ HSj.out (by omega)).mono ?_
              rintro e w5 ⟨d, hd, hd1, hd6, rfl, hst, hk'⟩
              have HS5 := Lib.hid hst
              have X5 := Lib.hid (Xj.out.keeps hk' hXS)
              have HR5 := Lib.hid (HRj.out.keeps hk' HSB.out)
              have HK5 := Lib.hid (HKj.out.trans hk')
              have HD := Lib.hid hd
              have HDD := Lib.hid (HDX.out d hd hd1 (by omega) w5 HK5.out)
              have hSX : w.heap.size < w5.heap.size := HS5.out.lt
              clear hd hst hk' HSj Xj HRj HKj
              have x0 := X5.out.cell 0 rfl
              have x1 := X5.out.cell 1 rfl
              obtain ⟨ds, hds⟩ : ∃ x : ByteArray, x = ⟨(d.map signN).toArray⟩ := ⟨_, rfl⟩
              have HDS := Lib.hid hds
              rw [← hds] at HDD ⊢
              clear hds
              as_aux_lemma =>
                go_wp2_with fail
                refine HDD.out.mono ?_
                rintro e w6 ⟨he, hb⟩
                have HS6 := Lib.hid (HS5.out.below hb)
                have X6 := Lib.hid (X5.out.below hb)
                have HR6 := Lib.hid (HR5.out.below hb)
                have HK6 := Lib.hid (HK5.out.ext hb)
                clear hb x0 x1 HS5 X5 HR5 HK5 HDD
                by_cases hE : decErr pp.ctxs (opR pp at_) d (ordP pp 0) = 0
                case neg =>
                  obtain ⟨y1, y2, y3, y4, y5, hy⟩ := hit_form pp.ctxs (opR pp at_) d (ordP pp 0)
                  rw [hy] at he
                  generalize decErr pp.ctxs (opR pp at_) d (ordP pp 0) = E at he hE
                  have he2 : e = .returned (.tuple #[.agg #[.string y1, .int .i64 y2, .int .i64 y3, .string y4, .string y5], .int .i64 E]) := he
                  subst he2
                  have hEb : (E != 0) = true := bne_iff_ne.2 hE
                  clear he hy
                  have hz0 := Blk.new w6 [.string ⟨#[]⟩, .int .i64 0, .int .i64 0, .string ⟨#[]⟩, .string ⟨#[]⟩] 37
                  have HTH : Hid (World.there (w6.alloc (.cells #[.string ⟨#[]⟩, .int .i64 0, .int .i64 0, .string ⟨#[]⟩, .string ⟨#[]⟩] 37)) w6.heap.size 0 5) := hz0.th 5 (Nat.le_refl 5)
                  have hZ : Hid (Blk (World.setCells (w6.alloc (.cells #[.string ⟨#[]⟩, .int .i64 0, .int .i64 0, .string ⟨#[]⟩, .string ⟨#[]⟩] 37)) w6.heap.size 0 [.string y1, .int .i64 y2, .int .i64 y3, .string y4, .string y5]) w6.heap.size [.string y1, .int .i64 y2, .int .i64 y3, .string y4, .string y5] 37) := ((((hz0.put 0 _).put 1 _).put 2 _).put 3 _).put 4 _
                  have hV : Hid (Below w6.heap.size w6 (World.setCells (w6.alloc (.cells #[.string ⟨#[]⟩, .int .i64 0, .int .i64 0, .string ⟨#[]⟩, .string ⟨#[]⟩] 37)) w6.heap.size 0 [.string y1, .int .i64 y2, .int .i64 y3, .string y4, .string y5])) := belowW_put (Nat.le_refl _) (ext_alloc (Below.refl _ _)) _
                  clear hz0
                  as_aux_lemma =>
                    go_wp2_with (refine wpList_store_mid rfl 37 (.tmp 9) (.tmp 55) rfl w6.heap.size 0 #[.string y1, .int .i64 y2, .int .i64 y3, .string y4, .string y5] rfl rfl HTH.out Tryz.hitSz (by simp [Value.oneCell']) ?_; generalize (World.setCells (w6.alloc (.cells #[.string ⟨#[]⟩, .int .i64 0, .int .i64 0, .string ⟨#[]⟩, .string ⟨#[]⟩] 37)) w6.heap.size 0 [.string y1, .int .i64 y2, .int .i64 y3, .string y4, .string y5]) = w7 at hV hZ ⊢; clear HTH; refine Hid.out ?_)
                    refine Lib.hid ?_
                    have HS7 := Lib.hid ((HS6.out.below hV.out).mono (k' := 408 + 8 * (j + 1)) (by omega))
                    have X7 := Lib.hid (X6.out.below hV.out)
                    have HR7 := Lib.hid (HR6.out.below hV.out)
                    have HK7 := Lib.hid (HK6.out.ext hV.out)
                    clear hV hZ HS6 X6 HR6 HK6
                    as_aux_lemma =>
                      go_wp2_with fail
                      go_roundw
                      case rel => exact ⟨j + 1, by omega, by go_num, HS7, X7, HR7, HK7⟩
                      case measure => simp [intOf]; omega
                have hfp := HFP.out w6 HK6.out
                obtain ⟨k, i, hda, hk3, hil, hm, hhv, hbest⟩ := dec_facts hfp (ordP_ok hfp (by decide)).1 hE
                rw [hE, hhv] at he
                have HHT : Hid (∀ W, Keeps w.heap.size w1 W → HRow pp.ctxs W base v hs → ∀ A, A < W.heap.size → W.cell? ⟨A, 0, none⟩ = some (.string ⟨(ctxKey k).toArray⟩) → W.cell? ⟨A, 1, none⟩ = some (.int .i64 i) → Calls Tryz.prog 20 #[v, .func (.func 21) #[] #[.pointer (some ⟨A, 0, none⟩)]] W (BoolP false W)) := fun W hW hr A hA c0 c1 => hidHit_at (by decide) (HFP.out W hW) HD.out hd1 (by omega) hk3 hda hr HHID.out HHL.out A hA c0 c1
                have HXK := Lib.hid (HIX.out k hk3)
                obtain ⟨hcx, b0, off, hra, hrr⟩ := HROWS.out k hk3
                obtain ⟨hrn, hrf⟩ := ctx_len hfp k hk3
                have hkey := hfp.keys k hk3
                have HMT : Hid (∀ j, j < (pp.ctxs.getD k noDCtx).rn → ∀ W, Calls Tryz.prog 22 #[.string ⟨((pp.ctxs.getD k noDCtx).rules.getD j noDRule).els.str.toArray⟩, .string ds] W fun e1 w' => e1 = .returned (.tuple #[.bool (matchB ((pp.ctxs.getD k noDCtx).rules.getD j noDRule).els.pat d), .int .i64 0]) ∧ Below W.heap.size W w') := fun j hj W => matches_any W _ (hrr j hj).1.els _ rfl ds d (by rw [HDS.out]) HD.out hd1 (by omega)
                have HBF : Hid (∀ j, j < (pp.ctxs.getD k noDCtx).rn → i < (pp.ctxs.getD k noDCtx).rn → ∀ W, Calls Tryz.prog 23 #[.string ⟨((pp.ctxs.getD k noDCtx).rules.getD j noDRule).els.str.toArray⟩, .string ⟨((pp.ctxs.getD k noDCtx).rules.getD i noDRule).els.str.toArray⟩] W (BeforePost (befI ((pp.ctxs.getD k noDCtx).rules.getD j noDRule).els ((pp.ctxs.getD k noDCtx).rules.getD i noDRule).els) W)) := fun j hj hi W => Before_any W _ _ (hrr j hj).1.els (hrr i hi).1.els _ _ rfl rfl
                unfold hitC at he
                rw [hkey] at he
                clear hda hhv hkey hfp hE HIX
                rw [← hrn] at hil hbest
                have HCX := Lib.hid hcx
                have HRR := Lib.hid hrr
                have HBEST := Lib.hid hbest
                have HM := Lib.hid hm
                clear hcx hrr hbest hm
                generalize pp.ctxs.getD k noDCtx = cx at he hil hra hrn hrf HCX HRR HBEST HM HMT HBF
                obtain ⟨key, ra, rn, rc, rules, ia, inn, ic, incs⟩ := cx
                simp only at he hil hra hrn hrf HCX HRR HBEST HM HMT HBF
                have hra2 := hra (by omega)
                subst hra2
                clear hra hrn
                have hrule : ∃ rl, rl = rules.getD i noDRule := ⟨_, rfl⟩
                obtain ⟨rl, hrl⟩ := hrule
                have HRI := Lib.hid (HRR.out i hil)
                have HMI := Lib.hid (HMT.out i hil)
                rw [← hrl] at he HRI HM HMI
                have HRL := Lib.hid hrl
                clear hrl
                obtain ⟨rel, rst, rp, rt, rm, rh⟩ := rl
                simp only at he HM HMI
                rw [HM.out] at HMI
                have hrng : ∀ W, Keeps w.heap.size w1 W → W.rangeAt b0 (off + i * 6) [.string ⟨rel.str.toArray⟩, .int .i64 rst, .string ⟨rp.toArray⟩, .int .i64 rt, .string ⟨rm.toArray⟩, .string ⟨rh.toArray⟩] := HRI.out.2
                have HRNG := Lib.hid hrng
                generalize dialV ⟨rel, rst, rp, rt, rm, rh⟩ d = dv at he
                generalize ctxKey k = ck at he HCX HXK HHT
                generalize (⟨dv.toArray⟩ : ByteArray) = dvb at he
                have he2 : e = .returned (.tuple #[.agg #[.string ⟨ck.toArray⟩, .int .i64 i, .int .i64 rt, .string ⟨rm.toArray⟩, .string dvb], .int .i64 0]) := he
                subst he2
                clear he hrng HRI HM
                have hz0 := Blk.new w6 [.string ⟨#[]⟩, .int .i64 0, .int .i64 0, .string ⟨#[]⟩, .string ⟨#[]⟩] 37
                have HTH : Hid (World.there (w6.alloc (.cells #[.string ⟨#[]⟩, .int .i64 0, .int .i64 0, .string ⟨#[]⟩, .string ⟨#[]⟩] 37)) w6.heap.size 0 5) := hz0.th 5 (Nat.le_refl 5)
                have hZ : Hid (Blk (World.setCells (w6.alloc (.cells #[.string ⟨#[]⟩, .int .i64 0, .int .i64 0, .string ⟨#[]⟩, .string ⟨#[]⟩] 37)) w6.heap.size 0 [.string ⟨ck.toArray⟩, .int .i64 i, .int .i64 rt, .string ⟨rm.toArray⟩, .string dvb]) w6.heap.size [.string ⟨ck.toArray⟩, .int .i64 i, .int .i64 rt, .string ⟨rm.toArray⟩, .string dvb] 37) := ((((hz0.put 0 _).put 1 _).put 2 _).put 3 _).put 4 _
                have hV : Hid (Below w6.heap.size w6 (World.setCells (w6.alloc (.cells #[.string ⟨#[]⟩, .int .i64 0, .int .i64 0, .string ⟨#[]⟩, .string ⟨#[]⟩] 37)) w6.heap.size 0 [.string ⟨ck.toArray⟩, .int .i64 i, .int .i64 rt, .string ⟨rm.toArray⟩, .string dvb])) := belowW_put (Nat.le_refl _) (ext_alloc (Below.refl _ _)) _
                clear hz0
                as_aux_lemma =>
                  go_wp2_with (refine wpList_store_mid rfl 37 (.tmp 9) (.tmp 55) rfl w6.heap.size 0 #[.string ⟨ck.toArray⟩, .int .i64 i, .int .i64 rt, .string ⟨rm.toArray⟩, .string dvb] rfl rfl HTH.out Tryz.hitSz (by simp [Value.oneCell']) ?_; generalize (World.setCells (w6.alloc (.cells #[.string ⟨#[]⟩, .int .i64 0, .int .i64 0, .string ⟨#[]⟩, .string ⟨#[]⟩] 37)) w6.heap.size 0 [.string ⟨ck.toArray⟩, .int .i64 i, .int .i64 rt, .string ⟨rm.toArray⟩, .string dvb]) = w7 at hV hZ ⊢; clear HTH; refine Hid.out ?_)
                  refine Lib.hid ?_
                  obtain ⟨Y, hYe⟩ : ∃ Y, Y = w6.heap.size := ⟨_, rfl⟩
                  have hYK : w1.heap.size ≤ Y := by have := HK6.out.size; omega
                  have HS7 := Lib.hid (HS6.out.below hV.out)
                  have X7 := Lib.hid (X6.out.below hV.out)
                  have HR7 := Lib.hid (HR6.out.below hV.out)
                  have HK7 := Lib.hid (HK6.out.ext hV.out)
                  have Y7 := hZ
                  rw [← hYe] at Y7 ⊢
                  clear hV hZ hYe HS6 X6 HR6 HK6
                  have x0 := X7.out.cell 0 rfl
                  have y0 := Y7.out.cell 0 rfl
                  as_aux_lemma =>
                    go_wp2_with fail
                    refine (HXK.out w7 HK7.out Y Y7.out.lt y0).mono ?_
                    rintro e w8 ⟨rfl, hb⟩
                    have hbd := hb.drew
                    have HSd := Lib.hid (HS7.out.below hbd)
                    have Xd := Lib.hid (X7.out.below hbd)
                    have HRd := Lib.hid (HR7.out.below hbd)
                    have HKd := Lib.hid (HK7.out.ext hbd)
                    have Yd := Lib.hid (Y7.out.below hbd)
                    clear hb hbd x0 y0 HS7 X7 HR7 HK7 Y7
                    have hki : ¬ ((k : Int) < 0) := by omega
                    have hk3i : (k : Int) < 3 := by omega
                    have hii : ¬ ((i : Int) < 0) := by omega
                    have hirn : ¬ ((i : Int) ≥ (rn : Int)) := by omega
                    have HCEL : Hid (∀ W, Below w8.drew.heap.size w8.drew W → W.cell? ⟨Y, 1, none⟩ = some (.int .i64 i) ∧ W.cell? ⟨X, 0, none⟩ = some (.slice (some ⟨g, go, none⟩) 3 cc) ∧ W.cell? ⟨g, go + k * 3 + 1, none⟩ = some (.slice (some ⟨b0, off, none⟩) rn rc)) := fun W hW => ⟨(hW.cell (p := ⟨Y, 1, none⟩) Yd.out.lt).trans (Yd.out.cell 1 rfl), (hW.cell (p := ⟨X, 0, none⟩) Xd.out.lt).trans (Xd.out.cell 0 rfl), (HCX.out W (HKd.out.ext hW)).2⟩
                    have HHD : Hid (Calls Tryz.prog 20 #[v, .func (.func 21) #[] #[.pointer (some ⟨Y, 0, none⟩)]] w8.drew (BoolP false w8.drew)) := HHT.out w8.drew HKd.out HRd.out Y Yd.out.lt (Yd.out.cell 0 rfl) (Yd.out.cell 1 rfl)
                    as_aux_lemma =>
                      go_upto_region 12 with (fail)
                      refine region_seqI (S := fun W => Below w8.drew.heap.size w8.drew W) [(true, 0), (true, 1), (true, 2), (true, 3), (true, 4), (true, 5), (true, 6), (true, 7), (true, 8), (true, 9), (true, 10), (true, 11), (true, 12), (true, 13), (true, 14), (true, 15), (false, 16), (true, 17), (true, 18), (true, 19), (true, 20), (false, 21), (false, 22), (true, 23)] (by kernel_rfl) (by kernel_rfl) rfl (by kernel_rfl) (Below.refl _ _) ?_
                      generalize w8.drew = wd at HSd Xd HRd HKd Yd HCEL HHD ⊢
                      simp only [seqOps, List.getD_cons_zero, List.getD_cons_succ]
                      refine seqI_take (v := .int .i64 k) rfl (fun W hW => by clear hW; go_simp) (fun _ _ _ h => h) ?_
                      simp only [Act.put, List.setIfInBounds_toArray, List.set_cons_zero, List.set_cons_succ]
                      refine seqI_take (v := .bool false) rfl (fun W hW => by clear hW; go_simp) (fun _ _ _ h => h) ?_
                      simp only [Act.put, List.setIfInBounds_toArray, List.set_cons_zero, List.set_cons_succ]
                      refine seqI_take (v := .bool false) rfl (fun W hW => by clear hW; go_simp) (fun _ _ _ h => h) ?_
                      simp only [Act.put, List.setIfInBounds_toArray, List.set_cons_zero, List.set_cons_succ]
                      refine seqI_take (v := .pointer (some ⟨Y, 1, none⟩)) rfl (fun W hW => by clear hW; go_simp) (fun _ _ _ h => h) ?_
                      simp only [Act.put, List.setIfInBounds_toArray, List.set_cons_zero, List.set_cons_succ]
                      refine seqI_take (v := .int .i64 i) rfl (fun W hW => by obtain ⟨m0, m1, m2⟩ := HCEL.out W hW; go_simp) (fun _ _ _ h => h) ?_
                      simp only [Act.put, List.setIfInBounds_toArray, List.set_cons_zero, List.set_cons_succ]
                      refine seqI_take (v := .bool false) rfl (fun W hW => by clear hW; go_simp) (fun _ _ _ h => h) ?_
                      simp only [Act.put, List.setIfInBounds_toArray, List.set_cons_zero, List.set_cons_succ]
                      refine seqI_take (v := .bool false) rfl (fun W hW => by clear hW; go_simp) (fun _ _ _ h => h) ?_
                      simp only [Act.put, List.setIfInBounds_toArray, List.set_cons_zero, List.set_cons_succ]
                      refine seqI_take (v := .bool false) rfl (fun W hW => by clear hW; go_simp) (fun _ _ _ h => h) ?_
                      simp only [Act.put, List.setIfInBounds_toArray, List.set_cons_zero, List.set_cons_succ]
                      refine seqI_take (v := .pointer (some ⟨Y, 1, none⟩)) rfl (fun W hW => by clear hW; go_simp) (fun _ _ _ h => h) ?_
                      simp only [Act.put, List.setIfInBounds_toArray, List.set_cons_zero, List.set_cons_succ]
                      refine seqI_take (v := .int .i64 i) rfl (fun W hW => by obtain ⟨m0, m1, m2⟩ := HCEL.out W hW; go_simp) (fun _ _ _ h => h) ?_
                      simp only [Act.put, List.setIfInBounds_toArray, List.set_cons_zero, List.set_cons_succ]
                      refine seqI_take (v := .pointer (some ⟨X, 0, none⟩)) rfl (fun W hW => by clear hW; go_simp) (fun _ _ _ h => h) ?_
                      simp only [Act.put, List.setIfInBounds_toArray, List.set_cons_zero, List.set_cons_succ]
                      refine seqI_take (v := .slice (some ⟨g, go, none⟩) 3 cc) rfl (fun W hW => by obtain ⟨m0, m1, m2⟩ := HCEL.out W hW; go_simp) (fun _ _ _ h => h) ?_
                      simp only [Act.put, List.setIfInBounds_toArray, List.set_cons_zero, List.set_cons_succ]
                      refine seqI_take (v := .int .i64 k) rfl (fun W hW => by clear hW; go_simp) (fun _ _ _ h => h) ?_
                      simp only [Act.put, List.setIfInBounds_toArray, List.set_cons_zero, List.set_cons_succ]
                      refine seqI_take (v := .pointer (some ⟨g, go + k * 3, none⟩)) rfl (fun W hW => by clear hW; go_simp) (fun _ _ _ h => h) ?_
                      simp only [Act.put, List.setIfInBounds_toArray, List.set_cons_zero, List.set_cons_succ]
                      refine seqI_take (v := .pointer (some ⟨g, go + k * 3 + 1, none⟩)) rfl (fun W hW => by clear hW; go_simp) (fun _ _ _ h => h) ?_
                      simp only [Act.put, List.setIfInBounds_toArray, List.set_cons_zero, List.set_cons_succ]
                      refine seqI_take (v := .slice (some ⟨b0, off, none⟩) rn rc) rfl (fun W hW => by obtain ⟨m0, m1, m2⟩ := HCEL.out W hW; go_simp) (fun _ _ _ h => h) ?_
                      simp only [Act.put, List.setIfInBounds_toArray, List.set_cons_zero, List.set_cons_succ]
                      refine seqI_do rfl (wp_valH (v := .int .i64 rn) (w' := wd) (by go_simp) ⟨Below.refl _ _, ?_⟩)
                      simp only [Act.put, List.setIfInBounds_toArray, List.set_cons_zero, List.set_cons_succ]
                      refine seqI_take (v := .bool false) rfl (fun W hW => by clear hW; go_simp) (fun _ _ _ h => h) ?_
                      simp only [Act.put, List.setIfInBounds_toArray, List.set_cons_zero, List.set_cons_succ]
                      refine seqI_take (v := .bool false) rfl (fun W hW => by clear hW; go_simp) (fun _ _ _ h => h) ?_
                      simp only [Act.put, List.setIfInBounds_toArray, List.set_cons_zero, List.set_cons_succ]
                      refine seqI_take (v := .bool false) rfl (fun W hW => by clear hW; go_simp) (fun _ _ _ h => h) ?_
                      simp only [Act.put, List.setIfInBounds_toArray, List.set_cons_zero, List.set_cons_succ]
                      refine seqI_take (v := v) rfl (fun W hW => by clear hW; go_simp) (fun _ _ _ h => h) ?_
                      simp only [Act.put, List.setIfInBounds_toArray, List.set_cons_zero, List.set_cons_succ]
                      refine seqI_do rfl (wp_valH (v := .func (.func 21) #[] #[.pointer (some ⟨Y, 0, none⟩)]) (w' := wd) (by go_simp) ⟨Below.refl _ _, ?_⟩)
                      simp only [Act.put, List.setIfInBounds_toArray, List.set_cons_zero, List.set_cons_succ]
                      refine seqI_call _ _ rfl (by go_simp) HHD.out ?_
                      rintro e w9 ⟨rfl, hb⟩
                      refine ⟨_, rfl, hb, ?_⟩
                      have HS9 := Lib.hid (HSd.out.below hb)
                      have X9 := Lib.hid (Xd.out.below hb)
                      have HR9 := Lib.hid (HRd.out.below hb)
                      have HK9 := Lib.hid (HKd.out.ext hb)
                      have Y9 := Lib.hid (Yd.out.below hb)
                      simp only [Act.put, List.setIfInBounds_toArray, List.set_cons_zero, List.set_cons_succ]
                      refine seqI_take (v := .bool false) rfl (fun W hW => by clear hW; go_simp) (fun _ _ _ h => h) ?_
                      simp only [Act.put, List.setIfInBounds_toArray, List.set_cons_zero, List.set_cons_succ]
                      refine seqI_nil ?_
                      clear hb HSd Xd HRd HKd Yd HHD
                      have hbe : Below w9.heap.size w9 w9.drew := ext_drew (Below.refl _ _)
                      have HSe := Lib.hid (HS9.out.below hbe)
                      have Xe := Lib.hid (X9.out.below hbe)
                      have HRe := Lib.hid (HR9.out.below hbe)
                      have HKe := Lib.hid (HK9.out.ext hbe)
                      have Ye := Lib.hid (Y9.out.below hbe)
                      clear hbe HS9 X9 HR9 HK9 Y9 HCEL
                      obtain ⟨rs, hrs_⟩ : ∃ x, x = rel.str := ⟨_, rfl⟩
                      have HRSE := Lib.hid hrs_
                      rw [← hrs_] at HMI HRNG
                      clear hrs_
                      have HCL2 : Hid (∀ W, Below w9.drew.heap.size w9.drew W → W.cell? ⟨Y, 1, none⟩ = some (.int .i64 i) ∧ W.cell? ⟨X, 0, none⟩ = some (.slice (some ⟨g, go, none⟩) 3 cc) ∧ W.cell? ⟨g, go + k * 3 + 1, none⟩ = some (.slice (some ⟨b0, off, none⟩) rn rc) ∧ W.cell? ⟨b0, off + i * 6, none⟩ = some (.string ⟨rs.toArray⟩) ∧ W.cell? ⟨b0, off + i * 6 + 1, none⟩ = some (.int .i64 rst) ∧ W.cell? ⟨b0, off + i * 6 + 2, none⟩ = some (.string ⟨rp.toArray⟩) ∧ W.cell? ⟨b0, off + i * 6 + 3, none⟩ = some (.int .i64 rt) ∧ W.cell? ⟨b0, off + i * 6 + 4, none⟩ = some (.string ⟨rm.toArray⟩) ∧ W.cell? ⟨b0, off + i * 6 + 5, none⟩ = some (.string ⟨rh.toArray⟩)) := fun W hW => by
                        have hr := HRNG.out W (HKe.out.ext hW)
                        exact ⟨(hW.cell (p := ⟨Y, 1, none⟩) Ye.out.lt).trans (Ye.out.cell 1 rfl), (hW.cell (p := ⟨X, 0, none⟩) Xe.out.lt).trans (Xe.out.cell 0 rfl), (HCX.out W (HKe.out.ext hW)).2, hr 0 _ rfl, hr 1 _ rfl, hr 2 _ rfl, hr 3 _ rfl, hr 4 _ rfl, hr 5 _ rfl⟩
                      have hirl : (i : Int) < (rn : Int) := by omega
                      as_aux_lemma =>
                        go_upto_region 14 with (fail)
                        refine region_lastI (S := fun W => Below w9.drew.heap.size w9.drew W) [(true, 0), (true, 1), (true, 2), (true, 3), (true, 4), (true, 5), (true, 6), (true, 7), (true, 8), (true, 9), (false, 10)] (by kernel_rfl) rfl rfl (by kernel_rfl) (by kernel_rfl) rfl (by kernel_rfl) (Below.refl _ _) ?_
                        generalize w9.drew = we at HSe Xe HRe HKe Ye HCL2 ⊢
                        simp only [seqOps, List.dropLast, List.getD_cons_zero, List.getD_cons_succ]
                        refine seqI_take (v := .pointer (some ⟨X, 0, none⟩)) rfl (fun W hW => by clear hW; go_simp) (fun _ _ _ h => h) ?_
                        simp only [Act.put, List.setIfInBounds_toArray, List.set_cons_zero, List.set_cons_succ]
                        refine seqI_take (v := .slice (some ⟨g, go, none⟩) 3 cc) rfl (fun W hW => by obtain ⟨m0, m1, m2, q0, q1, q2, q3, q4, q5⟩ := HCL2.out W hW; go_simp) (fun _ _ _ h => h) ?_
                        simp only [Act.put, List.setIfInBounds_toArray, List.set_cons_zero, List.set_cons_succ]
                        refine seqI_take (v := .int .i64 k) rfl (fun W hW => by clear hW; go_simp) (fun _ _ _ h => h) ?_
                        simp only [Act.put, List.setIfInBounds_toArray, List.set_cons_zero, List.set_cons_succ]
                        refine seqI_take (v := .pointer (some ⟨g, go + k * 3, none⟩)) rfl (fun W hW => by clear hW; go_simp) (fun _ _ _ h => h) ?_
                        simp only [Act.put, List.setIfInBounds_toArray, List.set_cons_zero, List.set_cons_succ]
                        refine seqI_take (v := .pointer (some ⟨g, go + k * 3 + 1, none⟩)) rfl (fun W hW => by clear hW; go_simp) (fun _ _ _ h => h) ?_
                        simp only [Act.put, List.setIfInBounds_toArray, List.set_cons_zero, List.set_cons_succ]
                        refine seqI_take (v := .slice (some ⟨b0, off, none⟩) rn rc) rfl (fun W hW => by obtain ⟨m0, m1, m2, q0, q1, q2, q3, q4, q5⟩ := HCL2.out W hW; go_simp) (fun _ _ _ h => h) ?_
                        simp only [Act.put, List.setIfInBounds_toArray, List.set_cons_zero, List.set_cons_succ]
                        refine seqI_take (v := .pointer (some ⟨Y, 1, none⟩)) rfl (fun W hW => by clear hW; go_simp) (fun _ _ _ h => h) ?_
                        simp only [Act.put, List.setIfInBounds_toArray, List.set_cons_zero, List.set_cons_succ]
                        refine seqI_take (v := .int .i64 i) rfl (fun W hW => by obtain ⟨m0, m1, m2, q0, q1, q2, q3, q4, q5⟩ := HCL2.out W hW; go_simp) (fun _ _ _ h => h) ?_
                        simp only [Act.put, List.setIfInBounds_toArray, List.set_cons_zero, List.set_cons_succ]
                        refine seqI_take (v := .pointer (some ⟨b0, off + i * 6, none⟩)) rfl (fun W hW => by clear hW; go_simp) (fun _ _ _ h => h) ?_
                        simp only [Act.put, List.setIfInBounds_toArray, List.set_cons_zero, List.set_cons_succ]
                        refine seqI_take (v := .agg #[.string ⟨rs.toArray⟩, .int .i64 rst, .string ⟨rp.toArray⟩, .int .i64 rt, .string ⟨rm.toArray⟩, .string ⟨rh.toArray⟩]) rfl (fun W hW => by obtain ⟨m0, m1, m2, q0, q1, q2, q3, q4, q5⟩ := HCL2.out W hW; go_simp) (fun _ _ _ h => h) ?_
                        simp only [Act.put, List.setIfInBounds_toArray, List.set_cons_zero, List.set_cons_succ]
                        have hA : Below we.heap.size we (we.alloc (.cells #[.string ⟨#[]⟩, .int .i64 0, .string ⟨#[]⟩, .int .i64 0, .string ⟨#[]⟩, .string ⟨#[]⟩] 63)) := ext_alloc (Below.refl _ _)
                        have HNA : Hid (Blk (we.alloc (.cells #[.string ⟨#[]⟩, .int .i64 0, .string ⟨#[]⟩, .int .i64 0, .string ⟨#[]⟩, .string ⟨#[]⟩] 63)) we.heap.size [.string ⟨#[]⟩, .int .i64 0, .string ⟨#[]⟩, .int .i64 0, .string ⟨#[]⟩, .string ⟨#[]⟩] 63) := Blk.new we _ _
                        have V9 : Hid (Below we.heap.size we ((we.alloc (.cells #[.string ⟨#[]⟩, .int .i64 0, .string ⟨#[]⟩, .int .i64 0, .string ⟨#[]⟩, .string ⟨#[]⟩] 63)).setCells we.heap.size 0 [.string ⟨rs.toArray⟩, .int .i64 rst, .string ⟨rp.toArray⟩, .int .i64 rt, .string ⟨rm.toArray⟩, .string ⟨rh.toArray⟩])) := belowW_put (Nat.le_refl _) hA _
                        have RB9 : Hid (Blk ((we.alloc (.cells #[.string ⟨#[]⟩, .int .i64 0, .string ⟨#[]⟩, .int .i64 0, .string ⟨#[]⟩, .string ⟨#[]⟩] 63)).setCells we.heap.size 0 [.string ⟨rs.toArray⟩, .int .i64 rst, .string ⟨rp.toArray⟩, .int .i64 rt, .string ⟨rm.toArray⟩, .string ⟨rh.toArray⟩]) we.heap.size [.string ⟨rs.toArray⟩, .int .i64 rst, .string ⟨rp.toArray⟩, .int .i64 rt, .string ⟨rm.toArray⟩, .string ⟨rh.toArray⟩] 63) := HNA.out.put6 (.string ⟨rs.toArray⟩) (.int .i64 rst) (.string ⟨rp.toArray⟩) (.int .i64 rt) (.string ⟨rm.toArray⟩) (.string ⟨rh.toArray⟩)
                        have HTH : Hid ((we.alloc (.cells #[.string ⟨#[]⟩, .int .i64 0, .string ⟨#[]⟩, .int .i64 0, .string ⟨#[]⟩, .string ⟨#[]⟩] 63)).there we.heap.size 0 6) := HNA.out.th 6 (Nat.le_refl 6)
                        refine seqI_do rfl (wp_valH (v := .pointer (some ⟨we.heap.size, 0, none⟩)) (w' := we.alloc (.cells #[.string ⟨#[]⟩, .int .i64 0, .string ⟨#[]⟩, .int .i64 0, .string ⟨#[]⟩, .string ⟨#[]⟩] 63)) (by clear HCL2; go_simp) ⟨hA, ?_⟩)
                        simp only [Act.put, List.setIfInBounds_toArray, List.set_cons_zero, List.set_cons_succ]
                        refine seqI_nil (Or.inl ?_)
                        refine wp_store_mid 63 (.tmp 12) (.tmp 96) rfl we.heap.size 0 #[.string ⟨rs.toArray⟩, .int .i64 rst, .string ⟨rp.toArray⟩, .int .i64 rt, .string ⟨rm.toArray⟩, .string ⟨rh.toArray⟩] rfl rfl HTH.out Tryz.druleSz (by simp [Value.oneCell']) ?_
                        simp only [Act.put]
                        generalize (we.alloc (.cells #[.string ⟨#[]⟩, .int .i64 0, .string ⟨#[]⟩, .int .i64 0, .string ⟨#[]⟩, .string ⟨#[]⟩] 63)).setCells we.heap.size 0 _ = wf at V9 RB9 ⊢
                        have HSf := Lib.hid (HSe.out.below V9.out)
                        have Xf := Lib.hid (Xe.out.below V9.out)
                        have HRf := Lib.hid (HRe.out.below V9.out)
                        have HKf := Lib.hid (HKe.out.ext V9.out)
                        have Yf := Lib.hid (Ye.out.below V9.out)
                        generalize we.heap.size = Q at RB9 ⊢
                        clear hA HNA HTH V9 HSe Xe HRe HKe Ye HCL2
                        have b0c := RB9.out.cell 0 rfl
                        as_aux_lemma =>
                          go_wp2_with fail
                          refine (HMI.out wf).mono ?_
                          rintro e wg ⟨rfl, hb⟩
                          have HSg := Lib.hid (HSf.out.below hb)
                          have Xg := Lib.hid (Xf.out.below hb)
                          have HRg := Lib.hid (HRf.out.below hb)
                          have HKg := Lib.hid (HKf.out.ext hb)
                          have Yg := Lib.hid (Yf.out.below hb)
                          have RBg := Lib.hid (RB9.out.below hb)
                          clear hb b0c HSf Xf HRf HKf Yf RB9 HMI
                          have b3 := RBg.out.cell 3 rfl
                          have y2 := Yg.out.cell 2 rfl
                          as_aux_lemma =>
                            go_upto_region 18 with (fail)
                            clear b3 y2
                            have x0 := Xg.out.cell 0 rfl
                            have hctx := (HCX.out wg HKg.out).2
                            as_aux_lemma =>
                              go_wp2_with fail
                              clear x0 hctx
                              go_loopw [124] (fun it wr => ∃ j2 : Nat, j2 ≤ rn ∧ it = .int .i64 j2 ∧ Hid (Below wg.heap.size wg wr)) (fun it _ => rn - (intOf it).toNat)
                              case atStart => exact ⟨0, Nat.zero_le _, rfl, Below.refl _ _⟩
                              case round =>
                                obtain ⟨j2, hj2, rfl, VJ⟩ := hrel
                                by_cases hlj2 : j2 < rn
                                case neg =>
                                  have HSh := Lib.hid ((HSg.out.below VJ.out).mono (k' := 408 + 8 * (j + 1)) (by omega))
                                  have Xh := Lib.hid (Xg.out.below VJ.out)
                                  have HRh := Lib.hid (HRg.out.below VJ.out)
                                  have HKh := Lib.hid (HKg.out.ext VJ.out)
                                  have hjn2 : ¬ ((j2 : Int) < (rn : Int)) := by omega
                                  clear VJ HSg Xg HRg HKg
                                  as_aux_lemma =>
                                    go_wp2_with fail
                                    go_roundw
                                    case rel => exact ⟨j + 1, by omega, by go_num, HSh, Xh, HRh, HKh⟩
                                    case measure => simp [intOf]; omega
                                obtain ⟨hok2, hrg2⟩ := HRR.out j2 hlj2
                                have hM2 := HMT.out j2 hlj2
                                have hB2 := HBF.out j2 hlj2 hil
                                have hbest2 := HBEST.out j2 hlj2
                                rw [← HRL.out] at hB2 hbest2
                                generalize rules.getD j2 noDRule = rl2 at hok2 hrg2 hM2 hB2 hbest2
                                obtain ⟨rel2, rst2, rp2, rt2, rm2, rh2⟩ := rl2
                                have hhr := hok2.hours
                                simp only at hrg2 hM2 hB2 hbest2 hhr
                                rw [← HRSE.out] at hB2
                                have hrg3 : wr.rangeAt b0 (off + j2 * 6) [.string ⟨rel2.str.toArray⟩, .int .i64 rst2, .string ⟨rp2.toArray⟩, .int .i64 rt2, .string ⟨rm2.toArray⟩, .string ⟨rh2.toArray⟩] := hrg2 wr (HKg.out.ext VJ.out)
                                have HRG := Lib.hid hrg3
                                clear hok2 hrg2 hrg3
                                generalize rel2.str = rs2 at HRG hM2 hB2
                                generalize matchB rel2.pat d = am at hM2 hbest2
                                generalize befI rel2 rel = bf at hB2 hbest2
                                have HM2 := Lib.hid hM2
                                have HB2 := Lib.hid hB2
                                have HBS2 := Lib.hid hbest2
                                have HHR2 := Lib.hid hhr
                                clear hM2 hB2 hbest2 hhr
                                have hj0 : ¬ ((j2 : Int) < 0) := by omega
                                have hjn : (j2 : Int) < (rn : Int) := by omega
                                have hz0 := Blk.new wr [.string ⟨#[]⟩, .int .i64 0, .string ⟨#[]⟩, .int .i64 0, .string ⟨#[]⟩, .string ⟨#[]⟩] 63
                                have HTH : Hid (World.there (wr.alloc (.cells #[.string ⟨#[]⟩, .int .i64 0, .string ⟨#[]⟩, .int .i64 0, .string ⟨#[]⟩, .string ⟨#[]⟩] 63)) wr.heap.size 0 6) := hz0.th 6 (Nat.le_refl 6)
                                have hA : Below wr.heap.size wr (wr.alloc (.cells #[.string ⟨#[]⟩, .int .i64 0, .string ⟨#[]⟩, .int .i64 0, .string ⟨#[]⟩, .string ⟨#[]⟩] 63)) := ext_alloc (Below.refl _ _)
                                have V6 : Hid (Below wr.heap.size wr (World.setCells (wr.alloc (.cells #[.string ⟨#[]⟩, .int .i64 0, .string ⟨#[]⟩, .int .i64 0, .string ⟨#[]⟩, .string ⟨#[]⟩] 63)) wr.heap.size 0 [.string ⟨rs2.toArray⟩, .int .i64 rst2, .string ⟨rp2.toArray⟩, .int .i64 rt2, .string ⟨rm2.toArray⟩, .string ⟨rh2.toArray⟩])) := belowW_put (Nat.le_refl _) hA _
                                have R6 : Hid (Blk (World.setCells (wr.alloc (.cells #[.string ⟨#[]⟩, .int .i64 0, .string ⟨#[]⟩, .int .i64 0, .string ⟨#[]⟩, .string ⟨#[]⟩] 63)) wr.heap.size 0 [.string ⟨rs2.toArray⟩, .int .i64 rst2, .string ⟨rp2.toArray⟩, .int .i64 rt2, .string ⟨rm2.toArray⟩, .string ⟨rh2.toArray⟩]) wr.heap.size [.string ⟨rs2.toArray⟩, .int .i64 rst2, .string ⟨rp2.toArray⟩, .int .i64 rt2, .string ⟨rm2.toArray⟩, .string ⟨rh2.toArray⟩] 63) := hz0.put6 (.string ⟨rs2.toArray⟩) (.int .i64 rst2) (.string ⟨rp2.toArray⟩) (.int .i64 rt2) (.string ⟨rm2.toArray⟩) (.string ⟨rh2.toArray⟩)
                                clear hz0 hA
                                as_aux_lemma =>
                                  go_wp2_with (first | (refine wpList_load_mid rfl 63 (.tmp 126) rfl b0 (off + j2 * 6) rfl [.string ⟨rs2.toArray⟩, .int .i64 rst2, .string ⟨rp2.toArray⟩, .int .i64 rt2, .string ⟨rm2.toArray⟩, .string ⟨rh2.toArray⟩] _ HRG.out Tryz.underlying63 rfl Tryz.druleSz ?_) | (refine wpList_store_mid rfl 63 (.tmp 16) (.tmp 127) rfl wr.heap.size 0 #[.string ⟨rs2.toArray⟩, .int .i64 rst2, .string ⟨rp2.toArray⟩, .int .i64 rt2, .string ⟨rm2.toArray⟩, .string ⟨rh2.toArray⟩] rfl rfl HTH.out Tryz.druleSz (by simp [Value.oneCell']) ?_; generalize (World.setCells (wr.alloc (.cells #[.string ⟨#[]⟩, .int .i64 0, .string ⟨#[]⟩, .int .i64 0, .string ⟨#[]⟩, .string ⟨#[]⟩] 63)) wr.heap.size 0 [.string ⟨rs2.toArray⟩, .int .i64 rst2, .string ⟨rp2.toArray⟩, .int .i64 rt2, .string ⟨rm2.toArray⟩, .string ⟨rh2.toArray⟩]) = wh at R6 V6 ⊢; clear HTH HRG; refine Hid.out ?_))
                                  refine Lib.hid ?_
                                  have VJh := Lib.hid (ext_trans VJ.out V6.out)
                                  generalize wr.heap.size = T at R6 ⊢
                                  clear V6 hj0 hjn VJ
                                  have r0 := R6.out.cell 0 rfl
                                  as_aux_lemma =>
                                    go_wp2_with fail
                                    refine (HM2.out wh).mono ?_
                                    rintro e wi ⟨rfl, hb⟩
                                    have VJi := Lib.hid (ext_trans VJh.out hb)
                                    have Ri := Lib.hid (R6.out.below hb)
                                    have RBi := Lib.hid (RBg.out.below VJi.out)
                                    clear hb r0 VJh R6 HM2
                                    have r0 := Ri.out.cell 0 rfl
                                    have q0 := RBi.out.cell 0 rfl
                                    as_aux_lemma =>
                                      go_wp2_with fail
                                      refine (HB2.out wi).mono ?_
                                      rintro e wj ⟨rfl, hb⟩
                                      have VJj := Lib.hid (ext_trans VJi.out hb)
                                      have Rj := Lib.hid (Ri.out.below hb)
                                      clear hb r0 q0 VJi Ri RBi HB2
                                      as_aux_lemma =>
                                        go_upto_region 23 with (fail)
                                        go_cut [124, 159] from 124 to 160 (fun it vb wx => it = .int .i64 j2 ∧ vb = .bool false ∧ Hid (Below wj.heap.size wj wx))
                                        case first =>
                                          have r5 := Rj.out.cell 5 rfl
                                          have hmem : rh2 = [] ∨ rh2 = [104, 97] ∨ rh2 = [104, 98] := by
                                            have h1 := HHR2.out
                                            rcases List.mem_cons.1 h1 with h1 | h1
                                            · exact .inl h1
                                            rcases List.mem_cons.1 h1 with h1 | h1
                                            · exact .inr (.inl h1)
                                            rcases List.mem_cons.1 h1 with h1 | h1
                                            · exact .inr (.inr h1)
                                            · cases h1
                                          have HCASE : Hid (am = false ∨ (am = true ∧ ¬ bf < 0) ∨ (am = true ∧ bf < 0 ∧ (rh2 = [104, 97] ∨ rh2 = [104, 98]))) := by
                                            show _ ∨ _ ∨ _
                                            cases am with
                                            | false => exact .inl rfl
                                            | true =>
                                              by_cases hlt : bf < 0
                                              · rcases hmem with h | h
                                                · exact absurd hlt (by have := HBS2.out rfl h; omega)
                                                · exact .inr (.inr ⟨rfl, hlt, h⟩)
                                              · exact .inr (.inl ⟨rfl, hlt⟩)
                                          clear hmem HBS2 HHR2
                                          have hTw : T < wj.heap.size := Rj.out.lt
                                          rcases HCASE.out with rfl | ⟨rfl, hnl⟩ | ⟨rfl, hlt, hh⟩
                                          · skip
                                            as_aux_lemma =>
                                              go_wp2_with fail
                                              refine (errs_zero _ _ 2 2 (by omega) ?_).mono ?_
                                              · intro i hi
                                                match i, hi with
                                                | 0, _ => go_simp
                                                | 1, _ => go_simp
                                              rintro e wk ⟨rfl, rfl⟩
                                              go_wp2_with fail
                                              go_meet
                                              exact ⟨rfl, rfl, ext_alloc (Below.refl _ _)⟩
                                          · skip
                                            as_aux_lemma =>
                                              go_wp2_with fail
                                              refine (errs_zero _ _ 2 2 (by omega) ?_).mono ?_
                                              · intro i hi
                                                match i, hi with
                                                | 0, _ => go_simp
                                                | 1, _ => go_simp
                                              rintro e wk ⟨rfl, rfl⟩
                                              go_wp2_with fail
                                              go_meet
                                              exact ⟨rfl, rfl, ext_alloc (Below.refl _ _)⟩
                                          · rcases hh with rfl | rfl
                                            · skip
                                              as_aux_lemma =>
                                                go_wp2_with fail
                                                refine (errs_zero _ _ 2 2 (by omega) ?_).mono ?_
                                                · intro i hi
                                                  match i, hi with
                                                  | 0, _ => go_simp
                                                  | 1, _ => go_simp
                                                rintro e wk ⟨rfl, rfl⟩
                                                go_wp2_with fail
                                                go_meet
                                                exact ⟨rfl, rfl, ext_alloc (Below.refl _ _)⟩
                                            · skip
                                              as_aux_lemma =>
                                                go_wp2_with fail
                                                refine (errs_zero _ _ 2 2 (by omega) ?_).mono ?_
                                                · intro i hi
                                                  match i, hi with
                                                  | 0, _ => go_simp
                                                  | 1, _ => go_simp
                                                rintro e wk ⟨rfl, rfl⟩
                                                go_wp2_with fail
                                                go_meet
                                                exact ⟨rfl, rfl, ext_alloc (Below.refl _ _)⟩
                                        case rest =>
                                          obtain ⟨rfl, rfl, hV⟩ := hcut
                                          have VJk := Lib.hid (ext_trans VJj.out hV.out)
                                          clear hV VJj Rj HBS2 HHR2
                                          as_aux_lemma =>
                                            go_wp2_with fail
                                            go_roundw
                                            case rel => exact ⟨j2 + 1, by omega, by go_num, VJk⟩
                                            case measure => simp [intOf]; omega
end Go.Proofs.YtamlhapiehchoaaGreatDoor

namespace Go.Proofs.YtamlhapiehchoaaGreatDoor
open Go.ChangeShapes Go.WideShapes Go.ChangeAt Go.RowKit
set_option linter.unusedVariables false

theorem own : ownKnob Tryz.prog.godebug = none := by kernel_rfl
theorem laidOut : laidOutB Tryz.prog = true := by kernel_rfl

/-- The listed variables. -/
abbrev laid3 : List (String × DataW Unit) := [("math/bits.deBruijn32tab", Rows.laid_math_bits_deBruijn32tab), ("unicode/utf8.acceptRanges", Rows.laid_unicode_utf8_acceptRanges), ("unicode/utf8.first", Rows.laid_unicode_utf8_first)]

theorem gTab : Tryz.prog.globalNamed "math/bits.deBruijn32tab" = some 0 := by kernel_rfl
theorem tTab : (Tryz.prog.globals[0]?).map (·.type) = some 198 := by kernel_rfl
theorem cByte : Tryz.prog.cellsOf 5 = 1 := by kernel_rfl

theorem tab_of_laid {W : World} (h : laidMetH Tryz.prog laid3 W) : TabAt W := by
  rw [MakeChecks.laidMetH_plain _ _ _ (by kernel_rfl)] at h
  obtain ⟨g, t, cs, fuel, p, hg, ht, hv, hd⟩ := Lib.laidMet.reads h (List.mem_cons_self ..)
  obtain rfl := Option.some.inj (gTab.symm.trans hg)
  obtain rfl := Option.some.inj (tTab.symm.trans ht)
  obtain ⟨xs, m, rfl, hx, hlen, hn, hel⟩ := DataW.trod_array Tryz.underlying198 hd
  have hxs : xs.map (·.1) = tabL.map (fun z => (DataW.lit (.int .u8 z) : DataW Unit)) := by
    have := congrArg Prod.fst hx
    simp only [Rows.laid_math_bits_deBruijn32tab, DataW.agg.injEq] at this
    exact this.symm
  have key : ∀ i, i < 32 → W.cell? ⟨0, i, none⟩ = some (.int .u8 (tabL.getD i 0)) := by
    intro i hi
    have h1 := hel i hi
    obtain ⟨b, hb⟩ : ∃ b, xs[i]? = some b := ⟨xs[i]'(by omega), List.getElem?_eq_getElem (by omega)⟩
    rw [hb, cByte] at h1
    obtain ⟨z, hcz, hbz, _⟩ := DataW.trod_int Tryz.underlying5 h1
    have h2 : cs[i]? = some (.int .u8 z) := by
      have := congrArg (·[0]?) hcz
      simpa [List.getElem?_take, List.getElem?_drop] using this
    have h3 : (xs.map (·.1))[i]? = some (DataW.lit (.int .u8 z) : DataW Unit) := by simp [hb, hbz]
    rw [hxs] at h3
    simp only [List.getElem?_map, Option.map_eq_some_iff, DataW.lit.injEq, Lit.int.injEq, true_and] at h3
    obtain ⟨z', hz', rfl⟩ := h3
    rw [World.var?_cell hg hv i, h2]
    simp [List.getD_eq_getElem?_getD, hz']
  refine ⟨?_, key⟩
  have := key 0 (by omega)
  rcases Nat.lt_or_ge 0 W.heap.size with h | h
  · exact h
  · simp [World.cell?, Array.getElem?_eq_none h] at this
end Go.Proofs.YtamlhapiehchoaaGreatDoor
