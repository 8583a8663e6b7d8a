/- What is proved here: lemmas and contracts for the statement, put together out of smaller texts (DkpRof, DkpTkr, DkpRdr). No condition beyond those stated. -/
import Derived.Test.YtacekbbndamkmaaGreatDoorDpPkF
import Derived.Test.YtacekbbndamkmaaGreatDoorDpPkD
import Derived.Test.YtacekbbndamkmaaGreatDoorDpPkG
import Derived.Test.YtacekbbndamkmaaGreatDoorDpPkA
import Derived.Test.YtacekbbndamkmaaGreatDoorDpPkB
import Derived.Test.YtacekbbndamkmaaGreatDoorDpPkE
import Derived.Test.YtacekbbndamkmaaGreatDoorDpPkC
set_option linter.unusedVariables false
set_option linter.unusedSimpArgs false
namespace Go.Proofs.YtacekbbndamkmaaGreatDoor
open Go.RowKit

def rofE (d : Deck) (n : List UInt8) : Int := if deckErr d ≠ 0 then deckErr d else if isNumB n = false then 3 else 0
def rofO (d : Deck) (n : List UInt8) : Option Rate := if rofE d n = 0 then rateOf d.rates (n.drop 1) 15 else none
def RofPost (d : Deck) (n : List UInt8) (w : World) (e : Ending) (w' : World) : Prop := e = .returned (.tuple #[.agg #[.string ⟨((rofO d n).getD noRate).p.toArray⟩, .int .i64 ((rofO d n).getD noRate).price, .bool ((rofO d n).getD noRate).closed], .bool (rofO d n).isSome, .int .i64 (rofE d n)]) ∧ Below w.heap.size w w'
theorem rof_bad {d : Deck} {n : List UInt8} {E : Int} {w w' : World} (h : rofE d n = E) (hE : E ≠ 0) (hb : Below w.heap.size w w') : RofPost d n w (.returned (.tuple #[.agg #[.string ⟨#[]⟩, .int .i64 0, .bool false], .bool false, .int .i64 E])) w' := by
  unfold RofPost rofO
  rw [h, if_neg hE]
  exact ⟨rfl, hb⟩
theorem rof_fine {d : Deck} {n : List UInt8} {w w' : World} (h : rofE d n = 0) (hb : Below w.heap.size w w') (o : Option Rate) (ho : rateOf d.rates (n.drop 1) 15 = o) : RofPost d n w (.returned (.tuple #[.agg #[.string ⟨(o.getD noRate).p.toArray⟩, .int .i64 (o.getD noRate).price, .bool (o.getD noRate).closed], .bool o.isSome, .int .i64 0])) w' := by
  unfold RofPost rofO
  rw [h, if_pos rfl, ho]
  exact ⟨rfl, hb⟩
theorem Blk.rangeP {w : World} {B : Nat} {vs : List Value} {ty : TypeId} (h : Blk w B vs ty) : w.rangeAt B 0 vs := fun j v hj => by rw [Nat.zero_add]; exact h.cell j hj
theorem rate_str (w : World) (df ds dl dp : Int) (ra : Option Addr) (rn rc : Nat) (cs : List Rate) (l : List UInt8) (s : ByteArray) (hs : s = ⟨l.toArray⟩) (m : Nat) (hr : RateRow w ra rn cs) (ho : RSorted cs) (hl : l.length ≤ 1000) (hm : m ≤ 1000) :
    Calls Tryz.prog 51 #[.agg #[.int .i64 df, .int .i64 ds, .int .i64 dl, .int .i64 dp, .slice ra rn rc], .string s, .int .i64 m] w (RatePost (rateOf cs l m) w) := by
  subst hs
  exact rate_any w df ds dl dp ra rn rc cs l m hr ho hl hm
set_option maxRecDepth 100000 in
set_option maxHeartbeats 4000000 in
theorem rateOf_any (w : World) (d : Deck) (hd : DeckFine w d) (n : List UInt8) (hn : n.length ≤ 1000) : Calls Tryz.prog 26 #[.agg d.cells.toArray, .string ⟨n.toArray⟩] w (RofPost d n w) := by
  have hlen := hd.row.len
  have hfew := hd.row.few
  have hgood := fun h => deck_good (d := d) (by omega) h
  have HG := Lib.hid hgood
  have HCD := Lib.hid (fun W (h : DeckFine W d) => checkDeck_any W d h)
  have HR0 := Lib.hid hd
  have HBD : Hid (∀ W, Below w.heap.size w W → ∀ E, E ≠ 0 → rofE d n = E → RofPost d n w (.returned (.tuple #[.agg #[.string ⟨#[]⟩, .int .i64 0, .bool false], .bool false, .int .i64 E])) W) := fun W hW E hE h => rof_bad h hE hW
  have HOK : Hid (∀ W, Below w.heap.size w W → rofE d n = 0 → ∀ o, rateOf d.rates (n.drop 1) 15 = o → RofPost d n w (.returned (.tuple #[.agg #[.string ⟨(o.getD noRate).p.toArray⟩, .int .i64 (o.getD noRate).price, .bool (o.getD noRate).closed], .bool o.isSome, .int .i64 0])) W) := fun W hW h o ho => rof_fine h hW o ho
  have HEE : Hid (rofE d n = if deckErr d ≠ 0 then deckErr d else if isNumB n = false then 3 else 0) := rfl
  generalize rofE d n = X at HBD HOK HEE
  clear hd hlen hfew hgood
  obtain ⟨df, ds, dl, dp, ra, rn, rc, rates⟩ := d
  generalize hpp : RofPost ⟨df, ds, dl, dp, ra, rn, rc, rates⟩ n w = PP at HBD HOK ⊢
  clear hpp
  generalize deckErr ⟨df, ds, dl, dp, ra, rn, rc, rates⟩ = DE at HEE HG HCD
  show Calls Tryz.prog 26 #[.agg #[.int .i64 df, .int .i64 ds, .int .i64 dl, .int .i64 dp, .slice ra rn rc], .string ⟨n.toArray⟩] w _
  simp only [Deck.cells] at HG HOK HCD
  have HD : Hid (Blk ((w.alloc (.cells #[.int .i64 df, .int .i64 ds, .int .i64 dl, .int .i64 dp, .slice ra rn rc] 28)).alloc (.cells #[.string ⟨#[]⟩, .int .i64 0, .bool false] 51)) w.heap.size [.int .i64 df, .int .i64 ds, .int .i64 dl, .int .i64 dp, .slice ra rn rc] 28) := (Blk.new w _ _).alloc _
  have HR : Hid (Blk ((w.alloc (.cells #[.int .i64 df, .int .i64 ds, .int .i64 dl, .int .i64 dp, .slice ra rn rc] 28)).alloc (.cells #[.string ⟨#[]⟩, .int .i64 0, .bool false] 51)) (w.heap.size + 1) [.string ⟨#[]⟩, .int .i64 0, .bool false] 51) := by
    have := Blk.new (w.alloc (.cells #[.int .i64 df, .int .i64 ds, .int .i64 dl, .int .i64 dp, .slice ra rn rc] 28)) [.string ⟨#[]⟩, .int .i64 0, .bool false] 51
    rw [show (w.alloc (.cells #[.int .i64 df, .int .i64 ds, .int .i64 dl, .int .i64 dp, .slice ra rn rc] 28)).heap.size = w.heap.size + 1 by simp] at this
    exact this
  have HB : Hid (Below w.heap.size w ((w.alloc (.cells #[.int .i64 df, .int .i64 ds, .int .i64 dl, .int .i64 dp, .slice ra rn rc] 28)).alloc (.cells #[.string ⟨#[]⟩, .int .i64 0, .bool false] 51))) := ext_alloc (ext_alloc (Below.refl _ _))
  go_enter Tryz.func26, Tryz.ntmps26
  go_upto_region 1 with (fail)
  generalize World.alloc (World.alloc w _) _ = W at HD HR HB ⊢
  obtain ⟨R, hR⟩ : ∃ R, R = w.heap.size + 1 := ⟨_, rfl⟩
  rw [← hR] at HR
  simp only [← hR]
  have hwR : w.heap.size ≤ R := by omega
  clear hR
  have HRA : Hid (W.rangeAt w.heap.size 0 [.int .i64 df, .int .i64 ds, .int .i64 dl, .int .i64 dp, .slice ra rn rc]) := fun j v hj => by rw [Nat.zero_add]; exact HD.out.cell j hj
  as_aux_lemma =>
    go_wp2_with (refine wpList_load_mid rfl 28 (.tmp 2) rfl w.heap.size 0 rfl [.int .i64 df, .int .i64 ds, .int .i64 dl, .int .i64 dp, .slice ra rn rc] _ HRA.out Tryz.underlying28 rfl Tryz.deckSz ?_)
    refine (HCD.out _ (HR0.out.below HB.out)).mono ?_
    rintro e w1 ⟨rfl, hb1⟩
    have HB1 := Lib.hid (ext_trans HB.out hb1)
    have HD1 := Lib.hid (HD.out.below hb1)
    have HR1 := Lib.hid (HR.out.below hb1)
    clear hb1 HB HD HR HRA HCD
    by_cases hDE : DE = 0
    case neg =>
      obtain rfl : X = DE := by rw [HEE.out, if_pos hDE]
      have HTH : Hid (w1.there R 0 3) := HR1.out.th 3 (by decide)
      have HR9 : Hid (Blk (w1.setCells R 0 [.string ⟨#[]⟩, .int .i64 0, .bool false]) R [.string ⟨#[]⟩, .int .i64 0, .bool false] 51) := HR1.out.put3 (.string ⟨#[]⟩) (.int .i64 0) (.bool false)
      have HF := Lib.hid (HBD.out (w1.setCells R 0 [.string ⟨#[]⟩, .int .i64 0, .bool false]) (HB1.out.trans (below_setCells hwR _ _ _)) X (by first | assumption | decide) rfl)
      clear HBD HOK HG HR1 HB1
      as_aux_lemma =>
        go_wp2_with (first | (refine wpList_store_mid rfl 51 (.tmp 4) (.tmp 14) rfl R 0 #[.string ⟨#[]⟩, .int .i64 0, .bool false] rfl rfl HTH.out Tryz.rateSz (by simp [Value.oneCell']) ?_; generalize World.setCells w1 R 0 _ = W9 at HR9 HF ⊢))
        refine bodyPost_ret (v := .tuple #[.agg #[.string ⟨#[]⟩, .int .i64 0, .bool false], .bool false, .int .i64 X]) ?_ rfl HF.out
        exact results_cellTT (t := 4) (u := 5) (v := 6) (by rfl) _ _ _ Tryz.isAgg51 Tryz.sizeOf51 (by rfl) [.string ⟨#[]⟩, .int .i64 0, .bool false] rfl (fun j v hj => HR9.out.cell j hj)
    subst hDE
    have HE1 : Hid (X = if isNumB n = false then 3 else 0) := by show X = _; rw [HEE.out, if_neg (by decide)]
    clear HEE
    have HIN := Lib.hid (isNumber_l n w1 (by omega))
    have HNL : Hid (isNumB n = true → 1 ≤ n.length) := fun h => by obtain ⟨d, rfl, -⟩ := num_parts h; simp
    generalize isNumB n = g1 at HE1 HIN HNL
    skip
    as_aux_lemma =>
      go_wp2_with fail
      refine HIN.out.mono ?_
      rintro e w2 ⟨rfl, hb2⟩
      have HB2 := Lib.hid (ext_trans HB1.out hb2)
      have HD2 := Lib.hid (HD1.out.below hb2)
      have HR2 := Lib.hid (HR1.out.below hb2)
      clear hb2 HB1 HD1 HR1 HIN
      cases g1
      · obtain rfl : X = 3 := by rw [HE1.out, if_pos rfl]
        have HTH : Hid (w2.there R 0 3) := HR2.out.th 3 (by decide)
        have HR9 : Hid (Blk (w2.setCells R 0 [.string ⟨#[]⟩, .int .i64 0, .bool false]) R [.string ⟨#[]⟩, .int .i64 0, .bool false] 51) := HR2.out.put3 (.string ⟨#[]⟩) (.int .i64 0) (.bool false)
        have HF := Lib.hid (HBD.out (w2.setCells R 0 [.string ⟨#[]⟩, .int .i64 0, .bool false]) (HB2.out.trans (below_setCells hwR _ _ _)) 3 (by first | assumption | decide) rfl)
        clear HBD HOK HG HR2 HB2
        as_aux_lemma =>
          go_wp2_with (first | (refine wpList_store_mid rfl 51 (.tmp 4) (.tmp 19) rfl R 0 #[.string ⟨#[]⟩, .int .i64 0, .bool false] rfl rfl HTH.out Tryz.rateSz (by simp [Value.oneCell']) ?_; generalize World.setCells w2 R 0 _ = W9 at HR9 HF ⊢))
          refine bodyPost_ret (v := .tuple #[.agg #[.string ⟨#[]⟩, .int .i64 0, .bool false], .bool false, .int .i64 3]) ?_ rfl HF.out
          exact results_cellTT (t := 4) (u := 5) (v := 6) (by rfl) _ _ _ Tryz.isAgg51 Tryz.sizeOf51 (by rfl) [.string ⟨#[]⟩, .int .i64 0, .bool false] rfl (fun j v hj => HR9.out.cell j hj)
      obtain rfl : X = 0 := by rw [HE1.out, if_neg (by decide)]
      have HF0 := Lib.hid (fun W hW => HOK.out W hW rfl _ rfl)
      have HDG := Lib.hid (HG.out (by trivial))
      clear HBD HOK HE1 HG
      have HRR : Hid (RateRow w2 ra rn rates) := (HR0.out.below HB2.out).row
      have hnd : (n.drop 1).length ≤ 1000 := by rw [List.length_drop]; omega
      have hn1 : 1 ≤ n.length := HNL.out (by trivial)
      have hwl : w.heap.size < w2.heap.size := HD2.out.lt
      have d0 := HD2.out.cell 0 rfl
      have d1 := HD2.out.cell 1 rfl
      have d2 := HD2.out.cell 2 rfl
      have d3 := HD2.out.cell 3 rfl
      have d4 := HD2.out.cell 4 rfl
      clear HNL HR0
      have HPO : Hid (∀ W, Below w2.heap.size w2 W → Calls Tryz.prog 51 #[.agg #[.int .i64 df, .int .i64 ds, .int .i64 dl, .int .i64 dp, .slice ra rn rc], .string ((⟨n.toArray⟩ : ByteArray).extract 1 n.length), .int .i64 15] W (RatePost (rateOf rates (n.drop 1) 15) W)) := fun W hW => rate_str W df ds dl dp ra rn rc rates (n.drop 1) _ (extract_drop n 1) 15 (HRR.out.below hW) HDG.out.sorted hnd (by omega)
      have HF : Hid (∀ W, Below w.heap.size w W → PP (.returned (.tuple #[.agg #[.string ⟨((rateOf rates (n.drop 1) 15).getD noRate).p.toArray⟩, .int .i64 ((rateOf rates (n.drop 1) 15).getD noRate).price, .bool ((rateOf rates (n.drop 1) 15).getD noRate).closed], .bool (rateOf rates (n.drop 1) 15).isSome, .int .i64 0])) W) := HF0.out
      generalize rateOf rates (n.drop 1) 15 = o at HF HPO
      clear HRR HDG HF0
      as_aux_lemma =>
        go_upto_region 6 with (fail)
        go_cut [8, 9] (fun v8 v9 wx => ∃ D, v8 = .pointer (some ⟨D, 0, none⟩) ∧ v9 = .bool o.isSome ∧ Hid (Blk wx D [.string ⟨(o.getD noRate).p.toArray⟩, .int .i64 (o.getD noRate).price, .bool (o.getD noRate).closed] 51) ∧ Hid (Below w2.heap.size w2 wx))
        case first =>
          clear HF HB2 HR2 HD2
          refine NoS.region_late 0 0 1 8 6 [.val (fun v => (.agg #[.int .i64 df, .int .i64 ds, .int .i64 dl, .int .i64 dp, .slice ra rn rc]) = v), .val (fun v => (.string ⟨n.toArray⟩) = v), .val (fun v => (.string ((⟨n.toArray⟩ : ByteArray).extract 1 n.length)) = v), .val (fun v => (.tuple #[.agg #[.string ⟨(o.getD noRate).p.toArray⟩, .int .i64 (o.getD noRate).price, .bool (o.getD noRate).closed], .bool o.isSome]) = v), .val (fun v => (.tuple #[.agg #[.string ⟨(o.getD noRate).p.toArray⟩, .int .i64 (o.getD noRate).price, .bool (o.getD noRate).closed], .bool o.isSome]) = v), .val (fun v => (.agg #[.string ⟨(o.getD noRate).p.toArray⟩, .int .i64 (o.getD noRate).price, .bool (o.getD noRate).closed]) = v), .val (fun v => (.bool o.isSome) = v), .mem (fun W v => ∃ D, v = .pointer (some ⟨D, 0, none⟩) ∧ Blk W D [.string ⟨#[]⟩, .int .i64 0, .bool false] 51 ∧ w2.heap.size ≤ D)] [3] [some 21, some 22, some 23, some 24, some 20, some 25, some 26, some 8] rfl (by kernel_rfl) (by kernel_rfl) (by kernel_rfl) (by kernel_rfl) (by kernel_rfl) rfl (by kernel_rfl) rfl rfl (by kernel_rfl) trivial ⟨?_, ?_, ?_, ?_, ?_, ?_, ?_, ?_, trivial⟩ ?_ ?_
          · intro a w' c hk hst hc hfr hdp K hK
            as_aux_lemma =>
              have E2 : a.eval (.tmp 2) = .pointer (some ⟨w.heap.size, 0, none⟩) := NoS.fr_list hfr 2 (by kernel_rfl)
              have d2_ := slot_of E2
              have e0 : w'.cell? ⟨w.heap.size, 0, none⟩ = some (.int .i64 df) := (hk.cell (p := ⟨w.heap.size, 0, none⟩) hwl).trans d0
              have e1 : w'.cell? ⟨w.heap.size, 1, none⟩ = some (.int .i64 ds) := (hk.cell (p := ⟨w.heap.size, 1, none⟩) hwl).trans d1
              have e2 : w'.cell? ⟨w.heap.size, 2, none⟩ = some (.int .i64 dl) := (hk.cell (p := ⟨w.heap.size, 2, none⟩) hwl).trans d2
              have e3 : w'.cell? ⟨w.heap.size, 3, none⟩ = some (.int .i64 dp) := (hk.cell (p := ⟨w.heap.size, 3, none⟩) hwl).trans d3
              have e4 : w'.cell? ⟨w.heap.size, 4, none⟩ = some (.slice ra rn rc) := (hk.cell (p := ⟨w.heap.size, 4, none⟩) hwl).trans d4
              refine NoS.gen_pure (v := .agg #[.int .i64 df, .int .i64 ds, .int .i64 dl, .int .i64 dp, .slice ra rn rc]) ?_ (hK _ _ rfl (NoS.Keeps.refl _ _) hst)
              clear hK hdp hfr
              go_simp
          · intro a w' c hk hst hc hfr hdp K hK
            as_aux_lemma =>
              have E1 : a.eval (.tmp 1) = .string ⟨n.toArray⟩ := NoS.fr_list hfr 1 (by kernel_rfl)
              have d1_ := slot_of E1
              refine NoS.gen_pure (v := .string ⟨n.toArray⟩) ?_ (hK _ _ rfl (NoS.Keeps.refl _ _) hst)
              clear hK hdp hfr
              go_simp
          · intro a w' c hk hst hc hfr hdp K hK
            as_aux_lemma =>
              have E22 : a.eval (.tmp 22) = .string ⟨n.toArray⟩ := Eq.symm (hdp 1 22 _ (by kernel_rfl) (by kernel_rfl) rfl)
              have d22_ := slot_of E22
              refine NoS.gen_pure (v := .string ((⟨n.toArray⟩ : ByteArray).extract 1 n.length)) ?_ (hK _ _ rfl (NoS.Keeps.refl _ _) hst)
              clear hK hdp hfr
              go_simp
              intro h9
              exact absurd h9 (by omega)
          · intro a w' c hk hst hc hfr hdp K hK
            as_aux_lemma =>
              have E21 : a.eval (.tmp 21) = .agg #[.int .i64 df, .int .i64 ds, .int .i64 dl, .int .i64 dp, .slice ra rn rc] := Eq.symm (hdp 0 21 _ (by kernel_rfl) (by kernel_rfl) rfl)
              have d21_ := slot_of E21
              have E23 : a.eval (.tmp 23) = .string ((⟨n.toArray⟩ : ByteArray).extract 1 n.length) := Eq.symm (hdp 2 23 _ (by kernel_rfl) (by kernel_rfl) rfl)
              have d23_ := slot_of E23
              refine NoS.gen_call 51 #[.agg #[.int .i64 df, .int .i64 ds, .int .i64 dl, .int .i64 dp, .slice ra rn rc], .string ((⟨n.toArray⟩ : ByteArray).extract 1 n.length), .int .i64 15] ?_ (HPO.out w' (ext_trans (by exact ext_drew (Below.refl _ _)) (NoS.Keeps.below hk))) ?_
              · clear hK hdp hfr; go_simp
              rintro e w'' ⟨hb9, rfl⟩
              exact ⟨_, rfl, hK _ _ rfl (NoS.Keeps.of_below hb9) trivial⟩
          · intro a w' c hk hst hc hfr hdp K hK
            as_aux_lemma =>
              have E24 : a.eval (.tmp 24) = .tuple #[.agg #[.string ⟨(o.getD noRate).p.toArray⟩, .int .i64 (o.getD noRate).price, .bool (o.getD noRate).closed], .bool o.isSome] := Eq.symm (hdp 3 24 _ (by kernel_rfl) (by kernel_rfl) rfl)
              have d24_ := slot_of E24
              refine NoS.gen_pure (v := .tuple #[.agg #[.string ⟨(o.getD noRate).p.toArray⟩, .int .i64 (o.getD noRate).price, .bool (o.getD noRate).closed], .bool o.isSome]) ?_ (hK _ _ rfl (NoS.Keeps.refl _ _) hst)
              clear hK hdp hfr
              go_simp
          · intro a w' c hk hst hc hfr hdp K hK
            as_aux_lemma =>
              have E20 : a.eval (.tmp 20) = .tuple #[.agg #[.string ⟨(o.getD noRate).p.toArray⟩, .int .i64 (o.getD noRate).price, .bool (o.getD noRate).closed], .bool o.isSome] := Eq.symm (hdp 4 20 _ (by kernel_rfl) (by kernel_rfl) rfl)
              have d20_ := slot_of E20
              refine NoS.gen_pure (v := .agg #[.string ⟨(o.getD noRate).p.toArray⟩, .int .i64 (o.getD noRate).price, .bool (o.getD noRate).closed]) ?_ (hK _ _ rfl (NoS.Keeps.refl _ _) hst)
              clear hK hdp hfr
              go_simp
          · intro a w' c hk hst hc hfr hdp K hK
            as_aux_lemma =>
              have E20 : a.eval (.tmp 20) = .tuple #[.agg #[.string ⟨(o.getD noRate).p.toArray⟩, .int .i64 (o.getD noRate).price, .bool (o.getD noRate).closed], .bool o.isSome] := Eq.symm (hdp 4 20 _ (by kernel_rfl) (by kernel_rfl) rfl)
              have d20_ := slot_of E20
              refine NoS.gen_pure (v := .bool o.isSome) ?_ (hK _ _ rfl (NoS.Keeps.refl _ _) hst)
              clear hK hdp hfr
              go_simp
          · intro a w' c hk hst hc hfr hdp K hK
            as_aux_lemma =>
              refine wp_val (v := .pointer (some ⟨w'.heap.size, 0, none⟩)) (w' := w'.alloc (.cells #[.string ⟨#[]⟩, .int .i64 0, .bool false] 51)) ?_ (hK _ _ ?_ ?_ trivial)
              · clear hK hdp hfr; go_simp
              · intro w9 h9
                exact ⟨_, rfl, (Blk.new w' [.string ⟨#[]⟩, .int .i64 0, .bool false] 51).below (NoS.Keeps.below h9), (by have h8 := NoS.Keeps.size hk; exact h8)⟩
              · exact NoS.Keeps.of_below (ext_alloc (Below.refl _ _))
          · intro w9 hk9 _
            as_aux_lemma =>
              rintro _ rfl _ rfl _ rfl _ rfl _ rfl _ rfl _ rfl _ h10
              obtain ⟨D, rfl, hD, hDl⟩ := h10 w9 (NoS.Keeps.refl _ _)
              simp only [NoS.ForVals, Act.put, List.setIfInBounds_toArray, List.set_cons_zero, List.set_cons_succ, List.drop_succ_cons, List.drop_zero]
              have hb9 : Below w2.heap.size w2 w9 := ext_trans (by exact ext_drew (Below.refl _ _)) (NoS.Keeps.below hk9)
              have HTH : Hid (w9.there D 0 3) := hD.th 3 (by simp)
              have HD9 : Hid (Blk (w9.setCells D 0 [.string ⟨(o.getD noRate).p.toArray⟩, .int .i64 (o.getD noRate).price, .bool (o.getD noRate).closed]) D [.string ⟨(o.getD noRate).p.toArray⟩, .int .i64 (o.getD noRate).price, .bool (o.getD noRate).closed] 51) := ((hD.put 0 _).put 1 _).put 2 _
              have HB9 : Hid (Below w2.heap.size w2 (w9.setCells D 0 [.string ⟨(o.getD noRate).p.toArray⟩, .int .i64 (o.getD noRate).price, .bool (o.getD noRate).closed])) := hb9.trans (below_setCells hDl _ _ _)
              clear hD hb9 hk9 h10
              go_wp2_with (refine wpList_store_mid rfl 51 (.tmp 8) (.tmp 25) rfl D 0 #[.string ⟨(o.getD noRate).p.toArray⟩, .int .i64 (o.getD noRate).price, .bool (o.getD noRate).closed] rfl rfl HTH.out Tryz.rateSz (by simp [Value.oneCell']) ?_; generalize World.setCells w9 D 0 _ = W9 at HD9 HB9 ⊢)
              go_meet
              exact ⟨D, rfl, rfl, HD9.out, HB9.out⟩
          · intro w9 hk9 _
            as_aux_lemma =>
              rintro _ rfl _ rfl _ rfl _ rfl _ rfl _ rfl _ h10
              obtain ⟨D, rfl, hD, hDl⟩ := h10 w9 (NoS.Keeps.refl _ _)
              simp only [NoS.ForVals, Act.put, List.setIfInBounds_toArray, List.set_cons_zero, List.set_cons_succ, List.drop_succ_cons, List.drop_zero]
              have hb9 : Below w2.heap.size w2 w9 := ext_trans (by exact ext_drew (Below.refl _ _)) (NoS.Keeps.below hk9)
              have HTH : Hid (w9.there D 0 3) := hD.th 3 (by simp)
              have HD9 : Hid (Blk (w9.setCells D 0 [.string ⟨(o.getD noRate).p.toArray⟩, .int .i64 (o.getD noRate).price, .bool (o.getD noRate).closed]) D [.string ⟨(o.getD noRate).p.toArray⟩, .int .i64 (o.getD noRate).price, .bool (o.getD noRate).closed] 51) := ((hD.put 0 _).put 1 _).put 2 _
              have HB9 : Hid (Below w2.heap.size w2 (w9.setCells D 0 [.string ⟨(o.getD noRate).p.toArray⟩, .int .i64 (o.getD noRate).price, .bool (o.getD noRate).closed])) := hb9.trans (below_setCells hDl _ _ _)
              clear hD hb9 hk9 h10
              go_wp2_with (refine wpList_store_mid rfl 51 (.tmp 8) (.tmp 25) rfl D 0 #[.string ⟨(o.getD noRate).p.toArray⟩, .int .i64 (o.getD noRate).price, .bool (o.getD noRate).closed] rfl rfl HTH.out Tryz.rateSz (by simp [Value.oneCell']) ?_; generalize World.setCells w9 D 0 _ = W9 at HD9 HB9 ⊢)
              go_meet
              exact ⟨D, rfl, rfl, HD9.out, HB9.out⟩
        case rest =>
          obtain ⟨D, rfl, rfl, HD5, HB5⟩ := hcut
          obtain ⟨w5, rfl⟩ : ∃ x : World, x = wc := ⟨_, rfl⟩
          have HB6 := Lib.hid (ext_trans HB2.out HB5.out)
          have HR6 := Lib.hid (HR2.out.below HB5.out)
          clear HB2 HB5 HR2 HD2 HPO d0 d1 d2 d3 d4
          generalize (o.getD noRate).p = op at HF HD5 ⊢
          generalize (o.getD noRate).price = oq at HF HD5 ⊢
          generalize (o.getD noRate).closed = ol at HF HD5 ⊢
          generalize o.isSome = os at HF ⊢
          have HRX : Hid (w5.rangeAt D 0 [.string ⟨op.toArray⟩, .int .i64 oq, .bool ol]) := HD5.out.rangeP
          have HTH : Hid (w5.there R 0 3) := HR6.out.th 3 (by decide)
          have HR9 : Hid (Blk (w5.setCells R 0 [.string ⟨op.toArray⟩, .int .i64 oq, .bool ol]) R [.string ⟨op.toArray⟩, .int .i64 oq, .bool ol] 51) := HR6.out.put3 (.string ⟨op.toArray⟩) (.int .i64 oq) (.bool ol)
          have HFF := Lib.hid (HF.out (w5.setCells R 0 [.string ⟨op.toArray⟩, .int .i64 oq, .bool ol]) (HB6.out.trans (below_setCells hwR _ _ _)))
          clear HF HR6 HB6 HD5
          as_aux_lemma =>
            go_wp2_with (first | (refine wpList_load_mid rfl 51 (.tmp 8) rfl D 0 rfl [.string ⟨op.toArray⟩, .int .i64 oq, .bool ol] _ HRX.out Tryz.underlying51 rfl Tryz.rateSz ?_) | (refine wpList_store_mid rfl 51 (.tmp 4) (.tmp 27) rfl R 0 #[.string ⟨op.toArray⟩, .int .i64 oq, .bool ol] rfl rfl HTH.out Tryz.rateSz (by simp [Value.oneCell']) ?_; generalize World.setCells w5 R 0 _ = W9 at HR9 HFF ⊢))
            refine bodyPost_ret (v := .tuple #[.agg #[.string ⟨op.toArray⟩, .int .i64 oq, .bool ol], .bool os, .int .i64 0]) ?_ rfl HFF.out
            exact results_cellTT (t := 4) (u := 5) (v := 6) (by rfl) _ _ _ Tryz.isAgg51 Tryz.sizeOf51 (by rfl) [.string ⟨op.toArray⟩, .int .i64 oq, .bool ol] rfl (fun j v hj => HR9.out.cell j hj)
end Go.Proofs.YtacekbbndamkmaaGreatDoor

set_option linter.unusedVariables false
set_option linter.unusedSimpArgs false
namespace Go.Proofs.YtacekbbndamkmaaGreatDoor
open Go.RowKit

/-- What is read so far, in memory: a box that says whether the first line is still to come, and a deck's box. -/
structure TkR (F D : Nat) (st : TkS) (W : World) : Prop where
  ok : st.bad = false
  lt : D < F
  init : st.begun = false → st.rs = []
  fst_ : Blk W F [.bool (!st.begun)] 4
  at_ : ∃ a n c, Blk W D [.int .i64 st.f, .int .i64 st.s, .int .i64 st.l, .int .i64 st.p, .slice a n c] 28 ∧ W.ownsRow D 51 3 (.slice a n c) st.rs.length ((st.rs.map Rate.cells).flatten)
theorem TkR.below {F D : Nat} {st : TkS} {W W' : World} (h : TkR F D st W) (hb : Below W.heap.size W W') : TkR F D st W' := by
  obtain ⟨h1, hl, hi, hf, a, n, c, h2, h3⟩ := h
  exact ⟨h1, hl, hi, hf.below hb, a, n, c, h2.below hb, own_keep h3 hb⟩
theorem full_mem (xs : List (List UInt8)) : decide (([] : List UInt8) ∈ xs) = !fullW xs := by
  unfold fullW
  by_cases h : ([] : List UInt8) ∈ xs
  · rw [decide_eq_true h]
    cases hf : (xs.all fun x => !x.isEmpty) with
    | false => rfl
    | true =>
      have := List.all_eq_true.1 hf _ h
      cases this
  · rw [decide_eq_false h]
    have : (xs.all fun x => !x.isEmpty) = true := by
      rw [List.all_eq_true]
      intro x hx
      cases x with
      | nil => exact absurd hx h
      | cons y r => rfl
    rw [this]; rfl
def okK (n1 n2 n3 n4 : Bool) (k : Nat) : Bool := (decide (k < 1) || n1) && ((decide (k < 2) || n2) && ((decide (k < 3) || n3) && ((decide (k < 4) || n4) && true)))
theorem okF0 : ∀ n1 n2 n3 n4 : Bool, false = okK n1 n2 n3 n4 0 → false = okK n1 n2 n3 n4 1 := by decide
theorem okT0 : ∀ n1 n2 n3 n4 : Bool, true = okK n1 n2 n3 n4 0 → n1 = okK n1 n2 n3 n4 1 := by decide
theorem okF1 : ∀ n1 n2 n3 n4 : Bool, false = okK n1 n2 n3 n4 1 → false = okK n1 n2 n3 n4 2 := by decide
theorem okT1 : ∀ n1 n2 n3 n4 : Bool, true = okK n1 n2 n3 n4 1 → n2 = okK n1 n2 n3 n4 2 := by decide
theorem okF2 : ∀ n1 n2 n3 n4 : Bool, false = okK n1 n2 n3 n4 2 → false = okK n1 n2 n3 n4 3 := by decide
theorem okT2 : ∀ n1 n2 n3 n4 : Bool, true = okK n1 n2 n3 n4 2 → n3 = okK n1 n2 n3 n4 3 := by decide
theorem okF3 : ∀ n1 n2 n3 n4 : Bool, false = okK n1 n2 n3 n4 3 → false = okK n1 n2 n3 n4 4 := by decide
theorem okT3 : ∀ n1 n2 n3 n4 : Bool, true = okK n1 n2 n3 n4 3 → n4 = okK n1 n2 n3 n4 4 := by decide
theorem list5 {α : Type} {xs : List α} (h : xs.length = 5) : ∃ a b c d e, xs = [a, b, c, d, e] := by
  match xs, h with
  | [a, b, c, d, e], _ => exact ⟨a, b, c, d, e, rfl⟩
theorem contains_big {w : World} {base : Nat} {v : Value} {n : Nat} {out : List (List UInt8)} (h : w.ownsRow base 9 1 v n (out.map encS)) (hn : n ≤ 1000000) (s : List UInt8) :
    Calls Tryz.prog 79 #[v, .string ⟨s.toArray⟩] w fun e w' => e = .returned (.bool (decide (s ∈ out))) ∧ w' = w := by
  have hl : out.length = n := by have := h.1; simpa using this
  rcases h.2 with ⟨rfl, h0⟩ | ⟨g, cap, cur, rfl, _⟩
  · have : out = [] := List.eq_nil_of_length_eq_zero (by omega)
    subst this h0
    refine (Tryz.slices_hasS_empty none 0 _ w).mono ?_
    rintro e w' ⟨rfl, rfl⟩
    exact ⟨by simp, rfl⟩
  · refine (Tryz.slices_hasS g 0 n cap (out.map fun x => ⟨x.toArray⟩) ⟨s.toArray⟩ w (by simp; omega) (by omega) (fun j hj => ?_)).mono ?_
    · have hj' : j < out.length := by simpa using hj
      rw [Nat.zero_add, h.cellAt j (by omega)]
      simp [encS, hj']
    · rintro e w' ⟨rfl, rfl⟩
      refine ⟨?_, rfl⟩
      rw [List.take_of_length_le (by simp; omega)]
      congr 2
      rw [Bool.eq_iff_iff, Lib.containsS_iff, decide_eq_true_eq]
      simp
theorem bd_rtr (e : Operand → Value) (o : Oper) (w : World) (p0 : ByteArray) (b2 : Bool) (ho : o.op = .build 51 #[(0, .tmp 63), (2, .tmp 67)]) (h0 : e (.tmp 63) = .string p0) (h2 : e (.tmp 67) = .bool b2) :
   (execOp e o).run Tryz.prog w = .ok (.value (.agg #[.string p0, .int .i64 0, .bool b2])) w := by
  unfold execOp
  rw [ho]
  simp only [List.map_toArray, List.map_cons, List.map_nil, h0, h2]
  kernel_rfl
set_option maxRecDepth 100000 in
set_option maxHeartbeats 8000000 in
theorem takeR_any (S F D : Nat) (st : TkS) (m : Nat) (line : List UInt8) (W : World) (hR : TkR F D st W) (hQ : TkQ st m) (hm : m + line.length ≤ 100000) (hL : LibsW S W) (hSD : S ≤ D) : Calls Tryz.prog 77 #[.string ⟨line.toArray⟩, .pointer (some ⟨F, 0, none⟩), .pointer (some ⟨D, 0, none⟩)] W fun e W' => e = .returned (.bool (takeS st line).2) ∧ ((takeS st line).2 = true → TkR F D (takeS st line).1 W') ∧ Below D W W' := by
  obtain ⟨i1, hi1, hy0, hy1, hy2⟩ := info_parts Tryz.infoRate
  obtain ⟨hbad, hDF, hini, hF, ra, rn, rc, hX, hO⟩ := hR
  have HF := Lib.hid hF
  have HX := Lib.hid hX
  have HO := Lib.hid hO
  have hDw := hX.lt
  have hFw := hF.lt
  have hvF : (Value.slice ra rn rc).ownBlock ≠ some F := own_blk (e := 51) hO hF (by decide)
  have hvD : (Value.slice ra rn rc).ownBlock ≠ some D := own_blk (e := 51) hO hX (by decide)
  have HWD := Lib.hid (splitBl_any line (by omega) S W hL)
  have h1w := words_head line
  have hxl : ∀ i, ((wordsL line).getD i []).length ≤ 100000 := fun i => Nat.le_trans (wordsL_le line i) (by omega)
  have HXL := Lib.hid hxl
  have hfew := wordsL_few line
  have hrs := hQ.few
  have HTAB := Lib.hid hL.tab
  have hTS : takeS st line = takeX st (wordsL line) := by unfold takeS; rw [if_neg (by rw [hbad]; decide)]
  rw [hTS]
  have HBAD : Hid (∀ W', (takeX st (wordsL line)).2 = false → Below D W W' → (fun e W' => e = Ending.returned (.bool (takeX st (wordsL line)).2) ∧ ((takeX st (wordsL line)).2 = true → TkR F D (takeX st (wordsL line)).1 W') ∧ Below D W W') (.returned (.bool false)) W') := fun W' h1 h2 => ⟨by rw [h1], (fun h => by rw [h1] at h; cases h), h2⟩
  have HGOOD : Hid (∀ st2 W', takeX st (wordsL line) = (st2, true) → TkR F D st2 W' → Below D W W' → (fun e W' => e = Ending.returned (.bool (takeX st (wordsL line)).2) ∧ ((takeX st (wordsL line)).2 = true → TkR F D (takeX st (wordsL line)).1 W') ∧ Below D W W') (.returned (.bool true)) W') := fun st2 W' h1 h2 h3 => ⟨by rw [h1], (fun _ => by rw [h1]; exact h2), h3⟩
  generalize (fun e W' => e = Ending.returned (.bool (takeX st (wordsL line)).2) ∧ ((takeX st (wordsL line)).2 = true → TkR F D (takeX st (wordsL line)).1 W') ∧ Below D W W') = PP at HBAD HGOOD ⊢
  have HTX : Hid (takeX st (wordsL line) = if fullW (wordsL line) = false then (badT, false)
    else if st.begun = false then (if headB (wordsL line) = true then (⟨numZ ((wordsL line).getD 1 []), numZ ((wordsL line).getD 2 []), numZ ((wordsL line).getD 3 []), numZ ((wordsL line).getD 4 []), [], true, false⟩, true) else (badT, false))
    else if lineB (wordsL line) = true then (⟨st.f, st.s, st.l, st.p, st.rs ++ [rateX (wordsL line)], true, false⟩, true) else (badT, false)) := rfl
  generalize takeX st (wordsL line) = X at HTX HBAD HGOOD
  clear hX hO hF hxl hQ hL hTS hbad
  generalize wordsL line = xs at HWD h1w HXL hfew HTX
  obtain ⟨sf, ss, sl, sp, rs, bg, bd⟩ := st
  simp only at HF HX HO HTX hrs hini
  clear bd
  cases bg with
  | false =>
    simp only [Bool.not_false] at HF
    go_enter Tryz.func77, Tryz.ntmps77
    as_aux_lemma =>
      go_wp2_with fail
      refine HWD.out.mono ?_
      rintro e w1 ⟨rfl, hov, hb1⟩
      have HF1 := Lib.hid (HF.out.below hb1)
      have HX1 := Lib.hid (HX.out.below hb1)
      have HO1 := Lib.hid (own_keep HO.out hb1)
      have HV1 := Lib.hid hov
      have HB1 : Hid (Below D W w1) := hb1.mono (Nat.le_of_lt hDw)
      obtain ⟨g, hg⟩ : ∃ g, g = W.heap.size := ⟨_, rfl⟩
      have hFg : F ≠ g := by omega
      have hDg : g ≠ D := by omega
      have hgw : g < w1.heap.size := by rw [hg]; exact (hov.lt _ rfl).2
      rw [← hg] at HV1
      simp only [← hg]
      clear hov hb1 HWD HF HX HO hg
      have f0 := HF1.out.cell 0 rfl
      have ff := HF1.out.fr 0
      have HF2 := Lib.hid (HF1.out.put 0 (.bool false))
      have HX2 : Hid (Blk (w1.setCell ⟨F, 0, none⟩ (.bool false)) D [.int .i64 sf, .int .i64 ss, .int .i64 sl, .int .i64 sp, .slice ra rn rc] 28) := HX1.out.far (p := ⟨F, 0, none⟩) (by show F ≠ D; omega)
      have HO2 := Lib.hid (own_set (p := ⟨F, 0, none⟩) (u := .bool false) HO1.out hvF)
      have HV2 := Lib.hid (own_set (p := ⟨F, 0, none⟩) (u := .bool false) HV1.out (fun e => hFg (by injection e with e; exact e.symm)))
      have HB2 : Hid (Below D W (w1.setCell ⟨F, 0, none⟩ (.bool false))) := HB1.out.setCell (p := ⟨F, 0, none⟩) (Nat.le_of_lt hDF) _
      clear HF1 HX1 HO1 HV1 HB1
      as_aux_lemma =>
        go_upto_region 4 with (fail)
        clear f0 ff
        generalize w1.setCell ⟨F, 0, none⟩ (.bool false) = w2 at HF2 HX2 HO2 HV2 HB2 ⊢
        have HCT := Lib.hid (contains_big HV2.out (by omega) [])
        rw [full_mem] at HCT
        as_aux_lemma =>
          go_wp2_with fail
          refine HCT.out.mono ?_
          rintro e w3 ⟨rfl, hw3⟩
          replace hw3 := hw3.symm
          subst hw3
          clear HCT
          cases hf : fullW xs with
          | false =>
            have HE := Lib.hid (HBAD.out w2 (by rw [HTX.out]; exact congrArg Prod.snd (if_pos hf)) HB2.out)
            clear HBAD HGOOD HTX HF2 HX2 HO2 HV2
            as_aux_lemma =>
              go_wp2_with fail
              first | exact HE.out | (go_ret; exact HE.out)
          | true =>
            have HTX2 : Hid (X = if headB xs = true then (⟨numZ (xs.getD 1 []), numZ (xs.getD 2 []), numZ (xs.getD 3 []), numZ (xs.getD 4 []), [], true, false⟩, true) else (badT, false)) := by
              show _ = _
              rw [HTX.out, if_neg (by rw [hf]; decide)]
              rfl
            have HGL : Hid (g < w2.heap.size) := (HV2.out.lt g rfl).2
            have HCV : Hid (∀ i, i < xs.length → w2.cell? ⟨g, i, none⟩ = some (.string ⟨(xs.getD i []).toArray⟩)) := fun i hi => by
              rw [HV2.out.cellAt i (by omega)]
              simp [encS, List.getD_eq_getElem?_getD, hi]
            clear HTX hf HV2
            have HTX := HTX2
            clear HTX2
            have c0 := HCV.out 0 (by omega)
            by_cases hr : xs.getD 0 [] = wDeck
            case neg =>
              have HH : Hid (headB xs = false) := by show _ = _; unfold headB; rw [decide_eq_false hr]; rfl
              have h0b : (xs.getD 0 [] == [100, 101, 99, 107]) = false := beq_eq_false_iff_ne.2 hr
              clear HCV
              generalize xs.getD 0 [] = x at c0 h0b hr
              have HQN : Hid (Blk (w2.alloc (.cells #[.pointer (some ⟨D, 0, none⟩), .pointer (some ⟨D, 1, none⟩), .pointer (some ⟨D, 2, none⟩), .pointer (some ⟨D, 3, none⟩)] 114)) w2.heap.size [.pointer (some ⟨D, 0, none⟩), .pointer (some ⟨D, 1, none⟩), .pointer (some ⟨D, 2, none⟩), .pointer (some ⟨D, 3, none⟩)] 114) := Blk.new w2 _ _
              have hA : Below w2.heap.size w2 (w2.alloc (.cells #[.pointer (some ⟨D, 0, none⟩), .pointer (some ⟨D, 1, none⟩), .pointer (some ⟨D, 2, none⟩), .pointer (some ⟨D, 3, none⟩)] 114)) := ext_alloc (Below.refl _ _)
              have HFN := Lib.hid (HF2.out.below hA)
              have HXN := Lib.hid (HX2.out.below hA)
              have HON := Lib.hid (own_keep HO2.out hA)
              have HBN : Hid (Below D W (w2.alloc (.cells #[.pointer (some ⟨D, 0, none⟩), .pointer (some ⟨D, 1, none⟩), .pointer (some ⟨D, 2, none⟩), .pointer (some ⟨D, 3, none⟩)] 114))) := HB2.out.trans (hA.mono (Nat.le_of_lt HX2.out.lt))
              clear hA HF2 HX2 HO2 HB2
              as_aux_lemma =>
                go_wp2_with fail
                generalize (w2.alloc (.cells #[.pointer (some ⟨D, 0, none⟩), .pointer (some ⟨D, 1, none⟩), .pointer (some ⟨D, 2, none⟩), .pointer (some ⟨D, 3, none⟩)] 114)) = wq at HQN HFN HXN HON HBN ⊢
                obtain ⟨q, hq⟩ : ∃ q, q = w2.heap.size := ⟨_, rfl⟩
                rw [← hq] at HQN
                simp only [← hq]
                clear hq
                go_loopw [7, 33] (fun v7 v33 wr => v7 = .bool false ∧ wr = wq ∧ ∃ k : Nat, k ≤ 4 ∧ v33 = .int .i64 k) (fun _ it _ => 4 - (intOf it).toNat)
                case atStart => exact ⟨(by first | rfl | exact congrArg Value.bool hb5), rfl, 0, by omega, rfl⟩
                case round =>
                  obtain ⟨rfl, rfl, k, hk, rfl⟩ := hrel
                  by_cases hlt : k < 4
                  case neg =>
                    have hk4 : k = 4 := by omega
                    subst hk4
                    have HE := Lib.hid (HBAD.out _ (by rw [HTX.out, if_neg (by rw [HH.out]; decide)]) HBN.out)
                    clear HBAD HGOOD HTX
                    as_aux_lemma =>
                      go_wp2_with fail
                      first | exact HE.out | (go_ret; exact HE.out) | (go_ret2; exact HE.out)
                  obtain rfl | rfl | rfl | rfl : k = 0 ∨ k = 1 ∨ k = 2 ∨ k = 3 := by omega
                  · have q0 := HQN.out.cell 0 rfl
                    as_aux_lemma =>
                      go_wp2_with fail
                      go_roundw
                      case rel => exact ⟨(by first | rfl | trivial), (by first | rfl | trivial), 1, by omega, by go_num⟩
                      case measure => simp [intOf]
                  · have q0 := HQN.out.cell 1 rfl
                    as_aux_lemma =>
                      go_wp2_with fail
                      go_roundw
                      case rel => exact ⟨(by first | rfl | trivial), (by first | rfl | trivial), 2, by omega, by go_num⟩
                      case measure => simp [intOf]
                  · have q0 := HQN.out.cell 2 rfl
                    as_aux_lemma =>
                      go_wp2_with fail
                      go_roundw
                      case rel => exact ⟨(by first | rfl | trivial), (by first | rfl | trivial), 3, by omega, by go_num⟩
                      case measure => simp [intOf]
                  · have q0 := HQN.out.cell 3 rfl
                    as_aux_lemma =>
                      go_wp2_with fail
                      go_roundw
                      case rel => exact ⟨(by first | rfl | trivial), (by first | rfl | trivial), 4, by omega, by go_num⟩
                      case measure => simp [intOf]
            have d0 : w2.cell? ⟨g, 0, none⟩ = some (.string ⟨#[100, 101, 99, 107]⟩) := by rw [c0, hr]; rfl
            clear c0
            by_cases h5 : xs.length = 5
            case neg =>
              have HH : Hid (headB xs = false) := by show _ = _; unfold headB; rw [decide_eq_false h5, Bool.false_and, Bool.and_false]
              have h5i : ¬ (xs.length : Int) = 5 := by omega
              have hb5 : ((xs.length : Int) == 5) = false := beq_eq_false_iff_ne.2 h5i
              clear HCV
              have HQN : Hid (Blk (w2.alloc (.cells #[.pointer (some ⟨D, 0, none⟩), .pointer (some ⟨D, 1, none⟩), .pointer (some ⟨D, 2, none⟩), .pointer (some ⟨D, 3, none⟩)] 114)) w2.heap.size [.pointer (some ⟨D, 0, none⟩), .pointer (some ⟨D, 1, none⟩), .pointer (some ⟨D, 2, none⟩), .pointer (some ⟨D, 3, none⟩)] 114) := Blk.new w2 _ _
              have hA : Below w2.heap.size w2 (w2.alloc (.cells #[.pointer (some ⟨D, 0, none⟩), .pointer (some ⟨D, 1, none⟩), .pointer (some ⟨D, 2, none⟩), .pointer (some ⟨D, 3, none⟩)] 114)) := ext_alloc (Below.refl _ _)
              have HFN := Lib.hid (HF2.out.below hA)
              have HXN := Lib.hid (HX2.out.below hA)
              have HON := Lib.hid (own_keep HO2.out hA)
              have HBN : Hid (Below D W (w2.alloc (.cells #[.pointer (some ⟨D, 0, none⟩), .pointer (some ⟨D, 1, none⟩), .pointer (some ⟨D, 2, none⟩), .pointer (some ⟨D, 3, none⟩)] 114))) := HB2.out.trans (hA.mono (Nat.le_of_lt HX2.out.lt))
              clear hA HF2 HX2 HO2 HB2
              as_aux_lemma =>
                go_wp2_with fail
                generalize (w2.alloc (.cells #[.pointer (some ⟨D, 0, none⟩), .pointer (some ⟨D, 1, none⟩), .pointer (some ⟨D, 2, none⟩), .pointer (some ⟨D, 3, none⟩)] 114)) = wq at HQN HFN HXN HON HBN ⊢
                obtain ⟨q, hq⟩ : ∃ q, q = w2.heap.size := ⟨_, rfl⟩
                rw [← hq] at HQN
                simp only [← hq]
                clear hq
                go_loopw [7, 33] (fun v7 v33 wr => v7 = .bool false ∧ wr = wq ∧ ∃ k : Nat, k ≤ 4 ∧ v33 = .int .i64 k) (fun _ it _ => 4 - (intOf it).toNat)
                case atStart => exact ⟨(by first | rfl | exact congrArg Value.bool hb5), rfl, 0, by omega, rfl⟩
                case round =>
                  obtain ⟨rfl, rfl, k, hk, rfl⟩ := hrel
                  by_cases hlt : k < 4
                  case neg =>
                    have hk4 : k = 4 := by omega
                    subst hk4
                    have HE := Lib.hid (HBAD.out _ (by rw [HTX.out, if_neg (by rw [HH.out]; decide)]) HBN.out)
                    clear HBAD HGOOD HTX
                    as_aux_lemma =>
                      go_wp2_with fail
                      first | exact HE.out | (go_ret; exact HE.out) | (go_ret2; exact HE.out)
                  obtain rfl | rfl | rfl | rfl : k = 0 ∨ k = 1 ∨ k = 2 ∨ k = 3 := by omega
                  · have q0 := HQN.out.cell 0 rfl
                    as_aux_lemma =>
                      go_wp2_with fail
                      go_roundw
                      case rel => exact ⟨(by first | rfl | trivial), (by first | rfl | trivial), 1, by omega, by go_num⟩
                      case measure => simp [intOf]
                  · have q0 := HQN.out.cell 1 rfl
                    as_aux_lemma =>
                      go_wp2_with fail
                      go_roundw
                      case rel => exact ⟨(by first | rfl | trivial), (by first | rfl | trivial), 2, by omega, by go_num⟩
                      case measure => simp [intOf]
                  · have q0 := HQN.out.cell 2 rfl
                    as_aux_lemma =>
                      go_wp2_with fail
                      go_roundw
                      case rel => exact ⟨(by first | rfl | trivial), (by first | rfl | trivial), 3, by omega, by go_num⟩
                      case measure => simp [intOf]
                  · have q0 := HQN.out.cell 3 rfl
                    as_aux_lemma =>
                      go_wp2_with fail
                      go_roundw
                      case rel => exact ⟨(by first | rfl | trivial), (by first | rfl | trivial), 4, by omega, by go_num⟩
                      case measure => simp [intOf]
            have HH : Hid (headB xs = allNum (xs.drop 1)) := by
              show _ = _
              unfold headB
              rw [decide_eq_true hr, decide_eq_true h5]
              rfl
            have hrs0 : rs = [] := by first | exact hini rfl | exact hini trivial
            subst hrs0
            obtain ⟨x0, x1, x2, x3, x4, rfl⟩ := list5 h5
            have HC2 : Hid (w2.cell? ⟨g, 1, none⟩ = some (.string ⟨x1.toArray⟩) ∧ w2.cell? ⟨g, 2, none⟩ = some (.string ⟨x2.toArray⟩) ∧ w2.cell? ⟨g, 3, none⟩ = some (.string ⟨x3.toArray⟩) ∧ w2.cell? ⟨g, 4, none⟩ = some (.string ⟨x4.toArray⟩)) := ⟨HCV.out 1 (by omega), HCV.out 2 (by omega), HCV.out 3 (by omega), HCV.out 4 (by omega)⟩
            have HN0 := Lib.hid (fun (V : World) (hV : Below D W V) => int12_any x1 V (by have : x1.length ≤ 100000 := HXL.out 1; omega) S (tab_below HTAB.out hV hSD) (Nat.le_trans hSD (Nat.le_trans (Nat.le_of_lt hDw) hV.size)))
            have HN1 := Lib.hid (fun (V : World) (hV : Below D W V) => int12_any x2 V (by have : x2.length ≤ 100000 := HXL.out 2; omega) S (tab_below HTAB.out hV hSD) (Nat.le_trans hSD (Nat.le_trans (Nat.le_of_lt hDw) hV.size)))
            have HN2 := Lib.hid (fun (V : World) (hV : Below D W V) => int12_any x3 V (by have : x3.length ≤ 100000 := HXL.out 3; omega) S (tab_below HTAB.out hV hSD) (Nat.le_trans hSD (Nat.le_trans (Nat.le_of_lt hDw) hV.size)))
            have HN3 := Lib.hid (fun (V : World) (hV : Below D W V) => int12_any x4 V (by have : x4.length ≤ 100000 := HXL.out 4; omega) S (tab_below HTAB.out hV hSD) (Nat.le_trans hSD (Nat.le_trans (Nat.le_of_lt hDw) hV.size)))
            have HQN : Hid (Blk (w2.alloc (.cells #[.pointer (some ⟨D, 0, none⟩), .pointer (some ⟨D, 1, none⟩), .pointer (some ⟨D, 2, none⟩), .pointer (some ⟨D, 3, none⟩)] 114)) w2.heap.size [.pointer (some ⟨D, 0, none⟩), .pointer (some ⟨D, 1, none⟩), .pointer (some ⟨D, 2, none⟩), .pointer (some ⟨D, 3, none⟩)] 114) := Blk.new w2 _ _
            have hA : Below w2.heap.size w2 (w2.alloc (.cells #[.pointer (some ⟨D, 0, none⟩), .pointer (some ⟨D, 1, none⟩), .pointer (some ⟨D, 2, none⟩), .pointer (some ⟨D, 3, none⟩)] 114)) := ext_alloc (Below.refl _ _)
            have HFN := Lib.hid (HF2.out.below hA)
            have HXN := Lib.hid (HX2.out.below hA)
            have HON := Lib.hid (own_keep HO2.out hA)
            have HBN : Hid (Below D W (w2.alloc (.cells #[.pointer (some ⟨D, 0, none⟩), .pointer (some ⟨D, 1, none⟩), .pointer (some ⟨D, 2, none⟩), .pointer (some ⟨D, 3, none⟩)] 114))) := HB2.out.trans (hA.mono (Nat.le_of_lt HX2.out.lt))
            have HCN : Hid ((w2.alloc (.cells #[.pointer (some ⟨D, 0, none⟩), .pointer (some ⟨D, 1, none⟩), .pointer (some ⟨D, 2, none⟩), .pointer (some ⟨D, 3, none⟩)] 114)).cell? ⟨g, 1, none⟩ = some (.string ⟨x1.toArray⟩) ∧ (w2.alloc (.cells #[.pointer (some ⟨D, 0, none⟩), .pointer (some ⟨D, 1, none⟩), .pointer (some ⟨D, 2, none⟩), .pointer (some ⟨D, 3, none⟩)] 114)).cell? ⟨g, 2, none⟩ = some (.string ⟨x2.toArray⟩) ∧ (w2.alloc (.cells #[.pointer (some ⟨D, 0, none⟩), .pointer (some ⟨D, 1, none⟩), .pointer (some ⟨D, 2, none⟩), .pointer (some ⟨D, 3, none⟩)] 114)).cell? ⟨g, 3, none⟩ = some (.string ⟨x3.toArray⟩) ∧ (w2.alloc (.cells #[.pointer (some ⟨D, 0, none⟩), .pointer (some ⟨D, 1, none⟩), .pointer (some ⟨D, 2, none⟩), .pointer (some ⟨D, 3, none⟩)] 114)).cell? ⟨g, 4, none⟩ = some (.string ⟨x4.toArray⟩)) := ⟨(hA.cell (p := ⟨g, 1, none⟩) HGL.out).trans HC2.out.1, (hA.cell (p := ⟨g, 2, none⟩) HGL.out).trans HC2.out.2.1, (hA.cell (p := ⟨g, 3, none⟩) HGL.out).trans HC2.out.2.2.1, (hA.cell (p := ⟨g, 4, none⟩) HGL.out).trans HC2.out.2.2.2⟩
            have hDw2 := HX2.out.lt
            have hgw2 : g < w2.heap.size := HGL.out
            have hTT : X = if okK (numOk x1) (numOk x2) (numOk x3) (numOk x4) 4 = true then (⟨numZ x1, numZ x2, numZ x3, numZ x4, [], true, false⟩, true) else (badT, false) := by
              rw [HTX.out, HH.out]
              rfl
            have HTT := Lib.hid hTT
            clear hA HF2 HX2 HO2 HB2 HC2 HCV HXL HH hTT HTX hr
            as_aux_lemma =>
              go_wp2_with fail
              generalize (w2.alloc (.cells #[.pointer (some ⟨D, 0, none⟩), .pointer (some ⟨D, 1, none⟩), .pointer (some ⟨D, 2, none⟩), .pointer (some ⟨D, 3, none⟩)] 114)) = wq at HQN HFN HXN HON HBN HCN ⊢
              obtain ⟨q, hq⟩ : ∃ q, q = w2.heap.size := ⟨_, rfl⟩
              rw [← hq] at HQN
              simp only [← hq]
              rw [← hq] at hDw2 hgw2
              have hgq := hgw2
              clear hq
              go_loopw [7, 33] (fun v7 v33 wr => ∃ (k : Nat) (b : Bool) (a0 a1 a2 a3 : Int), k ≤ 4 ∧ v33 = .int .i64 k ∧ v7 = .bool b ∧ Hid (b = okK (numOk x1) (numOk x2) (numOk x3) (numOk x4) k) ∧ Hid (b = true → (0 < k → a0 = numZ x1) ∧ (1 < k → a1 = numZ x2) ∧ (2 < k → a2 = numZ x3) ∧ (3 < k → a3 = numZ x4)) ∧ Hid (Blk wr D [.int .i64 a0, .int .i64 a1, .int .i64 a2, .int .i64 a3, .slice ra rn rc] 28) ∧ Hid (Blk wr q [.pointer (some ⟨D, 0, none⟩), .pointer (some ⟨D, 1, none⟩), .pointer (some ⟨D, 2, none⟩), .pointer (some ⟨D, 3, none⟩)] 114) ∧ Hid (Blk wr F [.bool false] 4) ∧ Hid (wr.ownsRow D 51 3 (.slice ra rn rc) 0 []) ∧ Hid (Below D W wr) ∧ Hid (wr.cell? ⟨g, 1, none⟩ = some (.string ⟨x1.toArray⟩) ∧ wr.cell? ⟨g, 2, none⟩ = some (.string ⟨x2.toArray⟩) ∧ wr.cell? ⟨g, 3, none⟩ = some (.string ⟨x3.toArray⟩) ∧ wr.cell? ⟨g, 4, none⟩ = some (.string ⟨x4.toArray⟩))) (fun _ it _ => 4 - (intOf it).toNat)
              case atStart => exact ⟨0, true, sf, ss, sl, sp, by omega, rfl, (by first | rfl | trivial), rfl, (fun _ => ⟨(fun h => by omega), (fun h => by omega), (fun h => by omega), (fun h => by omega)⟩), HXN.out, HQN.out, HFN.out, HON.out, HBN.out, HCN.out⟩
              case round =>
                obtain ⟨k, b, a0, a1, a2, a3, hk, rfl, rfl, HOK, HV, HX, HQ, HF, HO, HB, HC⟩ := hrel
                clear HXN HQN HFN HON HBN HCN
                by_cases hlt : k < 4
                case neg =>
                  have hk4 : k = 4 := by omega
                  subst hk4
                  cases b with
                  | false =>
                    have HE := Lib.hid (HBAD.out wr (by rw [HTT.out, ← HOK.out]; rfl) HB.out)
                    clear HBAD HGOOD HTT HV HOK HX HQ HF HO HB HC
                    as_aux_lemma =>
                      go_wp2_with fail
                      first | exact HE.out | (go_ret; exact HE.out) | (go_ret2; exact HE.out)
                  | true =>
                    obtain ⟨e0, e1, e2, e3⟩ := HV.out rfl
                    obtain rfl := e0 (by omega)
                    obtain rfl := e1 (by omega)
                    obtain rfl := e2 (by omega)
                    obtain rfl := e3 (by omega)
                    have HE := Lib.hid (HGOOD.out ⟨numZ x1, numZ x2, numZ x3, numZ x4, [], true, false⟩ wr (by rw [HTT.out, ← HOK.out]; rfl) ⟨rfl, hDF, (fun h => by cases h), HF.out, ra, rn, rc, HX.out, HO.out⟩ HB.out)
                    clear HBAD HGOOD HTT HV HOK HX HQ HF HO HB HC e0 e1 e2 e3
                    as_aux_lemma =>
                      go_wp2_with fail
                      first | exact HE.out | (go_ret; exact HE.out) | (go_ret2; exact HE.out)
                obtain rfl | rfl | rfl | rfl : k = 0 ∨ k = 1 ∨ k = 2 ∨ k = 3 := by omega
                · have q0 := HQ.out.cell 0 rfl
                  cases b with
                  | false =>
                    as_aux_lemma =>
                      go_wp2_with fail
                      go_roundw
                      case rel => exact ⟨1, false, a0, a1, a2, a3, by omega, by go_num, (by first | rfl | trivial), okF0 _ _ _ _ HOK.out, (fun h => by cases h), HX.out, HQ.out, HF.out, HO.out, HB.out, HC.out⟩
                      case measure => simp [intOf]
                  | true =>
                    have HVV := Lib.hid (HV.out rfl)
                    have HNC := Lib.hid (HN0.out wr HB.out)
                    obtain ⟨k1, k2, k3, k4⟩ := HC.out
                    as_aux_lemma =>
                      go_wp2_with fail
                      refine HNC.out.mono ?_
                      rintro e w4 ⟨z, rfl, hz, hb4⟩
                      have HX4 := Lib.hid (HX.out.below hb4)
                      have HC4 : Hid ((w4.setCell ⟨D, 0, none⟩ (.int .i64 z)).cell? ⟨g, 1, none⟩ = some (.string ⟨x1.toArray⟩) ∧ (w4.setCell ⟨D, 0, none⟩ (.int .i64 z)).cell? ⟨g, 2, none⟩ = some (.string ⟨x2.toArray⟩) ∧ (w4.setCell ⟨D, 0, none⟩ (.int .i64 z)).cell? ⟨g, 3, none⟩ = some (.string ⟨x3.toArray⟩) ∧ (w4.setCell ⟨D, 0, none⟩ (.int .i64 z)).cell? ⟨g, 4, none⟩ = some (.string ⟨x4.toArray⟩)) := by
                        have hgl : g < wr.heap.size := Nat.lt_trans hgq HQ.out.lt
                        have hc : ∀ i, (w4.setCell ⟨D, 0, none⟩ (.int .i64 z)).cell? ⟨g, i, none⟩ = wr.cell? ⟨g, i, none⟩ := fun i => (cell_of_block (Below.heap_setCell _ _ _ _ hDg)).trans (hb4.cell (p := ⟨g, i, none⟩) hgl)
                        exact ⟨(hc 1).trans k1, (hc 2).trans k2, (hc 3).trans k3, (hc 4).trans k4⟩
                      have HQ4 : Hid (Blk (w4.setCell ⟨D, 0, none⟩ (.int .i64 z)) q [.pointer (some ⟨D, 0, none⟩), .pointer (some ⟨D, 1, none⟩), .pointer (some ⟨D, 2, none⟩), .pointer (some ⟨D, 3, none⟩)] 114) := (HQ.out.below hb4).far (p := ⟨D, 0, none⟩) (by show D ≠ q; omega)
                      have HF4 : Hid (Blk (w4.setCell ⟨D, 0, none⟩ (.int .i64 z)) F [.bool false] 4) := (HF.out.below hb4).far (p := ⟨D, 0, none⟩) (by show D ≠ F; omega)
                      have HXz : Hid (Blk (w4.setCell ⟨D, 0, none⟩ (.int .i64 z)) D [.int .i64 z, .int .i64 a1, .int .i64 a2, .int .i64 a3, .slice ra rn rc] 28) := HX4.out.put 0 (.int .i64 z)
                      have HO4 := Lib.hid (own_set (p := ⟨D, 0, none⟩) (u := .int .i64 z) (own_keep HO.out hb4) hvD)
                      have HB4 : Hid (Below D W (w4.setCell ⟨D, 0, none⟩ (.int .i64 z))) := (HB.out.trans (hb4.mono (Nat.le_of_lt HX.out.lt))).setCell (p := ⟨D, 0, none⟩) (Nat.le_refl D) _
                      have p1 := HX4.out.cell 0 rfl
                      have pf := HX4.out.fr 0
                      have hok := Lib.hid (okT0 _ _ _ _ HOK.out)
                      have HZ := Lib.hid hz
                      clear hb4 HNC k1 k2 k3 k4 q0 hz
                      as_aux_lemma =>
                        go_wp2_with fail
                        go_roundw
                        case rel => exact ⟨1, numOk x1, z, a1, a2, a3, by omega, by go_num, (by first | rfl | trivial), hok.out, (fun h => ⟨(fun _ => HZ.out h), (fun h9 => by omega), (fun h9 => by omega), (fun h9 => by omega)⟩), HXz.out, HQ4.out, HF4.out, HO4.out, HB4.out, HC4.out⟩
                        case measure => first | exact (by decide : (4 - 1 : Nat) < 4 - 0) | (simp [intOf])
                · have q0 := HQ.out.cell 1 rfl
                  cases b with
                  | false =>
                    as_aux_lemma =>
                      go_wp2_with fail
                      go_roundw
                      case rel => exact ⟨2, false, a0, a1, a2, a3, by omega, by go_num, (by first | rfl | trivial), okF1 _ _ _ _ HOK.out, (fun h => by cases h), HX.out, HQ.out, HF.out, HO.out, HB.out, HC.out⟩
                      case measure => simp [intOf]
                  | true =>
                    have HVV := Lib.hid (HV.out rfl)
                    have HNC := Lib.hid (HN1.out wr HB.out)
                    obtain ⟨k1, k2, k3, k4⟩ := HC.out
                    as_aux_lemma =>
                      go_wp2_with fail
                      refine HNC.out.mono ?_
                      rintro e w4 ⟨z, rfl, hz, hb4⟩
                      have HX4 := Lib.hid (HX.out.below hb4)
                      have HC4 : Hid ((w4.setCell ⟨D, 1, none⟩ (.int .i64 z)).cell? ⟨g, 1, none⟩ = some (.string ⟨x1.toArray⟩) ∧ (w4.setCell ⟨D, 1, none⟩ (.int .i64 z)).cell? ⟨g, 2, none⟩ = some (.string ⟨x2.toArray⟩) ∧ (w4.setCell ⟨D, 1, none⟩ (.int .i64 z)).cell? ⟨g, 3, none⟩ = some (.string ⟨x3.toArray⟩) ∧ (w4.setCell ⟨D, 1, none⟩ (.int .i64 z)).cell? ⟨g, 4, none⟩ = some (.string ⟨x4.toArray⟩)) := by
                        have hgl : g < wr.heap.size := Nat.lt_trans hgq HQ.out.lt
                        have hc : ∀ i, (w4.setCell ⟨D, 1, none⟩ (.int .i64 z)).cell? ⟨g, i, none⟩ = wr.cell? ⟨g, i, none⟩ := fun i => (cell_of_block (Below.heap_setCell _ _ _ _ hDg)).trans (hb4.cell (p := ⟨g, i, none⟩) hgl)
                        exact ⟨(hc 1).trans k1, (hc 2).trans k2, (hc 3).trans k3, (hc 4).trans k4⟩
                      have HQ4 : Hid (Blk (w4.setCell ⟨D, 1, none⟩ (.int .i64 z)) q [.pointer (some ⟨D, 0, none⟩), .pointer (some ⟨D, 1, none⟩), .pointer (some ⟨D, 2, none⟩), .pointer (some ⟨D, 3, none⟩)] 114) := (HQ.out.below hb4).far (p := ⟨D, 1, none⟩) (by show D ≠ q; omega)
                      have HF4 : Hid (Blk (w4.setCell ⟨D, 1, none⟩ (.int .i64 z)) F [.bool false] 4) := (HF.out.below hb4).far (p := ⟨D, 1, none⟩) (by show D ≠ F; omega)
                      have HXz : Hid (Blk (w4.setCell ⟨D, 1, none⟩ (.int .i64 z)) D [.int .i64 a0, .int .i64 z, .int .i64 a2, .int .i64 a3, .slice ra rn rc] 28) := HX4.out.put 1 (.int .i64 z)
                      have HO4 := Lib.hid (own_set (p := ⟨D, 1, none⟩) (u := .int .i64 z) (own_keep HO.out hb4) hvD)
                      have HB4 : Hid (Below D W (w4.setCell ⟨D, 1, none⟩ (.int .i64 z))) := (HB.out.trans (hb4.mono (Nat.le_of_lt HX.out.lt))).setCell (p := ⟨D, 1, none⟩) (Nat.le_refl D) _
                      have p1 := HX4.out.cell 1 rfl
                      have pf := HX4.out.fr 1
                      have hok := Lib.hid (okT1 _ _ _ _ HOK.out)
                      have HZ := Lib.hid hz
                      clear hb4 HNC k1 k2 k3 k4 q0 hz
                      as_aux_lemma =>
                        go_wp2_with fail
                        go_roundw
                        case rel => exact ⟨2, numOk x2, a0, z, a2, a3, by omega, by go_num, (by first | rfl | trivial), hok.out, (fun h => ⟨(fun _ => HVV.out.1 (by omega)), (fun _ => HZ.out h), (fun h9 => by omega), (fun h9 => by omega)⟩), HXz.out, HQ4.out, HF4.out, HO4.out, HB4.out, HC4.out⟩
                        case measure => first | exact (by decide : (4 - 2 : Nat) < 4 - 1) | (simp [intOf])
                · have q0 := HQ.out.cell 2 rfl
                  cases b with
                  | false =>
                    as_aux_lemma =>
                      go_wp2_with fail
                      go_roundw
                      case rel => exact ⟨3, false, a0, a1, a2, a3, by omega, by go_num, (by first | rfl | trivial), okF2 _ _ _ _ HOK.out, (fun h => by cases h), HX.out, HQ.out, HF.out, HO.out, HB.out, HC.out⟩
                      case measure => simp [intOf]
                  | true =>
                    have HVV := Lib.hid (HV.out rfl)
                    have HNC := Lib.hid (HN2.out wr HB.out)
                    obtain ⟨k1, k2, k3, k4⟩ := HC.out
                    as_aux_lemma =>
                      go_wp2_with fail
                      refine HNC.out.mono ?_
                      rintro e w4 ⟨z, rfl, hz, hb4⟩
                      have HX4 := Lib.hid (HX.out.below hb4)
                      have HC4 : Hid ((w4.setCell ⟨D, 2, none⟩ (.int .i64 z)).cell? ⟨g, 1, none⟩ = some (.string ⟨x1.toArray⟩) ∧ (w4.setCell ⟨D, 2, none⟩ (.int .i64 z)).cell? ⟨g, 2, none⟩ = some (.string ⟨x2.toArray⟩) ∧ (w4.setCell ⟨D, 2, none⟩ (.int .i64 z)).cell? ⟨g, 3, none⟩ = some (.string ⟨x3.toArray⟩) ∧ (w4.setCell ⟨D, 2, none⟩ (.int .i64 z)).cell? ⟨g, 4, none⟩ = some (.string ⟨x4.toArray⟩)) := by
                        have hgl : g < wr.heap.size := Nat.lt_trans hgq HQ.out.lt
                        have hc : ∀ i, (w4.setCell ⟨D, 2, none⟩ (.int .i64 z)).cell? ⟨g, i, none⟩ = wr.cell? ⟨g, i, none⟩ := fun i => (cell_of_block (Below.heap_setCell _ _ _ _ hDg)).trans (hb4.cell (p := ⟨g, i, none⟩) hgl)
                        exact ⟨(hc 1).trans k1, (hc 2).trans k2, (hc 3).trans k3, (hc 4).trans k4⟩
                      have HQ4 : Hid (Blk (w4.setCell ⟨D, 2, none⟩ (.int .i64 z)) q [.pointer (some ⟨D, 0, none⟩), .pointer (some ⟨D, 1, none⟩), .pointer (some ⟨D, 2, none⟩), .pointer (some ⟨D, 3, none⟩)] 114) := (HQ.out.below hb4).far (p := ⟨D, 2, none⟩) (by show D ≠ q; omega)
                      have HF4 : Hid (Blk (w4.setCell ⟨D, 2, none⟩ (.int .i64 z)) F [.bool false] 4) := (HF.out.below hb4).far (p := ⟨D, 2, none⟩) (by show D ≠ F; omega)
                      have HXz : Hid (Blk (w4.setCell ⟨D, 2, none⟩ (.int .i64 z)) D [.int .i64 a0, .int .i64 a1, .int .i64 z, .int .i64 a3, .slice ra rn rc] 28) := HX4.out.put 2 (.int .i64 z)
                      have HO4 := Lib.hid (own_set (p := ⟨D, 2, none⟩) (u := .int .i64 z) (own_keep HO.out hb4) hvD)
                      have HB4 : Hid (Below D W (w4.setCell ⟨D, 2, none⟩ (.int .i64 z))) := (HB.out.trans (hb4.mono (Nat.le_of_lt HX.out.lt))).setCell (p := ⟨D, 2, none⟩) (Nat.le_refl D) _
                      have p1 := HX4.out.cell 2 rfl
                      have pf := HX4.out.fr 2
                      have hok := Lib.hid (okT2 _ _ _ _ HOK.out)
                      have HZ := Lib.hid hz
                      clear hb4 HNC k1 k2 k3 k4 q0 hz
                      as_aux_lemma =>
                        go_wp2_with fail
                        go_roundw
                        case rel => exact ⟨3, numOk x3, a0, a1, z, a3, by omega, by go_num, (by first | rfl | trivial), hok.out, (fun h => ⟨(fun _ => HVV.out.1 (by omega)), (fun _ => HVV.out.2.1 (by omega)), (fun _ => HZ.out h), (fun h9 => by omega)⟩), HXz.out, HQ4.out, HF4.out, HO4.out, HB4.out, HC4.out⟩
                        case measure => first | exact (by decide : (4 - 3 : Nat) < 4 - 2) | (simp [intOf])
                · have q0 := HQ.out.cell 3 rfl
                  cases b with
                  | false =>
                    as_aux_lemma =>
                      go_wp2_with fail
                      go_roundw
                      case rel => exact ⟨4, false, a0, a1, a2, a3, by omega, by go_num, (by first | rfl | trivial), okF3 _ _ _ _ HOK.out, (fun h => by cases h), HX.out, HQ.out, HF.out, HO.out, HB.out, HC.out⟩
                      case measure => simp [intOf]
                  | true =>
                    have HVV := Lib.hid (HV.out rfl)
                    have HNC := Lib.hid (HN3.out wr HB.out)
                    obtain ⟨k1, k2, k3, k4⟩ := HC.out
                    as_aux_lemma =>
                      go_wp2_with fail
                      refine HNC.out.mono ?_
                      rintro e w4 ⟨z, rfl, hz, hb4⟩
                      have HX4 := Lib.hid (HX.out.below hb4)
                      have HC4 : Hid ((w4.setCell ⟨D, 3, none⟩ (.int .i64 z)).cell? ⟨g, 1, none⟩ = some (.string ⟨x1.toArray⟩) ∧ (w4.setCell ⟨D, 3, none⟩ (.int .i64 z)).cell? ⟨g, 2, none⟩ = some (.string ⟨x2.toArray⟩) ∧ (w4.setCell ⟨D, 3, none⟩ (.int .i64 z)).cell? ⟨g, 3, none⟩ = some (.string ⟨x3.toArray⟩) ∧ (w4.setCell ⟨D, 3, none⟩ (.int .i64 z)).cell? ⟨g, 4, none⟩ = some (.string ⟨x4.toArray⟩)) := by
                        have hgl : g < wr.heap.size := Nat.lt_trans hgq HQ.out.lt
                        have hc : ∀ i, (w4.setCell ⟨D, 3, none⟩ (.int .i64 z)).cell? ⟨g, i, none⟩ = wr.cell? ⟨g, i, none⟩ := fun i => (cell_of_block (Below.heap_setCell _ _ _ _ hDg)).trans (hb4.cell (p := ⟨g, i, none⟩) hgl)
                        exact ⟨(hc 1).trans k1, (hc 2).trans k2, (hc 3).trans k3, (hc 4).trans k4⟩
                      have HQ4 : Hid (Blk (w4.setCell ⟨D, 3, none⟩ (.int .i64 z)) q [.pointer (some ⟨D, 0, none⟩), .pointer (some ⟨D, 1, none⟩), .pointer (some ⟨D, 2, none⟩), .pointer (some ⟨D, 3, none⟩)] 114) := (HQ.out.below hb4).far (p := ⟨D, 3, none⟩) (by show D ≠ q; omega)
                      have HF4 : Hid (Blk (w4.setCell ⟨D, 3, none⟩ (.int .i64 z)) F [.bool false] 4) := (HF.out.below hb4).far (p := ⟨D, 3, none⟩) (by show D ≠ F; omega)
                      have HXz : Hid (Blk (w4.setCell ⟨D, 3, none⟩ (.int .i64 z)) D [.int .i64 a0, .int .i64 a1, .int .i64 a2, .int .i64 z, .slice ra rn rc] 28) := HX4.out.put 3 (.int .i64 z)
                      have HO4 := Lib.hid (own_set (p := ⟨D, 3, none⟩) (u := .int .i64 z) (own_keep HO.out hb4) hvD)
                      have HB4 : Hid (Below D W (w4.setCell ⟨D, 3, none⟩ (.int .i64 z))) := (HB.out.trans (hb4.mono (Nat.le_of_lt HX.out.lt))).setCell (p := ⟨D, 3, none⟩) (Nat.le_refl D) _
                      have p1 := HX4.out.cell 3 rfl
                      have pf := HX4.out.fr 3
                      have hok := Lib.hid (okT3 _ _ _ _ HOK.out)
                      have HZ := Lib.hid hz
                      clear hb4 HNC k1 k2 k3 k4 q0 hz
                      as_aux_lemma =>
                        go_wp2_with fail
                        go_roundw
                        case rel => exact ⟨4, numOk x4, a0, a1, a2, z, by omega, by go_num, (by first | rfl | trivial), hok.out, (fun h => ⟨(fun _ => HVV.out.1 (by omega)), (fun _ => HVV.out.2.1 (by omega)), (fun _ => HVV.out.2.2.1 (by omega)), (fun _ => HZ.out h)⟩), HXz.out, HQ4.out, HF4.out, HO4.out, HB4.out, HC4.out⟩
                        case measure => first | exact (by decide : (4 - 4 : Nat) < 4 - 3) | (simp [intOf])
  | true =>
    simp only [Bool.not_true] at HF
    go_enter Tryz.func77, Tryz.ntmps77
    as_aux_lemma =>
      go_wp2_with fail
      refine HWD.out.mono ?_
      rintro e w1 ⟨rfl, hov, hb1⟩
      have HF1 := Lib.hid (HF.out.below hb1)
      have HX1 := Lib.hid (HX.out.below hb1)
      have HO1 := Lib.hid (own_keep HO.out hb1)
      have HV1 := Lib.hid hov
      have HB1 : Hid (Below D W w1) := hb1.mono (Nat.le_of_lt hDw)
      obtain ⟨g, hg⟩ : ∃ g, g = W.heap.size := ⟨_, rfl⟩
      have hFg : F ≠ g := by omega
      have hDg : g ≠ D := by omega
      have hgw : g < w1.heap.size := by rw [hg]; exact (hov.lt _ rfl).2
      rw [← hg] at HV1
      simp only [← hg]
      clear hov hb1 HWD HF HX HO hg
      have f0 := HF1.out.cell 0 rfl
      have ff := HF1.out.fr 0
      have HF2 := Lib.hid (HF1.out.put 0 (.bool false))
      have HX2 : Hid (Blk (w1.setCell ⟨F, 0, none⟩ (.bool false)) D [.int .i64 sf, .int .i64 ss, .int .i64 sl, .int .i64 sp, .slice ra rn rc] 28) := HX1.out.far (p := ⟨F, 0, none⟩) (by show F ≠ D; omega)
      have HO2 := Lib.hid (own_set (p := ⟨F, 0, none⟩) (u := .bool false) HO1.out hvF)
      have HV2 := Lib.hid (own_set (p := ⟨F, 0, none⟩) (u := .bool false) HV1.out (fun e => hFg (by injection e with e; exact e.symm)))
      have HB2 : Hid (Below D W (w1.setCell ⟨F, 0, none⟩ (.bool false))) := HB1.out.setCell (p := ⟨F, 0, none⟩) (Nat.le_of_lt hDF) _
      clear HF1 HX1 HO1 HV1 HB1
      as_aux_lemma =>
        go_upto_region 4 with (fail)
        clear f0 ff
        generalize w1.setCell ⟨F, 0, none⟩ (.bool false) = w2 at HF2 HX2 HO2 HV2 HB2 ⊢
        have HCT := Lib.hid (contains_big HV2.out (by omega) [])
        rw [full_mem] at HCT
        as_aux_lemma =>
          go_wp2_with fail
          refine HCT.out.mono ?_
          rintro e w3 ⟨rfl, hw3⟩
          replace hw3 := hw3.symm
          subst hw3
          clear HCT
          cases hf : fullW xs with
          | false =>
            have HE := Lib.hid (HBAD.out w2 (by rw [HTX.out]; exact congrArg Prod.snd (if_pos hf)) HB2.out)
            clear HBAD HGOOD HTX HF2 HX2 HO2 HV2
            as_aux_lemma =>
              go_wp2_with fail
              first | exact HE.out | (go_ret; exact HE.out)
          | true =>
            have HTX2 : Hid (X = if lineB xs = true then (⟨sf, ss, sl, sp, rs ++ [rateX xs], true, false⟩, true) else (badT, false)) := by
              show _ = _
              rw [HTX.out, if_neg (by rw [hf]; decide)]
              exact if_neg (by decide)
            have HGL : Hid (g < w2.heap.size) := (HV2.out.lt g rfl).2
            have HCV : Hid (∀ i, i < xs.length → w2.cell? ⟨g, i, none⟩ = some (.string ⟨(xs.getD i []).toArray⟩)) := fun i hi => by
              rw [HV2.out.cellAt i (by omega)]
              simp [encS, List.getD_eq_getElem?_getD, hi]
            clear HTX hf HV2
            have HTX := HTX2
            clear HTX2
            have c0 := HCV.out 0 (by omega)
            by_cases hr : xs.getD 0 [] = wRate
            case neg =>
              have HH : Hid (lineB xs = false) := by show _ = _; unfold lineB; rw [decide_eq_false hr]; rfl
              have h0b : (xs.getD 0 [] == [114, 97, 116, 101]) = false := beq_eq_false_iff_ne.2 hr
              clear HCV
              generalize xs.getD 0 [] = x at c0 h0b hr
              have HE := Lib.hid (HBAD.out w2 (by rw [HTX.out]; rw [if_neg (by rw [HH.out]; decide)]) HB2.out)
              clear HBAD HGOOD HTX HF2 HX2 HO2
              as_aux_lemma =>
                go_wp2_with fail
                first | exact HE.out | (go_ret; exact HE.out)
            have d0 : w2.cell? ⟨g, 0, none⟩ = some (.string ⟨#[114, 97, 116, 101]⟩) := by rw [c0, hr]; rfl
            clear c0
            by_cases h3 : xs.length = 3
            case neg =>
              have HH : Hid (lineB xs = false) := by show _ = _; unfold lineB; rw [decide_eq_false h3, Bool.false_and, Bool.and_false]
              have h3i : ¬ (xs.length : Int) = 3 := by omega
              clear HCV
              have HE := Lib.hid (HBAD.out w2 (by rw [HTX.out]; rw [if_neg (by rw [HH.out]; decide)]) HB2.out)
              clear HBAD HGOOD HTX HF2 HX2 HO2
              as_aux_lemma =>
                go_wp2_with fail
                first | exact HE.out | (go_ret; exact HE.out)
            have c1 := HCV.out 1 (by omega)
            have c2 := HCV.out 2 (by omega)
            have HLB : Hid (lineB xs = (decide (xs.getD 2 [] = wClosed) || numOk (xs.getD 2 []))) := by show _ = _; unfold lineB; rw [decide_eq_true hr, decide_eq_true h3]; rfl
            have HRX : Hid (lineB xs = true → rateX xs = ⟨undashL (xs.getD 1 []), if xs.getD 2 [] = wClosed then 0 else if numOk (xs.getD 2 []) = true then numZ (xs.getD 2 []) else 0, decide (xs.getD 2 [] = wClosed)⟩) := fun h => by
              rw [HLB.out] at h
              unfold rateX
              by_cases h9 : xs.getD 2 [] = wClosed
              · rw [if_pos h9, if_pos h9, decide_eq_true h9]
              · rw [decide_eq_false h9, Bool.false_or] at h
                rw [if_neg h9, if_neg h9, decide_eq_false h9, if_pos h]
            have hx1l := HXL.out 1
            have hx2l := HXL.out 2
            have HNB := Lib.hid (fun (V : World) (hV : Below D W V) => int12_any (xs.getD 2 []) V (by have := HXL.out 2; omega) S (tab_below HTAB.out hV hSD) (Nat.le_trans hSD (Nat.le_trans (Nat.le_of_lt hDw) hV.size)))
            rw [h3]
            clear HCV HXL hfew h1w h3 hr
            generalize xs.getD 1 [] = x1 at c1 HRX hx1l
            generalize xs.getD 2 [] = x2 at c2 HLB HRX hx2l HNB
            generalize rateX xs = rx at HTX HRX
            generalize lineB xs = LB at HTX HLB HRX
            obtain ⟨CL, hCL⟩ : ∃ CL, (x2 == [99, 108, 111, 115, 101, 100]) = CL := ⟨_, rfl⟩
            have HSD : Hid (w2.drew.cell? ⟨g, 1, none⟩ = some (.string ⟨x1.toArray⟩) ∧ w2.drew.cell? ⟨g, 2, none⟩ = some (.string ⟨x2.toArray⟩)) := ⟨c1, c2⟩
            have HFD := Lib.hid (HF2.out.below (ext_drew (Below.refl _ _)))
            have HXD := Lib.hid (HX2.out.below (ext_drew (Below.refl _ _)))
            have HOD := Lib.hid (own_keep HO2.out (ext_drew (Below.refl _ _)))
            have HBD : Hid (Below D W w2.drew) := HB2.out.drew
            clear HF2 HX2 HO2 HB2 c1 c2
            as_aux_lemma =>
              go_upto_region 17 with (fail)
              clear d0
              refine region_lastI (S := fun W => W.cell? ⟨g, 1, none⟩ = some (.string ⟨x1.toArray⟩) ∧ W.cell? ⟨g, 2, none⟩ = some (.string ⟨x2.toArray⟩)) [(true, 0), (true, 1), (true, 2), (true, 3), (true, 4), (true, 5), (true, 6), (true, 7), (false, 8)] (by kernel_rfl) rfl rfl (by kernel_rfl) (by kernel_rfl) rfl (by kernel_rfl) HSD.out ?_
              have hgd : g < w2.drew.heap.size := HGL.out
              generalize w2.drew = wd at HSD HFD HXD HOD HBD hgd ⊢
              simp only [seqOps, List.dropLast, List.getD_cons_zero, List.getD_cons_succ]
              refine seqI_take (v := .slice (some ⟨g, 0, none⟩) 3 3) rfl (fun W hW => by go_simp) (fun _ _ _ h => h) ?_
              simp only [Act.put, List.setIfInBounds_toArray, List.set_cons_zero, List.set_cons_succ]
              refine seqI_take (v := .pointer (some ⟨g, 1, none⟩)) rfl (fun W hW => by go_simp) (fun _ _ _ h => h) ?_
              simp only [Act.put, List.setIfInBounds_toArray, List.set_cons_zero, List.set_cons_succ]
              refine seqI_take (v := .string ⟨x1.toArray⟩) rfl (fun W hW => by obtain ⟨m0, m1⟩ := hW; go_simp) (fun _ _ _ h => h) ?_
              simp only [Act.put, List.setIfInBounds_toArray, List.set_cons_zero, List.set_cons_succ]
              refine seqI_take (v := .slice (some ⟨g, 0, none⟩) 3 3) rfl (fun W hW => by go_simp) (fun _ _ _ h => h) ?_
              simp only [Act.put, List.setIfInBounds_toArray, List.set_cons_zero, List.set_cons_succ]
              refine seqI_take (v := .pointer (some ⟨g, 2, none⟩)) rfl (fun W hW => by go_simp) (fun _ _ _ h => h) ?_
              simp only [Act.put, List.setIfInBounds_toArray, List.set_cons_zero, List.set_cons_succ]
              refine seqI_take (v := .string ⟨x2.toArray⟩) rfl (fun W hW => by obtain ⟨m0, m1⟩ := hW; go_simp) (fun _ _ _ h => h) ?_
              simp only [Act.put, List.setIfInBounds_toArray, List.set_cons_zero, List.set_cons_succ]
              refine seqI_take (v := .bool CL) rfl (fun W hW => by go_simp) (fun _ _ _ h => h) ?_
              simp only [Act.put, List.setIfInBounds_toArray, List.set_cons_zero, List.set_cons_succ]
              refine seqI_take (v := .agg #[.string ⟨x1.toArray⟩, .int .i64 0, .bool CL]) rfl (fun W hW => by exact bd_rtr _ _ _ ⟨x1.toArray⟩ CL rfl rfl rfl) (fun _ _ _ h => h) ?_
              simp only [Act.put, List.setIfInBounds_toArray, List.set_cons_zero, List.set_cons_succ]
              have hA : Below wd.heap.size wd (wd.alloc (.cells #[.string ⟨#[]⟩, .int .i64 0, .bool false] 51)) := ext_alloc (Below.refl _ _)
              have HFA := Lib.hid (HFD.out.below hA)
              have HXA := Lib.hid (HXD.out.below hA)
              have HOA := Lib.hid (own_keep HOD.out hA)
              have HNA : Hid (Blk (wd.alloc (.cells #[.string ⟨#[]⟩, .int .i64 0, .bool false] 51)) wd.heap.size [.string ⟨#[]⟩, .int .i64 0, .bool false] 51) := Blk.new wd _ _
              have HBA : Hid (Below D W (wd.alloc (.cells #[.string ⟨#[]⟩, .int .i64 0, .bool false] 51))) := HBD.out.trans (hA.mono (Nat.le_of_lt HXD.out.lt))
              have hFd := HFD.out.lt
              have HSA : Hid ((wd.alloc (.cells #[.string ⟨#[]⟩, .int .i64 0, .bool false] 51)).cell? ⟨g, 1, none⟩ = some (.string ⟨x1.toArray⟩) ∧ (wd.alloc (.cells #[.string ⟨#[]⟩, .int .i64 0, .bool false] 51)).cell? ⟨g, 2, none⟩ = some (.string ⟨x2.toArray⟩)) := ⟨(hA.cell (p := ⟨g, 1, none⟩) hgd).trans HSD.out.1, (hA.cell (p := ⟨g, 2, none⟩) hgd).trans HSD.out.2⟩
              refine seqI_do rfl (wp_val (v := .pointer (some ⟨wd.heap.size, 0, none⟩)) (w' := wd.alloc (.cells #[.string ⟨#[]⟩, .int .i64 0, .bool false] 51)) (by go_simp) ⟨HSA.out, ?_⟩)
              simp only [Act.put, List.setIfInBounds_toArray, List.set_cons_zero, List.set_cons_succ]
              obtain ⟨P, hP⟩ : ∃ P, P = wd.heap.size := ⟨_, rfl⟩
              rw [← hP] at HNA
              simp only [← hP]
              have hvP : (Value.slice ra rn rc).ownBlock ≠ some P := by rw [hP]; exact own_before HOD.out (Nat.le_refl _)
              rw [← hP] at hFd hgd
              have hgP : g ≠ P := by omega
              clear hA HSD HFD HXD HOD HBD
              generalize wd.alloc (.cells #[.string ⟨#[]⟩, .int .i64 0, .bool false] 51) = wA at HSA HFA HXA HOA HNA HBA ⊢
              clear hP
              clear wd
              have HTH : Hid (wA.there P 0 3) := HNA.out.th 3 (by simp)
              have HSB : Hid ((wA.setCells P 0 [.string ⟨x1.toArray⟩, .int .i64 0, .bool CL]).cell? ⟨g, 1, none⟩ = some (.string ⟨x1.toArray⟩) ∧ (wA.setCells P 0 [.string ⟨x1.toArray⟩, .int .i64 0, .bool CL]).cell? ⟨g, 2, none⟩ = some (.string ⟨x2.toArray⟩)) := by
                have hgA : g < wA.heap.size := Nat.lt_trans hgd HNA.out.lt
                have hb : (wA.setCells P 0 [.string ⟨x1.toArray⟩, .int .i64 0, .bool CL]).heap[g]? = wA.heap[g]? := (setCells_gb P [.string ⟨x1.toArray⟩, .int .i64 0, .bool CL] 0).block g hgA (fun e => hgP (by injection e))
                exact ⟨(cell_of_block hb).trans HSA.out.1, (cell_of_block hb).trans HSA.out.2⟩
              have HFB : Hid (Blk (wA.setCells P 0 [.string ⟨x1.toArray⟩, .int .i64 0, .bool CL]) F [.bool false] 4) := HFA.out.grown (setCells_gb P [.string ⟨x1.toArray⟩, .int .i64 0, .bool CL] 0) (fun e => (by omega : P ≠ F) (by injection e))
              have HXB : Hid (Blk (wA.setCells P 0 [.string ⟨x1.toArray⟩, .int .i64 0, .bool CL]) D [.int .i64 sf, .int .i64 ss, .int .i64 sl, .int .i64 sp, .slice ra rn rc] 28) := HXA.out.grown (setCells_gb P [.string ⟨x1.toArray⟩, .int .i64 0, .bool CL] 0) (fun e => (by omega : P ≠ D) (by injection e))
              have HOB := Lib.hid (own_gb HOA.out (setCells_gb P [.string ⟨x1.toArray⟩, .int .i64 0, .bool CL] 0) (fun b e h => hvP (by rw [e]; exact h.symm)))
              have HPB : Hid (Blk (wA.setCells P 0 [.string ⟨x1.toArray⟩, .int .i64 0, .bool CL]) P [.string ⟨x1.toArray⟩, .int .i64 0, .bool CL] 51) := HNA.out.put3 _ _ _
              have HBB : Hid (Below D W (wA.setCells P 0 [.string ⟨x1.toArray⟩, .int .i64 0, .bool CL])) := HBA.out.trans (below_setCells (by omega) _ _ _)
              refine seqI_nil (Or.inl ?_)
              refine wp_store_mid 51 (.tmp 10) (.tmp 68) rfl P 0 #[.string ⟨x1.toArray⟩, .int .i64 0, .bool CL] rfl rfl HTH.out Tryz.rateSz (by simp [Value.oneCell']) ?_
              generalize wA.setCells P 0 [.string ⟨x1.toArray⟩, .int .i64 0, .bool CL] = wB at HSB HFB HXB HOB HPB HBB ⊢
              clear HSA HFA HXA HOA HNA HBA HTH
              have HCB : Hid (wB.cell? ⟨g, 2, none⟩ = some (.string ⟨x2.toArray⟩)) := HSB.out.2
              have m1 := HSB.out.1
              clear HSB
              as_aux_lemma =>
                go_upto_if 72 with (fail)
                clear m1
                go_cut [5, 10] (fun v5 v10 wx => v5 = .slice (some ⟨g, 0, none⟩) 3 3 ∧ v10 = .pointer (some ⟨P, 0, none⟩) ∧ Hid (wx.cell? ⟨g, 2, none⟩ = some (.string ⟨x2.toArray⟩)) ∧ Hid (Blk wx P [.string ⟨(undashL x1).toArray⟩, .int .i64 0, .bool CL] 51) ∧ Hid (Blk wx F [.bool false] 4) ∧ Hid (Blk wx D [.int .i64 sf, .int .i64 ss, .int .i64 sl, .int .i64 sp, .slice ra rn rc] 28) ∧ Hid (wx.ownsRow D 51 3 (.slice ra rn rc) rs.length ((rs.map Rate.cells).flatten)) ∧ Hid (Below D W wx))
                case first =>
                  by_cases hd : x1 = [45]
                  · subst hd
                    have HCz : Hid ((wB.setCell ⟨P, 0, none⟩ (.string ⟨#[]⟩)).cell? ⟨g, 2, none⟩ = some (.string ⟨x2.toArray⟩)) := (cell_of_block (Below.heap_setCell _ _ _ _ hgP)).trans HCB.out
                    have HPz := Lib.hid (HPB.out.put 0 (.string ⟨#[]⟩))
                    have HFz : Hid (Blk (wB.setCell ⟨P, 0, none⟩ (.string ⟨#[]⟩)) F [.bool false] 4) := HFB.out.far (p := ⟨P, 0, none⟩) (by show P ≠ F; omega)
                    have HXz : Hid (Blk (wB.setCell ⟨P, 0, none⟩ (.string ⟨#[]⟩)) D [.int .i64 sf, .int .i64 ss, .int .i64 sl, .int .i64 sp, .slice ra rn rc] 28) := HXB.out.far (p := ⟨P, 0, none⟩) (by show P ≠ D; omega)
                    have HOz := Lib.hid (own_set (p := ⟨P, 0, none⟩) (u := .string ⟨#[]⟩) HOB.out hvP)
                    have HBz : Hid (Below D W (wB.setCell ⟨P, 0, none⟩ (.string ⟨#[]⟩))) := HBB.out.setCell (p := ⟨P, 0, none⟩) (by show D ≤ P; omega) _
                    have p0 := HPB.out.cell 0 rfl
                    have pf := HPB.out.fr 0
                    as_aux_lemma =>
                      go_wp2_with fail
                      go_meet
                      exact ⟨rfl, rfl, HCz, HPz, HFz, HXz, HOz, HBz⟩
                  · have HPN : Hid (Blk wB P [.string ⟨(undashL x1).toArray⟩, .int .i64 0, .bool CL] 51) := by
                      show Blk _ _ _ _
                      unfold undashL
                      rw [if_neg hd]
                      exact HPB.out
                    have hdb : (x1 == [45]) = false := beq_eq_false_iff_ne.2 hd
                    rw [hdb]
                    as_aux_lemma =>
                      go_wp2_with fail
                      go_meet
                      exact ⟨rfl, rfl, HCB, HPN, HFB, HXB, HOB, HBB⟩
                case rest =>
                  obtain ⟨rfl, rfl, HC3, HP3, HF3, HX3, HO3, HB3⟩ := hcut
                  obtain ⟨w3, rfl⟩ : ∃ x : World, x = wc := ⟨_, rfl⟩
                  clear HCB HPB HFB HXB HOB HBB
                  generalize undashL x1 = u at HP3 HRX
                  have p2 := HP3.out.cell 2 rfl
                  as_aux_lemma =>
                    go_upto_if 76 with (fail)
                    generalize hZF : (if x2 = wClosed then 0 else if numOk x2 = true then numZ x2 else 0) = ZF at HRX
                    have HZF := Lib.hid hZF
                    clear hZF p2
                    have hCD : decide (x2 = wClosed) = CL := by
                      rw [← hCL, Bool.eq_iff_iff, decide_eq_true_eq, beq_iff_eq]
                      exact Iff.rfl
                    rw [hCD] at HLB HRX
                    go_cut [10, 11] (fun v10 v11 wx => v10 = .pointer (some ⟨P, 0, none⟩) ∧ v11 = .bool LB ∧ ∃ z, (LB = true → z = ZF) ∧ Hid (wx.cell? ⟨g, 2, none⟩ = some (.string ⟨x2.toArray⟩)) ∧ Hid (Blk wx P [.string ⟨u.toArray⟩, .int .i64 z, .bool CL] 51) ∧ Hid (Blk wx F [.bool false] 4) ∧ Hid (Blk wx D [.int .i64 sf, .int .i64 ss, .int .i64 sl, .int .i64 sp, .slice ra rn rc] 28) ∧ Hid (wx.ownsRow D 51 3 (.slice ra rn rc) rs.length ((rs.map Rate.cells).flatten)) ∧ Hid (Below D W wx))
                    case first =>
                      cases CL with
                      | true =>
                        have hlb : LB = true := by rw [HLB.out]; rfl
                        have hzf : (0 : Int) = ZF := by rw [← HZF.out, if_pos (of_decide_eq_true hCD)]
                        subst hlb
                        as_aux_lemma =>
                          go_wp2_with fail
                          go_meet
                          exact ⟨rfl, rfl, 0, fun _ => hzf, HC3, HP3, HF3, HX3, HO3, HB3⟩
                      | false =>
                        have hlb : LB = numOk x2 := by rw [HLB.out, Bool.false_or]
                        have hne : ¬ x2 = wClosed := of_decide_eq_false hCD
                        have HNC := Lib.hid (HNB.out w3 HB3.out)
                        have k2 := HC3.out
                        as_aux_lemma =>
                          go_wp2_with fail
                          refine HNC.out.mono ?_
                          rintro e w4 ⟨z, rfl, hz, hb4⟩
                          have HC4 : Hid (w4.cell? ⟨g, 2, none⟩ = some (.string ⟨x2.toArray⟩)) := (hb4.cell (p := ⟨g, 2, none⟩) (Nat.lt_trans hgd HP3.out.lt)).trans HC3.out
                          have HP4 := Lib.hid (HP3.out.below hb4)
                          have HF4 := Lib.hid (HF3.out.below hb4)
                          have HX4 := Lib.hid (HX3.out.below hb4)
                          have HO4 := Lib.hid (own_keep HO3.out hb4)
                          have HB4 : Hid (Below D W w4) := HB3.out.trans (hb4.mono (Nat.le_of_lt HX3.out.lt))
                          have HCz : Hid ((w4.setCell ⟨P, 1, none⟩ (.int .i64 z)).cell? ⟨g, 2, none⟩ = some (.string ⟨x2.toArray⟩)) := (cell_of_block (Below.heap_setCell _ _ _ _ hgP)).trans HC4.out
                          have HPz := Lib.hid (HP4.out.put 1 (.int .i64 z))
                          have HFz : Hid (Blk (w4.setCell ⟨P, 1, none⟩ (.int .i64 z)) F [.bool false] 4) := HF4.out.far (p := ⟨P, 1, none⟩) (by show P ≠ F; omega)
                          have HXz : Hid (Blk (w4.setCell ⟨P, 1, none⟩ (.int .i64 z)) D [.int .i64 sf, .int .i64 ss, .int .i64 sl, .int .i64 sp, .slice ra rn rc] 28) := HX4.out.far (p := ⟨P, 1, none⟩) (by show P ≠ D; omega)
                          have HOz := Lib.hid (own_set (p := ⟨P, 1, none⟩) (u := .int .i64 z) HO4.out hvP)
                          have HBz : Hid (Below D W (w4.setCell ⟨P, 1, none⟩ (.int .i64 z))) := HB4.out.setCell (p := ⟨P, 1, none⟩) (by show D ≤ P; omega) _
                          have p1 := HP4.out.cell 1 rfl
                          have pf := HP4.out.fr 1
                          have hzz : LB = true → z = ZF := fun h => by
                            rw [hlb] at h
                            rw [hz h, ← HZF.out, if_neg hne, if_pos h]
                          rw [← hlb]
                          clear hb4 HNC hz hlb k2
                          as_aux_lemma =>
                            go_wp2_with fail
                            go_meet
                            exact ⟨rfl, rfl, z, hzz, HCz, HPz, HFz, HXz, HOz, HBz⟩
                    case rest =>
                      obtain ⟨rfl, rfl, z, hzz, HC5, HP5, HF5, HX5, HO5, HB5⟩ := hcut
                      obtain ⟨w5, rfl⟩ : ∃ x : World, x = wc := ⟨_, rfl⟩
                      clear HC5 HC3 HP3 HF3 HX3 HO3 HB3 HNB HZF HLB
                      have hrn : rn = rs.length := (own_caps HO5.out).1
                      subst hrn
                      have hA : Below w5.heap.size w5 (w5.alloc (.cells #[.string ⟨u.toArray⟩, .int .i64 z, .bool CL] 51)) := ext_alloc (Below.refl _ _)
                      have HFA := Lib.hid (HF5.out.below hA)
                      have HXA := Lib.hid (HX5.out.below hA)
                      have HOA := Lib.hid (own_keep HO5.out hA)
                      have HNA : Hid (Blk (w5.alloc (.cells #[.string ⟨u.toArray⟩, .int .i64 z, .bool CL] 51)) w5.heap.size [.string ⟨u.toArray⟩, .int .i64 z, .bool CL] 51) := Blk.new w5 _ _
                      have hD5 : D < w5.heap.size := HX5.out.lt
                      have HRP : Hid (w5.rangeAt P 0 [.string ⟨u.toArray⟩, .int .i64 z, .bool CL]) := fun j v hj => by rw [Nat.zero_add]; exact HP5.out.cell j hj
                      have x4 := HX5.out.cell 4 rfl
                      clear hA HF5 HX5 HO5 HP5
                      as_aux_lemma =>
                        go_wp2_with (first | (refine wpList_load_mid rfl 51 (.tmp 10) rfl P 0 rfl [.string ⟨u.toArray⟩, .int .i64 z, .bool CL] _ HRP.out Tryz.underlying51 rfl Tryz.rateSz ?_) | (refine wpList_val rfl (bs_r1 _ _ _ 87 ⟨u.toArray⟩ z CL rfl rfl) ?_) | (at_builtin; refine Hid.out ?_))
                        refine Lib.hid ?_
                        refine wpList_append_own_at _ rfl (.tmp 86) (.tmp 88) 26 rfl D 51 i1 _ 3 32 Tryz.underlying26 hi1 hy0 hy1 hy2 rfl (by omega) (.slice ra rs.length rc) rs.length _ rfl HOA.out ⟨w5.heap.size, 0, none⟩ 1 1 [.string ⟨u.toArray⟩, .int .i64 z, .bool CL] rfl rfl (fun j u hj => by rw [add0]; exact HNA.out.cell j hj) (by simp [Value.oneCell']) (by simp only [maxLen]; omega) (by omega) (by simp; omega) ?_
                        intro v12 w12 hown12 hgr12 _ hat12
                        have HQ1 := Lib.hid hown12
                        have HQ2 := Lib.hid hgr12
                        clear hown12 hgr12 hat12
                        obtain ⟨a12, c12, rfl⟩ := own_shape HQ1.out
                        have HX12 := Lib.hid (HXA.out.grown HQ2.out hvD)
                        have HF12 := Lib.hid (HFA.out.grown HQ2.out hvF)
                        have HO12 : Hid (w12.ownsRow D 51 3 (.slice a12 (rs.length + 1) c12) (rs ++ [Rate.mk u z CL]).length (((rs ++ [Rate.mk u z CL]).map Rate.cells).flatten)) := by
                          show World.ownsRow _ _ _ _ _ _ _
                          rw [rcells_snoc, List.length_append]
                          exact HQ1.out
                        have HB12 : Hid (Below D W w12) := HB5.out.trans (upto_grown HQ2.out (Nat.le_of_lt hD5) (fun b e => (HOA.out.lt b e).1))
                        have hv2 : (Value.slice a12 (rs.length + 1) c12).ownBlock ≠ some D := own_blk (e := 51) HO12.out HX12.out (by decide)
                        have y4 := HX12.out.cell 4 rfl
                        have yf := HX12.out.fr 4
                        have HFZ : Hid (Blk (w12.setCell ⟨D, 4, none⟩ (.slice a12 (rs.length + 1) c12)) F [.bool false] 4) := HF12.out.far (p := ⟨D, 4, none⟩) (by show D ≠ F; omega)
                        have HXZ : Hid (Blk (w12.setCell ⟨D, 4, none⟩ (.slice a12 (rs.length + 1) c12)) D [.int .i64 sf, .int .i64 ss, .int .i64 sl, .int .i64 sp, .slice a12 (rs.length + 1) c12] 28) := HX12.out.put 4 _
                        have HOZ := Lib.hid (own_set (p := ⟨D, 4, none⟩) (u := .slice a12 (rs.length + 1) c12) HO12.out hv2)
                        have HBZ : Hid (Below D W (w12.setCell ⟨D, 4, none⟩ (.slice a12 (rs.length + 1) c12))) := HB12.out.setCell (p := ⟨D, 4, none⟩) (Nat.le_refl D) _
                        clear HX12 HF12 HO12 HB12 HQ1 HQ2 HFA HXA HOA HNA HB5 HRP x4
                        cases LB with
                        | false =>
                          have HE := Lib.hid (HBAD.out (w12.setCell ⟨D, 4, none⟩ (.slice a12 (rs.length + 1) c12)) (by rw [HTX.out, if_neg (by decide)]) HBZ.out)
                          clear HBAD HGOOD HTX HFZ HXZ HOZ
                          as_aux_lemma =>
                            go_wp2_with fail
                            first | exact HE.out | (go_ret; exact HE.out)
                        | true =>
                          have hrx := HRX.out rfl
                          obtain rfl := hzz rfl
                          have HE := Lib.hid (HGOOD.out ⟨sf, ss, sl, sp, (rs ++ [Rate.mk u z CL]), true, false⟩ (w12.setCell ⟨D, 4, none⟩ (.slice a12 (rs.length + 1) c12)) (by rw [HTX.out, if_pos rfl, hrx]) ⟨rfl, hDF, (fun h => by cases h), HFZ.out, a12, rs.length + 1, c12, HXZ.out, HOZ.out⟩ HBZ.out)
                          clear HBAD HGOOD HTX HFZ HXZ HOZ hrx
                          as_aux_lemma =>
                            go_wp2_with fail
                            first | exact HE.out | (go_ret; exact HE.out)
end Go.Proofs.YtacekbbndamkmaaGreatDoor

set_option linter.unusedVariables false
set_option linter.unusedSimpArgs false
namespace Go.Proofs.YtacekbbndamkmaaGreatDoor
open Go.RowKit

theorem takeS_begun {st : TkS} {l : List UInt8} (h : (takeS st l).2 = true) : (takeS st l).1.begun = true := by
  unfold takeS takeX at h ⊢
  by_cases h1 : st.bad = true
  · rw [if_pos h1] at h; cases h
  rw [if_neg h1] at h ⊢
  by_cases h2 : fullW (wordsL l) = false
  · rw [if_pos h2] at h; cases h
  rw [if_neg h2] at h ⊢
  by_cases h3 : st.begun = false
  · rw [if_pos h3] at h ⊢
    by_cases h4 : headB (wordsL l) = true
    · rw [if_pos h4]
    · rw [if_neg h4] at h; cases h
  · rw [if_neg h3] at h ⊢
    by_cases h4 : lineB (wordsL l) = true
    · rw [if_pos h4]
    · rw [if_neg h4] at h; cases h
theorem lines_begun {st0 : TkS} {t : List UInt8} {i : Nat} {res : TkS × Nat × Bool} (h : LinesTo takeS st0 t i res) : res.2.2 = true → res.2.1 = 0 ∧ (t = [] → res.1 = st0) ∧ (st0.begun = true ∨ t ≠ [] → res.1.begun = true) := by
  induction h with
  | done st i => exact fun _ => ⟨rfl, fun _ => rfl, fun h => h.elim id (fun h => absurd rfl h)⟩
  | open_ => intro h; cases h
  | stop => intro h; cases h
  | next st t i res h h1 h2 h3 ih => exact fun hb => ⟨(ih hb).1, fun e => absurd e h, fun _ => (ih hb).2.2 (Or.inl (takeS_begun h2))⟩
set_option maxRecDepth 100000 in
set_option maxHeartbeats 8000000 in
theorem deckRead_any (t0 : List UInt8) (ht0 : t0.length ≤ 25000) (S : Nat) (w : World) (hL : LibsW S w) (hS : S ≤ w.heap.size) : Calls Tryz.prog 35 #[.string ⟨t0.toArray⟩] w (ReadPost t0 w) := by
  have HL := Lib.hid hL
  clear hL
  have HR : Hid (Blk ((w.alloc (.cells #[.int .i64 0, .int .i64 0, .int .i64 0, .int .i64 0, .slice none 0 0] 28)).alloc (.cells #[.int .i64 0, .int .i64 0, .int .i64 0, .int .i64 0, .slice none 0 0] 28)) w.heap.size [.int .i64 0, .int .i64 0, .int .i64 0, .int .i64 0, .slice none 0 0] 28) := (Blk.new w _ _).alloc _
  have HD : Hid (Blk ((w.alloc (.cells #[.int .i64 0, .int .i64 0, .int .i64 0, .int .i64 0, .slice none 0 0] 28)).alloc (.cells #[.int .i64 0, .int .i64 0, .int .i64 0, .int .i64 0, .slice none 0 0] 28)) (w.heap.size + 1) [.int .i64 0, .int .i64 0, .int .i64 0, .int .i64 0, .slice none 0 0] 28) := by
    have := Blk.new (w.alloc (.cells #[.int .i64 0, .int .i64 0, .int .i64 0, .int .i64 0, .slice none 0 0] 28)) [.int .i64 0, .int .i64 0, .int .i64 0, .int .i64 0, .slice none 0 0] 28
    rw [show (w.alloc (.cells #[.int .i64 0, .int .i64 0, .int .i64 0, .int .i64 0, .slice none 0 0] 28)).heap.size = w.heap.size + 1 by simp] at this
    exact this
  have HA : Hid (Below w.heap.size w ((w.alloc (.cells #[.int .i64 0, .int .i64 0, .int .i64 0, .int .i64 0, .slice none 0 0] 28)).alloc (.cells #[.int .i64 0, .int .i64 0, .int .i64 0, .int .i64 0, .slice none 0 0] 28))) := ext_alloc (ext_alloc (Below.refl _ _))
  have hlt : ¬ (200000 : Int) < (t0.length : Int) := by omega
  go_enter Tryz.func35, Tryz.ntmps35
  as_aux_lemma =>
    go_upto_region 4 with (fail)
    generalize World.alloc (World.alloc w _) _ = w1 at HR HD HA ⊢
    obtain ⟨D, hD⟩ : ∃ D, D = w.heap.size + 1 := ⟨_, rfl⟩
    obtain ⟨R, hR⟩ : ∃ R, R = w.heap.size := ⟨_, rfl⟩
    rw [← hD] at HD
    rw [← hR] at HR
    simp only [← hD]
    simp only [← hR]
    have hwR : w.heap.size ≤ R := by omega
    have hwD : w.heap.size ≤ D := by omega
    have hRD : R < D := by omega
    clear hD hR
    have HF : Hid (Blk (w1.alloc (.cells #[.bool true] 4)) w1.heap.size [.bool true] 4) := Blk.new w1 _ _
    have hA1 : Below w1.heap.size w1 (w1.alloc (.cells #[.bool true] 4)) := ext_alloc (Below.refl _ _)
    have HR1 := Lib.hid (HR.out.below hA1)
    have HD1 := Lib.hid (HD.out.below hA1)
    have HA1 : Hid (Below w.heap.size w (w1.alloc (.cells #[.bool true] 4))) := ext_trans HA.out hA1
    have hDF := HD.out.lt
    have f0 := (Blk.new w1 [.bool false] 4).cell 0 rfl
    have ff := (Blk.new w1 [.bool false] 4).fr 0
    clear HR HD HA hA1
    as_aux_lemma =>
      go_upto_region 5 with (fail)
      clear f0 ff
      generalize World.alloc w1 _ = w2 at HF HR1 HD1 HA1 ⊢
      obtain ⟨F, hF⟩ : ∃ F, F = w1.heap.size := ⟨_, rfl⟩
      rw [← hF] at HF hDF
      simp only [← hF]
      clear hF
      have HLN := Lib.hid (linesR_any takeS (TkR F D) TkQ S D F D (fun st m line W hr hq hm hl hb => takeR_any S F D st m line W hr hq hm hl (by omega)) (fun st W W' h hb => h.below hb) (fun st m line hq hm ho => takeQ_step st m line hq hm ho) t0 (by omega) startT w2 ⟨rfl, hDF, (fun _ => rfl), HF.out, none, 0, 0, HD1.out, World.ownsRow_nil _ _ _ _⟩ takeQ_start (HL.out.below HA1.out hS) (by omega) (Nat.le_of_lt HD1.out.lt))
      as_aux_lemma =>
        go_wp2_with fail
        refine HLN.out.mono ?_
        rintro e w3 ⟨st, k, b, hto, rfl, hr, hq, hb3⟩
        have HTO := Lib.hid hto
        have hlb := lines_begun hto
        simp only at hlb
        have HR3 := Lib.hid (HR1.out.same (hb3.block R hRD))
        have HB3 : Hid (Below w.heap.size w w3) := HA1.out.trans (hb3.mono hwD)
        clear hto HR1 HD1 HF HA1 HLN hb3
        cases b with
        | false =>
          clear hr hq hlb
          have HTH : Hid (w3.there R 0 5) := HR3.out.th 5 (by decide)
          have HR9 := Lib.hid (HR3.out.set5 (.int .i64 0) (.int .i64 0) (.int .i64 0) (.int .i64 0) (.slice none 0 0))
          have hrx : readX st k false = (zeroT, (k : Int), 9) := by rfl
          have HE : Hid (ReadPost t0 w (.returned (.tuple #[.agg #[.int .i64 0, .int .i64 0, .int .i64 0, .int .i64 0, .slice none 0 0], .int .i64 (k : Int), .int .i64 9])) (w3.setCells R 0 [.int .i64 0, .int .i64 0, .int .i64 0, .int .i64 0, .slice none 0 0])) := ⟨st, k, false, HTO.out, none, 0, 0, by rw [hrx]; rfl, by rw [hrx]; exact World.ownsRow_nil _ _ _ _, by rw [hrx]; exact ⟨Nat.zero_le _, fun r h => by cases h⟩, below_put hwR HB3.out _⟩
          clear HR3 HB3 HTO hrx 
          as_aux_lemma =>
            go_wp2_with (first | (refine wpList_store_mid rfl 28 (.tmp 2) (.tmp 26) rfl R 0 #[.int .i64 0, .int .i64 0, .int .i64 0, .int .i64 0, .slice none 0 0] rfl rfl HTH.out Tryz.deckSz (by simp [Value.oneCell']) ?_; generalize World.setCells w3 R 0 _ = W9 at HR9 HE ⊢))
            refine bodyPost_ret (v := .tuple #[.agg #[.int .i64 0, .int .i64 0, .int .i64 0, .int .i64 0, .slice none 0 0], .int .i64 (k : Int), .int .i64 9]) ?_ rfl HE.out
            exact results_cellTT (t := 2) (u := 3) (v := 4) (by rfl) _ _ _ Tryz.isAgg28 Tryz.sizeOf28 (by rfl) [.int .i64 0, .int .i64 0, .int .i64 0, .int .i64 0, .slice none 0 0] rfl (fun j v hj => HR9.out.cell j hj)
        | true =>
          obtain ⟨hk, hb1, hb2⟩ := hlb rfl
          cases t0 with
          | nil =>
            obtain rfl := hb1 rfl
            subst hk
            clear hr hq hb1 hb2
            have HTH : Hid (w3.there R 0 5) := HR3.out.th 5 (by decide)
            have HR9 := Lib.hid (HR3.out.set5 (.int .i64 0) (.int .i64 0) (.int .i64 0) (.int .i64 0) (.slice none 0 0))
            have hrx : readX startT 0 true = (zeroT, 0, 9) := by rfl
            have HE : Hid (ReadPost [] w (.returned (.tuple #[.agg #[.int .i64 0, .int .i64 0, .int .i64 0, .int .i64 0, .slice none 0 0], .int .i64 0, .int .i64 9])) (w3.setCells R 0 [.int .i64 0, .int .i64 0, .int .i64 0, .int .i64 0, .slice none 0 0])) := ⟨startT, 0, true, HTO.out, none, 0, 0, by rw [hrx]; rfl, by rw [hrx]; exact World.ownsRow_nil _ _ _ _, by rw [hrx]; exact ⟨Nat.zero_le _, fun r h => by cases h⟩, below_put hwR HB3.out _⟩
            clear HR3 HB3 HTO hrx 
            as_aux_lemma =>
              go_wp2_with (first | (refine wpList_store_mid rfl 28 (.tmp 2) (.tmp 26) rfl R 0 #[.int .i64 0, .int .i64 0, .int .i64 0, .int .i64 0, .slice none 0 0] rfl rfl HTH.out Tryz.deckSz (by simp [Value.oneCell']) ?_; generalize World.setCells w3 R 0 _ = W9 at HR9 HE ⊢))
              refine bodyPost_ret (v := .tuple #[.agg #[.int .i64 0, .int .i64 0, .int .i64 0, .int .i64 0, .slice none 0 0], .int .i64 0, .int .i64 9]) ?_ rfl HE.out
              exact results_cellTT (t := 2) (u := 3) (v := 4) (by rfl) _ _ _ Tryz.isAgg28 Tryz.sizeOf28 (by rfl) [.int .i64 0, .int .i64 0, .int .i64 0, .int .i64 0, .slice none 0 0] rfl (fun j v hj => HR9.out.cell j hj)
          | cons y0 t0 =>
            have hbg := hb2 (Or.inr (by simp))
            clear hb1 hb2
            subst hk
            obtain ⟨m, hm1, hq⟩ := hq rfl
            obtain ⟨-, -, -, -, a, n, c, hX, hO⟩ := hr rfl
            have HX := Lib.hid hX
            have HO := Lib.hid hO
            have HRS : Hid (RsOk st.rs) := ⟨by have := hq.few; omega, hq.each⟩
            have HNM := Lib.hid hq.nums
            clear hX hO hq hr hm1
            obtain ⟨sf, ss, sl, sp, rs, bg, bd⟩ := st
            simp only at HX HO HRS HNM hbg
            subst hbg
            obtain ⟨hrow, hcap, hn⟩ := row_of_own HO.out HRS.out
            subst hn
            have hnm := HNM.out
            have HCK : Hid (Calls Tryz.prog 7 #[.agg #[.int .i64 sf, .int .i64 ss, .int .i64 sl, .int .i64 sp, .slice a rs.length c]] w3 (ErrPost (deckErr (deckTk ⟨sf, ss, sl, sp, rs, true, bd⟩)) w3)) := deckFault_any w3 ⟨sf, ss, sl, sp, a, rs.length, c, rs⟩ ⟨hrow, hcap, hnm.1, hnm.2.1, hnm.2.2.1, hnm.2.2.2⟩
            have HRX : Hid (∀ E, deckErr (deckTk ⟨sf, ss, sl, sp, rs, true, bd⟩) = E → readX ⟨sf, ss, sl, sp, rs, true, bd⟩ 0 true = if E ≠ 0 then (zeroT, 0, E) else (⟨sf, ss, sl, sp, rs, true, bd⟩, 0, 0)) := fun E h => by rw [← h]; rfl
            clear hrow hcap hnm HNM
            generalize hE : deckErr (deckTk ⟨sf, ss, sl, sp, rs, true, bd⟩) = E at HCK HRX
            have HRX2 := Lib.hid (HRX.out E rfl)
            clear HRX hE
            have x0 := HX.out.cell 0 rfl
            have x1 := HX.out.cell 1 rfl
            have x2 := HX.out.cell 2 rfl
            have x3 := HX.out.cell 3 rfl
            have x4 := HX.out.cell 4 rfl
            as_aux_lemma =>
              go_wp2_with fail
              refine HCK.out.mono ?_
              rintro e w4 ⟨rfl, hb4⟩
              have HX4 := Lib.hid (HX.out.below hb4)
              have HO4 := Lib.hid (own_keep HO.out hb4)
              have HR4 := Lib.hid (HR3.out.below hb4)
              have HB4 := Lib.hid (ext_trans HB3.out hb4)
              clear HX HO HR3 HB3 HCK hb4 x0 x1 x2 x3 x4
              by_cases hE : E = 0
              case neg =>
                have hEb : (E == 0) = false := beq_eq_false_iff_ne.2 hE
                have HR3 := HR4
                have HB3 := HB4
                clear HR4 HB4
                have HTH : Hid (w4.there R 0 5) := HR3.out.th 5 (by decide)
                have HR9 := Lib.hid (HR3.out.set5 (.int .i64 0) (.int .i64 0) (.int .i64 0) (.int .i64 0) (.slice none 0 0))
                have hrx : readX ⟨sf, ss, sl, sp, rs, true, bd⟩ 0 true = (zeroT, 0, E) := by rw [HRX2.out, if_pos hE]
                have HE : Hid (ReadPost (y0 :: t0) w (.returned (.tuple #[.agg #[.int .i64 0, .int .i64 0, .int .i64 0, .int .i64 0, .slice none 0 0], .int .i64 0, .int .i64 E])) (w4.setCells R 0 [.int .i64 0, .int .i64 0, .int .i64 0, .int .i64 0, .slice none 0 0])) := ⟨⟨sf, ss, sl, sp, rs, true, bd⟩, 0, true, HTO.out, none, 0, 0, by rw [hrx]; rfl, by rw [hrx]; exact World.ownsRow_nil _ _ _ _, by rw [hrx]; exact ⟨Nat.zero_le _, fun r h => by cases h⟩, below_put hwR HB3.out _⟩
                clear HR3 HB3 HTO hrx HX4 HO4 HRS HRX2 hlt hE
                as_aux_lemma =>
                  go_wp2_with (first | (refine wpList_store_mid rfl 28 (.tmp 2) (.tmp 32) rfl R 0 #[.int .i64 0, .int .i64 0, .int .i64 0, .int .i64 0, .slice none 0 0] rfl rfl HTH.out Tryz.deckSz (by simp [Value.oneCell']) ?_; generalize World.setCells w4 R 0 _ = W9 at HR9 HE ⊢))
                  refine bodyPost_ret (v := .tuple #[.agg #[.int .i64 0, .int .i64 0, .int .i64 0, .int .i64 0, .slice none 0 0], .int .i64 0, .int .i64 E]) ?_ rfl HE.out
                  exact results_cellTT (t := 2) (u := 3) (v := 4) (by rfl) _ _ _ Tryz.isAgg28 Tryz.sizeOf28 (by rfl) [.int .i64 0, .int .i64 0, .int .i64 0, .int .i64 0, .slice none 0 0] rfl (fun j v hj => HR9.out.cell j hj)
              case pos =>
                subst hE
                have hrx : readX ⟨sf, ss, sl, sp, rs, true, bd⟩ 0 true = (⟨sf, ss, sl, sp, rs, true, bd⟩, 0, 0) := by rw [HRX2.out]; rfl
                have HRA : Hid (w4.rangeAt D 0 [.int .i64 sf, .int .i64 ss, .int .i64 sl, .int .i64 sp, .slice a rs.length c]) := fun j v hj => by rw [Nat.zero_add]; exact HX4.out.cell j hj
                have HTH : Hid (w4.there R 0 5) := HR4.out.th 5 (by decide)
                have HR9 := Lib.hid (HR4.out.set5 (.int .i64 sf) (.int .i64 ss) (.int .i64 sl) (.int .i64 sp) (.slice a rs.length c))
                have hoR : ∀ b, (Value.slice a rs.length c).ownBlock = some b → (some R : Option Nat) ≠ some b := fun b h1 h2 => by injection h2 with h2; have := (HO4.out.lt b h1).1; omega
                have HE : Hid (ReadPost (y0 :: t0) w (.returned (.tuple #[.agg #[.int .i64 sf, .int .i64 ss, .int .i64 sl, .int .i64 sp, .slice a rs.length c], .int .i64 0, .int .i64 0])) (w4.setCells R 0 [.int .i64 sf, .int .i64 ss, .int .i64 sl, .int .i64 sp, .slice a rs.length c])) := ⟨⟨sf, ss, sl, sp, rs, true, bd⟩, 0, true, HTO.out, a, rs.length, c, by rw [hrx], by rw [hrx]; exact own_le (own_gb HO4.out (setCells_gb R _ 0) hoR) hwD, by rw [hrx]; exact HRS.out, below_put hwR HB4.out _⟩
                clear HX4 HO4 HR4 HB4 hrx HTO HRS HRX2 hoR
                as_aux_lemma =>
                  go_wp2_with (first | (refine wpList_load_mid rfl 28 (.tmp 5) rfl D 0 rfl [.int .i64 sf, .int .i64 ss, .int .i64 sl, .int .i64 sp, .slice a rs.length c] _ HRA.out Tryz.underlying28 rfl Tryz.deckSz ?_) | (refine wpList_store_mid rfl 28 (.tmp 2) (.tmp 34) rfl R 0 #[.int .i64 sf, .int .i64 ss, .int .i64 sl, .int .i64 sp, .slice a rs.length c] rfl rfl HTH.out Tryz.deckSz (by simp [Value.oneCell']) ?_; generalize World.setCells w4 R 0 _ = W9 at HR9 HE ⊢))
                  refine bodyPost_ret (v := .tuple #[.agg #[.int .i64 sf, .int .i64 ss, .int .i64 sl, .int .i64 sp, .slice a rs.length c], .int .i64 0, .int .i64 0]) ?_ rfl HE.out
                  exact results_cellTT (t := 2) (u := 3) (v := 4) (by rfl) _ _ _ Tryz.isAgg28 Tryz.sizeOf28 (by rfl) [.int .i64 sf, .int .i64 ss, .int .i64 sl, .int .i64 sp, .slice a rs.length c] rfl (fun j v hj => HR9.out.cell j hj)
end Go.Proofs.YtacekbbndamkmaaGreatDoor
