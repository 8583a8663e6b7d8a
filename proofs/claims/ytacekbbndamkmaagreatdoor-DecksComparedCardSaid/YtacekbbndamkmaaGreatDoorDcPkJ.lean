/- What is proved here: lemmas and contracts for the statement, put together out of smaller texts (DkmRa, CarrDraw, RegionEnd). No condition beyond those stated. -/
import Derived.Test.YtacekbbndamkmaaGreatDoorDcPkH
import Derived.Test.YtacekbbndamkmaaGreatDoorDcPkD
import Derived.Maps.AppendAt
import Derived.Deep.DeepCutAuto
import Derived.Test.YtacekbbndamkmaaGreatDoorDcPkA
import Derived.Test.YtacekbbndamkmaaGreatDoorDcPkB
set_option linter.unusedVariables false
set_option linter.unusedSimpArgs false
namespace Go.Proofs.YtacekbbndamkmaaGreatDoor
open Go.RowKit

def raz (part : Int) (r : Rate) : Rate := ⟨r.p, upD (r.price * (1000 + part)) 1000, r.closed⟩
def raTo (part : Int) (rs : List Rate) (i : Nat) : List Rate := (rs.take i).map (raz part) ++ rs.drop i
theorem raTo_len (part : Int) (rs : List Rate) (i : Nat) : (raTo part rs i).length = rs.length := by
  unfold raTo
  rw [List.length_append, List.length_map, List.length_take, List.length_drop]
  omega
theorem raTo_zero (part : Int) (rs : List Rate) : raTo part rs 0 = rs := rfl
theorem raTo_all (part : Int) (rs : List Rate) : raTo part rs rs.length = rs.map (raz part) := by
  unfold raTo
  rw [List.take_length, List.drop_length, List.append_nil]
theorem raTo_at (part : Int) (rs : List Rate) (i : Nat) (hi : i < rs.length) : (raTo part rs i).getD i noRate = rs.getD i noRate := by
  unfold raTo
  rw [List.getD_eq_getElem?_getD, List.getElem?_append_right (by rw [List.length_map, List.length_take]; omega), List.length_map, List.length_take, List.getElem?_drop, List.getD_eq_getElem?_getD]
  congr 2
  omega
theorem raTo_succ (part : Int) (rs : List Rate) (i : Nat) (hi : i < rs.length) : raTo part rs (i + 1) = (raTo part rs i).set i (raz part (rs.getD i noRate)) := by
  unfold raTo
  have hl : ((rs.take i).map (raz part)).length = i := by rw [List.length_map, List.length_take]; omega
  rw [List.set_append, if_neg (by omega), hl, Nat.sub_self, List.drop_eq_getElem_cons hi, List.set_cons_zero, List.take_add_one, List.getElem?_eq_getElem hi, List.map_append, List.append_assoc]
  simp [List.getD_eq_getElem?_getD, hi]
theorem upD_bound {n part : Int} (hn : 0 ≤ n ∧ n ≤ 100000000) (hp : -1000 ≤ part ∧ part ≤ 10000) : 0 ≤ upD (n * (1000 + part)) 1000 ∧ upD (n * (1000 + part)) 1000 ≤ 2000000000 := by
  have m0 : 0 ≤ n * (1000 + part) := Int.mul_nonneg hn.1 (by omega)
  have m1 : n * (1000 + part) ≤ 100000000 * 11000 := Int.mul_le_mul hn.2 (by omega) (by omega) (by omega)
  unfold upD
  omega
def raisedD (d : Deck) (part : Int) : Deck := ⟨d.from_, upD (d.setup * (1000 + part)) 1000, d.least, d.step, d.ra, d.rn, d.rc, d.rates.map (raz part)⟩
/-- The error of raised prices. -/
def raiseE (d : Deck) (part : Int) : Int := if deckErr d ≠ 0 then deckErr d else if inB part (-1000) 10000 = false then 1 else deckErr (raisedD d part)
theorem ra_each {w : World} {a : Option Addr} {n : Nat} {rs : List Rate} (h : RateRow w a n rs) (hg : ∀ r ∈ rs, 0 ≤ r.price ∧ r.price ≤ 100000000) {part : Int} (hp : -1000 ≤ part ∧ part ≤ 10000) : ∀ i, i < (rs.map (raz part)).length → ((rs.map (raz part)).getD i noRate).p.length ≤ 100 ∧ -2000000000000 ≤ ((rs.map (raz part)).getD i noRate).price ∧ ((rs.map (raz part)).getD i noRate).price ≤ 2000000000000 := fun i hi => by
  obtain ⟨r, hr, e⟩ := List.mem_map.1 (mem_getD noRate hi)
  rw [← e]
  have := upD_bound (hg r hr) hp
  exact ⟨(rate_mem h r hr).1, by show _ ≤ upD _ _; omega, by show upD _ _ ≤ _; omega⟩
theorem mul_bound {n part : Int} (hn : 0 ≤ n ∧ n ≤ 100000000) (hp : -1000 ≤ part ∧ part ≤ 10000) : 0 ≤ n * (1000 + part) ∧ n * (1000 + part) ≤ 1100000000000 := by
  have m0 : 0 ≤ n * (1000 + part) := Int.mul_nonneg hn.1 (by omega)
  have m1 : n * (1000 + part) ≤ 100000000 * 11000 := Int.mul_le_mul hn.2 (by omega) (by omega) (by omega)
  omega
theorem deckErr_row (df ds dl dp : Int) (a a2 : Option Addr) (n n2 c c2 : Nat) (rs : List Rate) : deckErr ⟨df, ds, dl, dp, a, n, c, rs⟩ = deckErr ⟨df, ds, dl, dp, a2, n2, c2, rs⟩ := rfl
set_option maxRecDepth 100000 in
set_option maxHeartbeats 4000000 in
theorem raisedDeck_any (w : World) (d : Deck) (hd : DeckFine w d) (hE : deckErr d = 0) (part : Int) (hp : -1000 ≤ part ∧ part ≤ 10000) : Calls Tryz.prog 22 #[.agg d.cells.toArray, .int .i64 part] w (DeckPostO d.from_ (upD (d.setup * (1000 + part)) 1000) d.least d.step (d.rates.map (raz part)) w) := by
  have hg := deck_good (Nat.le_trans (by rw [← hd.row.len]; exact hd.row.few) (by decide)) hE
  obtain ⟨hg1, hg2, hg3, hg4, hg5⟩ := hg
  have HGS := Lib.hid hg1
  have HGR : Hid (∀ i, i < d.rates.length → 0 ≤ (d.rates.getD i noRate).price ∧ (d.rates.getD i noRate).price ≤ 100000000) := fun i hi => hg5 _ (mem_getD _ hi)
  have HPB := Lib.hid hp
  have HR := Lib.hid hd.row
  have hlen := hd.row.len
  have hfew := hd.row.few
  clear hd hE hp hg1 hg2 hg3 hg4 hg5
  obtain ⟨df, ds, dl, dp, da, dn, dc, rates⟩ := d
  show Calls Tryz.prog 22 #[.agg #[.int .i64 df, .int .i64 ds, .int .i64 dl, .int .i64 dp, .slice da dn dc], .int .i64 part] w _
  simp only at HGS HGR HR hlen hfew ⊢
  subst hlen
  have HFIN : Hid (upD (ds * (1000 + part)) 1000 = upD (ds * (1000 + part)) 1000) := rfl
  have HX : Hid (Blk (((w.alloc (.cells #[.int .i64 df, .int .i64 ds, .int .i64 dl, .int .i64 dp, .slice da rates.length dc] 28)).alloc (.cells #[.int .i64 0, .int .i64 0, .int .i64 0, .int .i64 0, .slice none 0 0] 28))) w.heap.size [.int .i64 df, .int .i64 ds, .int .i64 dl, .int .i64 dp, .slice da rates.length dc] 28) := (Blk.new w _ _).alloc _
  have HF : Hid (Blk (((w.alloc (.cells #[.int .i64 df, .int .i64 ds, .int .i64 dl, .int .i64 dp, .slice da rates.length dc] 28)).alloc (.cells #[.int .i64 0, .int .i64 0, .int .i64 0, .int .i64 0, .slice none 0 0] 28))) (w.heap.size + 1) [.int .i64 0, .int .i64 0, .int .i64 0, .int .i64 0, .slice none 0 0] 28) := by
    have := Blk.new (w.alloc (.cells #[.int .i64 df, .int .i64 ds, .int .i64 dl, .int .i64 dp, .slice da rates.length dc] 28)) [.int .i64 0, .int .i64 0, .int .i64 0, .int .i64 0, .slice none 0 0] 28
    rw [show (w.alloc (.cells #[.int .i64 df, .int .i64 ds, .int .i64 dl, .int .i64 dp, .slice da rates.length dc] 28)).heap.size = w.heap.size + 1 by simp] at this
    exact this
  have HA : Hid (Below w.heap.size w (((w.alloc (.cells #[.int .i64 df, .int .i64 ds, .int .i64 dl, .int .i64 dp, .slice da rates.length dc] 28)).alloc (.cells #[.int .i64 0, .int .i64 0, .int .i64 0, .int .i64 0, .slice none 0 0] 28)))) := ext_alloc (ext_alloc (Below.refl _ _))
  go_enter Tryz.func22, Tryz.ntmps22
  as_aux_lemma =>
    go_upto_region 1 with (fail)
    generalize World.alloc (World.alloc w _) _ = w2 at HX HF HA ⊢
    obtain ⟨X, hX⟩ : ∃ X, X = w.heap.size := ⟨_, rfl⟩
    obtain ⟨F, hF⟩ : ∃ F, F = w.heap.size + 1 := ⟨_, rfl⟩
    rw [← hF] at HF
    rw [← hX] at HX
    have hwF : w.heap.size ≤ F := by omega
    have hwX : w.heap.size ≤ X := by omega
    have hXF : X ≠ F := by omega
    have hFX : F ≠ X := by omega
    simp only [← hF]
    simp only [← hX]
    clear hX hF
    have HX2 := HX
    have HF2 := HF
    have HB2 := HA
    clear HX HF HA
    have x1 := HX2.out.cell 1 rfl
    have xf := HX2.out.fr 1
    have v0 : IntKind.i64.wrap (1000 + part) = 1000 + part := IntWalk.i64_in _ (by have := HPB.out; omega)
    have v1 : IntKind.i64.wrap (ds * (1000 + part)) = ds * (1000 + part) := IntWalk.i64_in _ (by have := mul_bound HGS.out HPB.out; omega)
    as_aux_lemma =>
      go_wp2_with fail
      refine (upward_any (ds * (1000 + part)) 1000 (by have := mul_bound HGS.out HPB.out; omega) (by omega) _).mono ?_
      rintro e w3 ⟨rfl, hw3⟩
      subst hw3
      have HX3 := Lib.hid (HX2.out.put 1 (.int .i64 (upD (ds * (1000 + part)) 1000)))
      have HF3 := Lib.hid (HF2.out.far (p := ⟨X, 1, none⟩) (u := .int .i64 (upD (ds * (1000 + part)) 1000)) hXF)
      have HB3 := Lib.hid (HB2.out.setCell (p := ⟨X, 1, none⟩) hwX (.int .i64 (upD (ds * (1000 + part)) 1000)))
      have hXl := HX2.out.lt
      clear HX2 HF2 HB2 v1
      generalize hU : upD (ds * (1000 + part)) 1000 = U at HX3 HF3 HB3 HFIN ⊢
      have HUU := Lib.hid hU
      clear hU
      as_aux_lemma =>
        go_upto_region 2 with (fail)
        clear x1 xf
        have hXl : X < (World.setCell w2 ⟨X, 1, none⟩ (.int .i64 U)).heap.size := by simpa using hXl
        generalize World.setCell w2 _ _ = w3 at HX3 HF3 HB3 hXl ⊢
        have x4 := HX3.out.cell 4 rfl
        as_aux_lemma =>
          go_wp2_with fail
          refine (cloneR_any w3 da rates.length dc rates (HR.out.below HB3.out)).mono ?_
          rintro e w4 ⟨v4, rfl, ho4, hb4⟩
          obtain ⟨na, nc, rfl⟩ := own_shape ho4
          have hX4 := HX3.out.below hb4
          have hF4 := HF3.out.below hb4
          have hv4 : ∀ b, (Value.slice na rates.length nc).ownBlock = some b → w3.heap.size ≤ b := fun b e => (ho4.lt b e).1
          clear x4
          have x4 := hX4.cell 4 rfl
          have xf := hX4.fr 4
          have HX5 := Lib.hid (hX4.put 4 (.slice na rates.length nc))
          have HF5 := Lib.hid (hF4.far (p := ⟨X, 4, none⟩) (u := .slice na rates.length nc) hXF)
          have HO5 := Lib.hid (own_set (p := ⟨X, 4, none⟩) (u := .slice na rates.length nc) ho4 (fun e => by have := hv4 X e; omega))
          have HB5 := Lib.hid ((ext_trans HB3.out hb4).setCell (p := ⟨X, 4, none⟩) hwX (.slice na rates.length nc))
          have HV := Lib.hid hv4
          have hwV : w.heap.size ≤ w3.heap.size := HB3.out.size
          clear ho4 hb4 hX4 hF4 HX3 HF3 HB3 hv4
          as_aux_lemma =>
            go_upto_region 3 with (fail)
            clear x4 xf
            generalize World.setCell w4 _ _ = w5 at HX5 HF5 HO5 HB5 ⊢
            generalize hVV : w3.heap.size = VB at HO5 HV hXl hwV
            clear hVV
            have x4 := HX5.out.cell 4 rfl
            as_aux_lemma =>
              go_wp2_with fail
              clear x4
              go_loopw [20] (fun it wr => ∃ i : Nat, i ≤ rates.length ∧ it = .int .i64 i ∧ Hid (Blk wr X [.int .i64 df, .int .i64 U, .int .i64 dl, .int .i64 dp, .slice na rates.length nc] 28) ∧ Hid (Blk wr F [.int .i64 0, .int .i64 0, .int .i64 0, .int .i64 0, .slice none 0 0] 28) ∧ Hid (wr.ownsRow VB 51 3 (.slice na rates.length nc) rates.length (((raTo part rates i).map Rate.cells).flatten)) ∧ Hid (Below w.heap.size w wr)) (fun it _ => rates.length - (intOf it).toNat)
              case atStart => exact ⟨0, Nat.zero_le _, rfl, HX5.out, HF5.out, HO5.out, HB5.out⟩
              case round =>
                clear HX5 HF5 HO5 HB5
                obtain ⟨i, hin, rfl, HX, HF, HO, HB⟩ := hrel
                by_cases hlt : i < rates.length
                case pos =>
                  have hlti : (i : Int) < (rates.length : Int) := by omega
                  obtain ⟨g, rfl, hg0, hg1⟩ := own_pos HO.out (by omega)
                  have x4 := HX.out.cell 4 rfl
                  have p1 := own_field Rate.cells (fun _ => rfl) HO.out i 1 noRate (v := .int .i64 ((raTo part rates i).getD i noRate).price) (by rw [raTo_len]; exact hlt) (by omega) rfl
                  have pf : wr.frozen? ⟨g, i * 3 + 1, none⟩ = false := HO.out.frozenAt (i * 3 + 1)
                  have hpb := HGR.out i hlt
                  have HPUT := Lib.hid (own_put1 Rate.cells (fun _ => rfl) HO.out i 1 noRate (raz part (rates.getD i noRate)) (.int .i64 (upD ((rates.getD i noRate).price * (1000 + part)) 1000)) (by rw [raTo_len]; exact hlt) (by omega) (by rw [raTo_at part rates i hlt]; rfl))
                  rw [← raTo_succ part rates i hlt] at HPUT
                  rw [raTo_at part rates i hlt] at p1
                  have hgX : g ≠ X := by omega
                  have HXF : Hid (Blk wr F [.int .i64 0, .int .i64 0, .int .i64 0, .int .i64 0, .slice none 0 0] 28 → g ≠ F) := fun h e => own_blk (e := 51) (X := F) HO.out h (by decide) (by rw [← e]; rfl)
                  have hgF := HXF.out HF.out
                  have HX7 := Lib.hid (HX.out.far (p := ⟨g, i * 3 + 1, none⟩) (u := .int .i64 (upD ((rates.getD i noRate).price * (1000 + part)) 1000)) hgX)
                  have HF7 := Lib.hid (HF.out.far (p := ⟨g, i * 3 + 1, none⟩) (u := .int .i64 (upD ((rates.getD i noRate).price * (1000 + part)) 1000)) hgF)
                  have HB7 := Lib.hid (HB.out.setCell (p := ⟨g, i * 3 + 1, none⟩) (by show w.heap.size ≤ g; omega) (.int .i64 (upD ((rates.getD i noRate).price * (1000 + part)) 1000)))
                  have HM7 := Lib.hid (mul_bound hpb HPB.out)
                  have HPR := Lib.hid hpb
                  clear HX HF HO HB HXF hpb hgF
                  generalize (rates.getD i noRate).price = pr at p1 HPUT HX7 HF7 HB7 HM7 HPR
                  have v1 : IntKind.i64.wrap (pr * (1000 + part)) = pr * (1000 + part) := IntWalk.i64_in _ (by have := HM7.out; omega)
                  have HUP := Lib.hid (upward_any (pr * (1000 + part)) 1000 (by have := HM7.out; omega) (by omega))
                  generalize upD (pr * (1000 + part)) 1000 = UP at HUP HPUT HX7 HF7 HB7
                  as_aux_lemma =>
                    go_wp2_with fail
                    go_region_with (go_at_call 63; refine (HUP.out _).mono ?_; rintro e w' ⟨rfl, rfl⟩)
                    all_goals
                      go_wp2_with fail
                      go_roundw
                      case rel => exact ⟨i + 1, by omega, by go_num, HX7.out.below (ext_drew (Below.refl _ _)), HF7.out.below (ext_drew (Below.refl _ _)), HPUT.out, ext_drew HB7.out⟩
                      case measure => simp [intOf]; omega
                have hii : i = rates.length := by omega
                have hnn : ¬ (i : Int) < (rates.length : Int) := by omega
                rw [hii, raTo_all] at HO
                clear hii hlt
                have HRA : Hid (wr.rangeAt X 0 [.int .i64 df, .int .i64 U, .int .i64 dl, .int .i64 dp, .slice na rates.length nc]) := HX.out.range
                have HTH : Hid (wr.there F 0 5) := HF.out.th 5 (by decide)
                have HR9 := Lib.hid (HF.out.set5 (.int .i64 df) (.int .i64 U) (.int .i64 dl) (.int .i64 dp) (.slice na rates.length nc))
                have hFF : ∀ b, (Value.slice na rates.length nc).ownBlock = some b → (some F : Option Nat) ≠ some b := fun b h1 h2 => by injection h2 with h2; subst h2; exact own_blk (e := 51) HO.out HF.out (by decide) h1
                have HE : Hid (DeckPostO df (upD (ds * (1000 + part)) 1000) dl dp (rates.map (raz part)) w (.returned (.agg #[.int .i64 df, .int .i64 U, .int .i64 dl, .int .i64 dp, .slice na rates.length nc])) (wr.setCells F 0 [.int .i64 df, .int .i64 U, .int .i64 dl, .int .i64 dp, .slice na rates.length nc])) := by rw [HUU.out]; exact ⟨na, rates.length, nc, rfl, by rw [List.length_map]; exact own_le (own_gb HO.out (setCells_gb F _ 0) hFF) hwV, below_put hwF HB.out _⟩
                clear HX HF HO HB hFF
                as_aux_lemma =>
                  go_wp2_with (first | (refine wpList_load_mid rfl 28 (.tmp 2) rfl X 0 rfl [.int .i64 df, .int .i64 U, .int .i64 dl, .int .i64 dp, .slice na rates.length nc] _ HRA.out Tryz.underlying28 rfl Tryz.deckSz ?_) | (refine wpList_store_mid rfl 28 (.tmp 4) (.tmp 39) rfl F 0 #[.int .i64 df, .int .i64 U, .int .i64 dl, .int .i64 dp, .slice na rates.length nc] rfl rfl HTH.out Tryz.deckSz (by simp [Value.oneCell']) ?_; generalize World.setCells wr F 0 _ = W9 at HR9 HE ⊢))
                  refine bodyPost_ret (v := .agg #[.int .i64 df, .int .i64 U, .int .i64 dl, .int .i64 dp, .slice na rates.length nc]) ?_ rfl HE.out
                  exact results_cell1 (t := 4) (by rfl) _ _ _ Tryz.isAgg28 Tryz.sizeOf28 (by rfl) [.int .i64 df, .int .i64 U, .int .i64 dl, .int .i64 dp, .slice na rates.length nc] rfl (fun j v hj => HR9.out.cell j hj)

set_option maxRecDepth 100000 in
set_option maxHeartbeats 4000000 in
theorem carRaise_any (w : World) (d : Deck) (hd : DeckFine w d) (part : Int) (E : Int) (hE : raiseE d part = E) : Calls Tryz.prog 21 #[.agg d.cells.toArray, .int .i64 part] w (if E = 0 then DeckPostE d.from_ (upD (d.setup * (1000 + part)) 1000) d.least d.step (d.rates.map (raz part)) 0 w else DeckPostE 0 0 0 0 [] E w) := by
  have HCA : Hid (∀ W, Below w.heap.size w W → Calls Tryz.prog 25 #[.agg d.cells.toArray] W (ErrPost (deckErr d) W)) := fun W hW => checkDeck_any W d (hd.below hW)
  have HG0 : Hid (deckErr d = 0 → DeckGood d.setup d.least d.step d.rates) := fun h => deck_good (Nat.le_trans (by rw [← hd.row.len]; exact hd.row.few) (by decide)) h
  have HRE : Hid (E = if deckErr d ≠ 0 then deckErr d else if inB part (-1000) 10000 = false then 1 else deckErr (raisedD d part)) := hE.symm
  have HR := Lib.hid hd.row
  have hcap := hd.cap
  have hlen := hd.row.len
  have hfew := hd.row.few
  have HDB := Lib.hid (And.intro hd.b1 (And.intro hd.b3 hd.b4))
  have HRD : Hid (∀ rd, raisedD d part = rd → rd = ⟨d.from_, upD (d.setup * (1000 + part)) 1000, d.least, d.step, d.ra, d.rn, d.rc, d.rates.map (raz part)⟩) := fun rd h => h.symm
  generalize raisedD d part = rd at HRE HRD
  generalize hG : deckErr d = G at HCA HG0 HRE
  clear hd hE hG
  obtain ⟨df, ds, dl, dp, da, dn, dc, rates⟩ := d
  have HCA2 : Hid (∀ W, Below w.heap.size w W → Calls Tryz.prog 25 #[.agg #[.int .i64 df, .int .i64 ds, .int .i64 dl, .int .i64 dp, .slice da dn dc]] W (ErrPost G W)) := HCA.out
  show Calls Tryz.prog 21 #[.agg #[.int .i64 df, .int .i64 ds, .int .i64 dl, .int .i64 dp, .slice da dn dc], .int .i64 part] w _
  simp only at HG0 HR hlen hfew HDB HRD hcap ⊢
  subst hlen
  have HRD2 := Lib.hid (HRD.out rd rfl)
  clear HCA HRD
  by_cases hG : G = 0
  case neg =>
    have hEG : E = G := by rw [HRE.out, if_pos hG]
    subst hEG
    rw [if_neg hG]
    have hGb : (E == 0) = false := beq_eq_false_iff_ne.2 hG
    clear HG0 HRE HR HDB HRD2 hcap
    have HX : Hid (Blk (((w.alloc (.cells #[.int .i64 df, .int .i64 ds, .int .i64 dl, .int .i64 dp, .slice da rates.length dc] 28)).alloc (.cells #[.int .i64 0, .int .i64 0, .int .i64 0, .int .i64 0, .slice none 0 0] 28))) w.heap.size [.int .i64 df, .int .i64 ds, .int .i64 dl, .int .i64 dp, .slice da rates.length dc] 28) := (Blk.new w _ _).alloc _
    have HF : Hid (Blk (((w.alloc (.cells #[.int .i64 df, .int .i64 ds, .int .i64 dl, .int .i64 dp, .slice da rates.length dc] 28)).alloc (.cells #[.int .i64 0, .int .i64 0, .int .i64 0, .int .i64 0, .slice none 0 0] 28))) (w.heap.size + 1) [.int .i64 0, .int .i64 0, .int .i64 0, .int .i64 0, .slice none 0 0] 28) := by
      have := Blk.new (w.alloc (.cells #[.int .i64 df, .int .i64 ds, .int .i64 dl, .int .i64 dp, .slice da rates.length dc] 28)) [.int .i64 0, .int .i64 0, .int .i64 0, .int .i64 0, .slice none 0 0] 28
      rw [show (w.alloc (.cells #[.int .i64 df, .int .i64 ds, .int .i64 dl, .int .i64 dp, .slice da rates.length dc] 28)).heap.size = w.heap.size + 1 by simp] at this
      exact this
    have HA : Hid (Below w.heap.size w (((w.alloc (.cells #[.int .i64 df, .int .i64 ds, .int .i64 dl, .int .i64 dp, .slice da rates.length dc] 28)).alloc (.cells #[.int .i64 0, .int .i64 0, .int .i64 0, .int .i64 0, .slice none 0 0] 28)))) := ext_alloc (ext_alloc (Below.refl _ _))
    go_enter Tryz.func21, Tryz.ntmps21
    as_aux_lemma =>
      go_upto_region 1 with (fail)
      generalize World.alloc (World.alloc w _) _ = w1 at HX HF HA ⊢
      obtain ⟨X, hX⟩ : ∃ X, X = w.heap.size := ⟨_, rfl⟩
      obtain ⟨F, hF⟩ : ∃ F, F = w.heap.size + 1 := ⟨_, rfl⟩
      rw [← hF] at HF
      rw [← hX] at HX
      have hwF : w.heap.size ≤ F := by omega
      have hwX : w.heap.size ≤ X := by omega
      have hXF : X ≠ F := by omega
      have hFX : F ≠ X := by omega
      simp only [← hF]
      simp only [← hX]
      clear hX hF
      have x0 := HX.out.cell 0 rfl
      have x1 := HX.out.cell 1 rfl
      have x2 := HX.out.cell 2 rfl
      have x3 := HX.out.cell 3 rfl
      have x4 := HX.out.cell 4 rfl
      as_aux_lemma =>
        go_wp2_with fail
        refine (HCA2.out w1 HA.out).mono ?_
        rintro e w2 ⟨rfl, hb2⟩
        have HF2 := Lib.hid (HF.out.below hb2)
        have HB2 := Lib.hid (ext_trans HA.out hb2)
        clear hb2 HX HF HA HCA2 x0 x1 x2 x3 x4
        have HTH : Hid (w2.there F 0 5) := HF2.out.th 5 (by decide)
        have HR9 := Lib.hid (HF2.out.set5 (.int .i64 0) (.int .i64 0) (.int .i64 0) (.int .i64 0) (.slice none 0 0))
        have HE : Hid (DeckPostE 0 0 0 0 [] E w (.returned (.tuple #[.agg #[.int .i64 0, .int .i64 0, .int .i64 0, .int .i64 0, .slice none 0 0], .int .i64 E])) (w2.setCells F 0 [.int .i64 0, .int .i64 0, .int .i64 0, .int .i64 0, .slice none 0 0])) := ⟨none, 0, 0, rfl, zero_own _ _, below_put hwF HB2.out _⟩
        clear HF2 HB2
        as_aux_lemma =>
          go_wp2_with (first | (refine wpList_store_mid rfl 28 (.tmp 4) (.tmp 13) rfl F 0 #[.int .i64 0, .int .i64 0, .int .i64 0, .int .i64 0, .slice none 0 0] rfl rfl HTH.out Tryz.deckSz (by simp [Value.oneCell']) ?_; generalize World.setCells w2 F 0 _ = W9 at HR9 HE ⊢))
          refine bodyPost_ret (v := .tuple #[.agg #[.int .i64 0, .int .i64 0, .int .i64 0, .int .i64 0, .slice none 0 0], .int .i64 E]) ?_ rfl HE.out
          exact results_cell2 (t := 4) (u := 5) (by rfl) _ _ _ Tryz.isAgg28 Tryz.sizeOf28 (by rfl) [.int .i64 0, .int .i64 0, .int .i64 0, .int .i64 0, .slice none 0 0] rfl (fun j v hj => HR9.out.cell j hj)
  subst hG
  have HRE2 : Hid (E = if inB part (-1000) 10000 = false then 1 else deckErr rd) := by show _ = _; rw [HRE.out]; exact if_neg (by simp)
  have HWI := Lib.hid (within_c part (-1000) 10000)
  clear HRE
  by_cases hI : inB part (-1000) 10000 = true
  case neg =>
    have hIf : inB part (-1000) 10000 = false := Bool.not_eq_true _ |>.mp hI
    have hEG : E = 1 := by rw [HRE2.out, if_pos hIf]
    subst hEG
    rw [if_neg (by decide)]
    rw [hIf] at HWI
    clear HG0 HRE2 HR HDB HRD2 hcap hI hIf
    have HX : Hid (Blk (((w.alloc (.cells #[.int .i64 df, .int .i64 ds, .int .i64 dl, .int .i64 dp, .slice da rates.length dc] 28)).alloc (.cells #[.int .i64 0, .int .i64 0, .int .i64 0, .int .i64 0, .slice none 0 0] 28))) w.heap.size [.int .i64 df, .int .i64 ds, .int .i64 dl, .int .i64 dp, .slice da rates.length dc] 28) := (Blk.new w _ _).alloc _
    have HF : Hid (Blk (((w.alloc (.cells #[.int .i64 df, .int .i64 ds, .int .i64 dl, .int .i64 dp, .slice da rates.length dc] 28)).alloc (.cells #[.int .i64 0, .int .i64 0, .int .i64 0, .int .i64 0, .slice none 0 0] 28))) (w.heap.size + 1) [.int .i64 0, .int .i64 0, .int .i64 0, .int .i64 0, .slice none 0 0] 28) := by
      have := Blk.new (w.alloc (.cells #[.int .i64 df, .int .i64 ds, .int .i64 dl, .int .i64 dp, .slice da rates.length dc] 28)) [.int .i64 0, .int .i64 0, .int .i64 0, .int .i64 0, .slice none 0 0] 28
      rw [show (w.alloc (.cells #[.int .i64 df, .int .i64 ds, .int .i64 dl, .int .i64 dp, .slice da rates.length dc] 28)).heap.size = w.heap.size + 1 by simp] at this
      exact this
    have HA : Hid (Below w.heap.size w (((w.alloc (.cells #[.int .i64 df, .int .i64 ds, .int .i64 dl, .int .i64 dp, .slice da rates.length dc] 28)).alloc (.cells #[.int .i64 0, .int .i64 0, .int .i64 0, .int .i64 0, .slice none 0 0] 28)))) := ext_alloc (ext_alloc (Below.refl _ _))
    go_enter Tryz.func21, Tryz.ntmps21
    as_aux_lemma =>
      go_upto_region 1 with (fail)
      generalize World.alloc (World.alloc w _) _ = w1 at HX HF HA ⊢
      obtain ⟨X, hX⟩ : ∃ X, X = w.heap.size := ⟨_, rfl⟩
      obtain ⟨F, hF⟩ : ∃ F, F = w.heap.size + 1 := ⟨_, rfl⟩
      rw [← hF] at HF
      rw [← hX] at HX
      have hwF : w.heap.size ≤ F := by omega
      have hwX : w.heap.size ≤ X := by omega
      have hXF : X ≠ F := by omega
      have hFX : F ≠ X := by omega
      simp only [← hF]
      simp only [← hX]
      clear hX hF
      have x0 := HX.out.cell 0 rfl
      have x1 := HX.out.cell 1 rfl
      have x2 := HX.out.cell 2 rfl
      have x3 := HX.out.cell 3 rfl
      have x4 := HX.out.cell 4 rfl
      as_aux_lemma =>
        go_wp2_with fail
        refine (HCA2.out w1 HA.out).mono ?_
        rintro e w2 ⟨rfl, hb2⟩
        have HF2 := Lib.hid (HF.out.below hb2)
        have HB2 := Lib.hid (ext_trans HA.out hb2)
        clear hb2 HX HF HA HCA2 x0 x1 x2 x3 x4
        as_aux_lemma =>
          go_wp2_with fail
          refine (HWI.out w2).mono ?_
          rintro e w3 ⟨rfl, hw3⟩
          subst hw3
          have HTH : Hid (w2.there F 0 5) := HF2.out.th 5 (by decide)
          have HR9 := Lib.hid (HF2.out.set5 (.int .i64 0) (.int .i64 0) (.int .i64 0) (.int .i64 0) (.slice none 0 0))
          have HE : Hid (DeckPostE 0 0 0 0 [] 1 w (.returned (.tuple #[.agg #[.int .i64 0, .int .i64 0, .int .i64 0, .int .i64 0, .slice none 0 0], .int .i64 1])) (w2.setCells F 0 [.int .i64 0, .int .i64 0, .int .i64 0, .int .i64 0, .slice none 0 0])) := ⟨none, 0, 0, rfl, zero_own _ _, below_put hwF HB2.out _⟩
          clear HF2 HB2
          as_aux_lemma =>
            go_wp2_with (first | (refine wpList_store_mid rfl 28 (.tmp 4) (.tmp 18) rfl F 0 #[.int .i64 0, .int .i64 0, .int .i64 0, .int .i64 0, .slice none 0 0] rfl rfl HTH.out Tryz.deckSz (by simp [Value.oneCell']) ?_; generalize World.setCells w2 F 0 _ = W9 at HR9 HE ⊢))
            refine bodyPost_ret (v := .tuple #[.agg #[.int .i64 0, .int .i64 0, .int .i64 0, .int .i64 0, .slice none 0 0], .int .i64 1]) ?_ rfl HE.out
            exact results_cell2 (t := 4) (u := 5) (by rfl) _ _ _ Tryz.isAgg28 Tryz.sizeOf28 (by rfl) [.int .i64 0, .int .i64 0, .int .i64 0, .int .i64 0, .slice none 0 0] rfl (fun j v hj => HR9.out.cell j hj)
  have HPB : Hid (-1000 ≤ part ∧ part ≤ 10000) := by show _ ∧ _; unfold inB at hI; simpa using hI
  rw [hI] at HWI
  have HRE3 : Hid (E = deckErr rd) := by show _ = _; rw [HRE2.out, if_neg (by rw [hI]; decide)]
  obtain ⟨hg1, hg2, hg3, hg4, hg5⟩ := HG0.out rfl
  have HGS := Lib.hid hg1
  have HGR : Hid (∀ i, i < rates.length → 0 ≤ (rates.getD i noRate).price ∧ (rates.getD i noRate).price ≤ 100000000) := fun i hi => hg5 _ (mem_getD _ hi)
  have HEA : Hid (∀ i, i < (rates.map (raz part)).length → ((rates.map (raz part)).getD i noRate).p.length ≤ 100 ∧ -2000000000000 ≤ ((rates.map (raz part)).getD i noRate).price ∧ ((rates.map (raz part)).getD i noRate).price ≤ 2000000000000) := ra_each HR.out hg5 HPB.out
  have HUB := Lib.hid (upD_bound hg1 HPB.out)
  have HFIN : Hid (∀ (W : World) (base : Nat) (na : Option Addr) (nc : Nat), W.ownsRow base 51 3 (.slice na rates.length nc) rates.length (((rates.map (raz part)).map Rate.cells).flatten) → Calls Tryz.prog 25 #[.agg #[.int .i64 df, .int .i64 (upD (ds * (1000 + part)) 1000), .int .i64 dl, .int .i64 dp, .slice na rates.length nc]] W (ErrPost E W)) := fun W base na nc h => by
    obtain ⟨a9, c9, e9, hc9, hr9⟩ := rate_of_own h hfew HEA.out
    injection e9 with e1 e2 e3
    subst e1
    subst e3
    have hfine : DeckFine W ⟨df, upD (ds * (1000 + part)) 1000, dl, dp, na, rates.length, nc, rates.map (raz part)⟩ := ⟨hr9, hc9, HDB.out.1, ⟨Int.le_trans (by decide) HUB.out.1, Int.le_trans HUB.out.2 (by decide)⟩, HDB.out.2.1, HDB.out.2.2⟩
    have hc := checkDeck_any W _ hfine
    have e := deckErr_row df (upD (ds * (1000 + part)) 1000) dl dp da na rates.length rates.length dc nc (rates.map (raz part))
    rw [HRE3.out, HRD2.out, e]
    exact hc
  have HOK : Hid (∀ e W, E = 0 → DeckPostE df (upD (ds * (1000 + part)) 1000) dl dp (rates.map (raz part)) 0 w e W → (if E = 0 then DeckPostE df (upD (ds * (1000 + part)) 1000) dl dp (rates.map (raz part)) 0 w else DeckPostE 0 0 0 0 [] E w) e W) := fun e W h h2 => by rw [if_pos h]; exact h2
  have HBAD : Hid (∀ e W, E ≠ 0 → DeckPostE 0 0 0 0 [] E w e W → (if E = 0 then DeckPostE df (upD (ds * (1000 + part)) 1000) dl dp (rates.map (raz part)) 0 w else DeckPostE 0 0 0 0 [] E w) e W) := fun e W h h2 => by rw [if_neg h]; exact h2
  generalize (if E = 0 then DeckPostE df (upD (ds * (1000 + part)) 1000) dl dp (rates.map (raz part)) 0 w else DeckPostE 0 0 0 0 [] E w) = PP at HOK HBAD ⊢
  clear HG0 HRE2 HRE3 HRD2 HDB HEA HUB hI hg1 hg2 hg3 hg4 hg5 hcap
  have HX : Hid (Blk (((w.alloc (.cells #[.int .i64 df, .int .i64 ds, .int .i64 dl, .int .i64 dp, .slice da rates.length dc] 28)).alloc (.cells #[.int .i64 0, .int .i64 0, .int .i64 0, .int .i64 0, .slice none 0 0] 28))) w.heap.size [.int .i64 df, .int .i64 ds, .int .i64 dl, .int .i64 dp, .slice da rates.length dc] 28) := (Blk.new w _ _).alloc _
  have HF : Hid (Blk (((w.alloc (.cells #[.int .i64 df, .int .i64 ds, .int .i64 dl, .int .i64 dp, .slice da rates.length dc] 28)).alloc (.cells #[.int .i64 0, .int .i64 0, .int .i64 0, .int .i64 0, .slice none 0 0] 28))) (w.heap.size + 1) [.int .i64 0, .int .i64 0, .int .i64 0, .int .i64 0, .slice none 0 0] 28) := by
    have := Blk.new (w.alloc (.cells #[.int .i64 df, .int .i64 ds, .int .i64 dl, .int .i64 dp, .slice da rates.length dc] 28)) [.int .i64 0, .int .i64 0, .int .i64 0, .int .i64 0, .slice none 0 0] 28
    rw [show (w.alloc (.cells #[.int .i64 df, .int .i64 ds, .int .i64 dl, .int .i64 dp, .slice da rates.length dc] 28)).heap.size = w.heap.size + 1 by simp] at this
    exact this
  have HA : Hid (Below w.heap.size w (((w.alloc (.cells #[.int .i64 df, .int .i64 ds, .int .i64 dl, .int .i64 dp, .slice da rates.length dc] 28)).alloc (.cells #[.int .i64 0, .int .i64 0, .int .i64 0, .int .i64 0, .slice none 0 0] 28)))) := ext_alloc (ext_alloc (Below.refl _ _))
  go_enter Tryz.func21, Tryz.ntmps21
  as_aux_lemma =>
    go_upto_region 1 with (fail)
    generalize World.alloc (World.alloc w _) _ = w1 at HX HF HA ⊢
    obtain ⟨X, hX⟩ : ∃ X, X = w.heap.size := ⟨_, rfl⟩
    obtain ⟨F, hF⟩ : ∃ F, F = w.heap.size + 1 := ⟨_, rfl⟩
    rw [← hF] at HF
    rw [← hX] at HX
    have hwF : w.heap.size ≤ F := by omega
    have hwX : w.heap.size ≤ X := by omega
    have hXF : X ≠ F := by omega
    have hFX : F ≠ X := by omega
    simp only [← hF]
    simp only [← hX]
    clear hX hF
    have x0 := HX.out.cell 0 rfl
    have x1 := HX.out.cell 1 rfl
    have x2 := HX.out.cell 2 rfl
    have x3 := HX.out.cell 3 rfl
    have x4 := HX.out.cell 4 rfl
    as_aux_lemma =>
      go_wp2_with fail
      refine (HCA2.out w1 HA.out).mono ?_
      rintro e w2 ⟨rfl, hb2⟩
      have HX2 := Lib.hid (HX.out.below hb2)
      have HF2 := Lib.hid (HF.out.below hb2)
      have HB2 := Lib.hid (ext_trans HA.out hb2)
      clear hb2 HX HF HA HCA2 x0 x1 x2 x3 x4
      as_aux_lemma =>
        go_wp2_with fail
        refine (HWI.out w2).mono ?_
        rintro e w3 ⟨rfl, hw3⟩
        subst hw3
        clear HWI
        have x1 := HX2.out.cell 1 rfl
        have xf := HX2.out.fr 1
        as_aux_lemma =>
          go_wp2_with fail
          refine (raised_any ds part HGS.out HPB.out _).mono ?_
          rintro e w3 ⟨rfl, hw3⟩
          subst hw3
          have HX3 := Lib.hid (HX2.out.put 1 (.int .i64 (upD (ds * (1000 + part)) 1000)))
          have HF3 := Lib.hid (HF2.out.far (p := ⟨X, 1, none⟩) (u := .int .i64 (upD (ds * (1000 + part)) 1000)) hXF)
          have HB3 := Lib.hid (HB2.out.setCell (p := ⟨X, 1, none⟩) hwX (.int .i64 (upD (ds * (1000 + part)) 1000)))
          have hXl := HX2.out.lt
          clear HX2 HF2 HB2
          generalize hU : upD (ds * (1000 + part)) 1000 = U at HX3 HF3 HB3 HFIN HOK ⊢
          have HUU := Lib.hid hU
          clear hU
          as_aux_lemma =>
            go_upto_region 7 with (fail)
            clear x1 xf
            have hXl : X < (World.setCell w2 ⟨X, 1, none⟩ (.int .i64 U)).heap.size := by simpa using hXl
            generalize World.setCell w2 _ _ = w3 at HX3 HF3 HB3 hXl ⊢
            have x4 := HX3.out.cell 4 rfl
            as_aux_lemma =>
              go_wp2_with fail
              refine (cloneR_any w3 da rates.length dc rates (HR.out.below HB3.out)).mono ?_
              rintro e w4 ⟨v4, rfl, ho4, hb4⟩
              obtain ⟨na, nc, rfl⟩ := own_shape ho4
              have hX4 := HX3.out.below hb4
              have hF4 := HF3.out.below hb4
              have hv4 : ∀ b, (Value.slice na rates.length nc).ownBlock = some b → w3.heap.size ≤ b := fun b e => (ho4.lt b e).1
              clear x4
              have x4 := hX4.cell 4 rfl
              have xf := hX4.fr 4
              have HX5 := Lib.hid (hX4.put 4 (.slice na rates.length nc))
              have HF5 := Lib.hid (hF4.far (p := ⟨X, 4, none⟩) (u := .slice na rates.length nc) hXF)
              have HO5 := Lib.hid (own_set (p := ⟨X, 4, none⟩) (u := .slice na rates.length nc) ho4 (fun e => by have := hv4 X e; omega))
              have HB5 := Lib.hid ((ext_trans HB3.out hb4).setCell (p := ⟨X, 4, none⟩) hwX (.slice na rates.length nc))
              have HV := Lib.hid hv4
              have hwV : w.heap.size ≤ w3.heap.size := HB3.out.size
              clear ho4 hb4 hX4 hF4 HX3 HF3 HB3 hv4
              as_aux_lemma =>
                go_upto_region 8 with (fail)
                clear x4 xf
                generalize World.setCell w4 _ _ = w5 at HX5 HF5 HO5 HB5 ⊢
                generalize hVV : w3.heap.size = VB at HO5 HV hXl hwV
                clear hVV
                have x4 := HX5.out.cell 4 rfl
                as_aux_lemma =>
                  go_wp2_with fail
                  clear x4
                  go_loopw [31] (fun it wr => ∃ i : Nat, i ≤ rates.length ∧ it = .int .i64 i ∧ Hid (Blk wr X [.int .i64 df, .int .i64 U, .int .i64 dl, .int .i64 dp, .slice na rates.length nc] 28) ∧ Hid (Blk wr F [.int .i64 0, .int .i64 0, .int .i64 0, .int .i64 0, .slice none 0 0] 28) ∧ Hid (wr.ownsRow VB 51 3 (.slice na rates.length nc) rates.length (((raTo part rates i).map Rate.cells).flatten)) ∧ Hid (Below w.heap.size w wr)) (fun it _ => rates.length - (intOf it).toNat)
                  case atStart => exact ⟨0, Nat.zero_le _, rfl, HX5.out, HF5.out, HO5.out, HB5.out⟩
                  case round =>
                    clear HX5 HF5 HO5 HB5
                    obtain ⟨i, hin, rfl, HX, HF, HO, HB⟩ := hrel
                    by_cases hlt : i < rates.length
                    case pos =>
                      have hlti : (i : Int) < (rates.length : Int) := by omega
                      obtain ⟨g, rfl, hg0, hg1⟩ := own_pos HO.out (by omega)
                      have x4 := HX.out.cell 4 rfl
                      have p1 := own_field Rate.cells (fun _ => rfl) HO.out i 1 noRate (v := .int .i64 ((raTo part rates i).getD i noRate).price) (by rw [raTo_len]; exact hlt) (by omega) rfl
                      have pf : wr.frozen? ⟨g, i * 3 + 1, none⟩ = false := HO.out.frozenAt (i * 3 + 1)
                      have hpb := HGR.out i hlt
                      have HPUT := Lib.hid (own_put1 Rate.cells (fun _ => rfl) HO.out i 1 noRate (raz part (rates.getD i noRate)) (.int .i64 (upD ((rates.getD i noRate).price * (1000 + part)) 1000)) (by rw [raTo_len]; exact hlt) (by omega) (by rw [raTo_at part rates i hlt]; rfl))
                      rw [← raTo_succ part rates i hlt] at HPUT
                      rw [raTo_at part rates i hlt] at p1
                      have hgX : g ≠ X := by omega
                      have HXF : Hid (Blk wr F [.int .i64 0, .int .i64 0, .int .i64 0, .int .i64 0, .slice none 0 0] 28 → g ≠ F) := fun h e => own_blk (e := 51) (X := F) HO.out h (by decide) (by rw [← e]; rfl)
                      have hgF := HXF.out HF.out
                      have HX7 := Lib.hid (HX.out.far (p := ⟨g, i * 3 + 1, none⟩) (u := .int .i64 (upD ((rates.getD i noRate).price * (1000 + part)) 1000)) hgX)
                      have HF7 := Lib.hid (HF.out.far (p := ⟨g, i * 3 + 1, none⟩) (u := .int .i64 (upD ((rates.getD i noRate).price * (1000 + part)) 1000)) hgF)
                      have HB7 := Lib.hid (HB.out.setCell (p := ⟨g, i * 3 + 1, none⟩) (by show w.heap.size ≤ g; omega) (.int .i64 (upD ((rates.getD i noRate).price * (1000 + part)) 1000)))
                      have HM7 := Lib.hid (mul_bound hpb HPB.out)
                      have HPR := Lib.hid hpb
                      clear HX HF HO HB HXF hpb hgF
                      generalize (rates.getD i noRate).price = pr at p1 HPUT HX7 HF7 HB7 HM7 HPR
                      have HUP := Lib.hid (raised_any pr part HPR.out HPB.out)
                      generalize upD (pr * (1000 + part)) 1000 = UP at HUP HPUT HX7 HF7 HB7
                      as_aux_lemma =>
                        go_wp2_with fail
                        go_region_with (go_at_call 61; refine (HUP.out _).mono ?_; rintro e w' ⟨rfl, rfl⟩)
                        all_goals
                          go_wp2_with fail
                          go_roundw
                          case rel => exact ⟨i + 1, by omega, by go_num, HX7.out.below (ext_drew (Below.refl _ _)), HF7.out.below (ext_drew (Below.refl _ _)), HPUT.out, ext_drew HB7.out⟩
                          case measure => simp [intOf]; omega
                    have hii : i = rates.length := by omega
                    have hnn : ¬ (i : Int) < (rates.length : Int) := by omega
                    rw [hii, raTo_all] at HO
                    clear hii hlt
                    have y0 := HX.out.cell 0 rfl
                    have y1 := HX.out.cell 1 rfl
                    have y2 := HX.out.cell 2 rfl
                    have y3 := HX.out.cell 3 rfl
                    have y4 := HX.out.cell 4 rfl
                    as_aux_lemma =>
                      go_wp2_with fail
                      refine (HFIN.out wr VB na nc HO.out).mono ?_
                      rintro e w9 ⟨rfl, hb9⟩
                      have HX9 := Lib.hid (HX.out.below hb9)
                      have HF9 := Lib.hid (HF.out.below hb9)
                      have HO9 := Lib.hid (own_keep HO.out hb9)
                      have HB9 := Lib.hid (ext_trans HB.out hb9)
                      clear hb9 HX HF HO HB HFIN y0 y1 y2 y3 y4
                      by_cases hE0 : E = 0
                      · subst hE0
                        have HRA : Hid (w9.rangeAt X 0 [.int .i64 df, .int .i64 U, .int .i64 dl, .int .i64 dp, .slice na rates.length nc]) := HX9.out.range
                        have HTH : Hid (w9.there F 0 5) := HF9.out.th 5 (by decide)
                        have HR9 := Lib.hid (HF9.out.set5 (.int .i64 df) (.int .i64 U) (.int .i64 dl) (.int .i64 dp) (.slice na rates.length nc))
                        have hFF : ∀ b, (Value.slice na rates.length nc).ownBlock = some b → (some F : Option Nat) ≠ some b := fun b h1 h2 => by injection h2 with h2; subst h2; exact own_blk (e := 51) HO9.out HF9.out (by decide) h1
                        have HE : Hid (PP (.returned (.tuple #[.agg #[.int .i64 df, .int .i64 U, .int .i64 dl, .int .i64 dp, .slice na rates.length nc], .int .i64 0])) (w9.setCells F 0 [.int .i64 df, .int .i64 U, .int .i64 dl, .int .i64 dp, .slice na rates.length nc])) := HOK.out _ _ rfl ⟨na, rates.length, nc, rfl, by rw [List.length_map]; exact own_le (own_gb HO9.out (setCells_gb F _ 0) hFF) hwV, below_put hwF HB9.out _⟩
                        clear HX9 HF9 HO9 HB9 hFF
                        as_aux_lemma =>
                          go_wp2_with (first | (refine wpList_load_mid rfl 28 (.tmp 2) rfl X 0 rfl [.int .i64 df, .int .i64 U, .int .i64 dl, .int .i64 dp, .slice na rates.length nc] _ HRA.out Tryz.underlying28 rfl Tryz.deckSz ?_) | (refine wpList_store_mid rfl 28 (.tmp 4) (.tmp 54) rfl F 0 #[.int .i64 df, .int .i64 U, .int .i64 dl, .int .i64 dp, .slice na rates.length nc] rfl rfl HTH.out Tryz.deckSz (by simp [Value.oneCell']) ?_; generalize World.setCells w9 F 0 _ = W9 at HR9 HE ⊢))
                          refine bodyPost_ret (v := .tuple #[.agg #[.int .i64 df, .int .i64 U, .int .i64 dl, .int .i64 dp, .slice na rates.length nc], .int .i64 0]) ?_ rfl HE.out
                          exact results_cell2 (t := 4) (u := 5) (by rfl) _ _ _ Tryz.isAgg28 Tryz.sizeOf28 (by rfl) [.int .i64 df, .int .i64 U, .int .i64 dl, .int .i64 dp, .slice na rates.length nc] rfl (fun j v hj => HR9.out.cell j hj)
                      have hEb : (E == 0) = false := beq_eq_false_iff_ne.2 hE0
                      have HTH : Hid (w9.there F 0 5) := HF9.out.th 5 (by decide)
                      have HR9 := Lib.hid (HF9.out.set5 (.int .i64 0) (.int .i64 0) (.int .i64 0) (.int .i64 0) (.slice none 0 0))
                      have HE : Hid (PP (.returned (.tuple #[.agg #[.int .i64 0, .int .i64 0, .int .i64 0, .int .i64 0, .slice none 0 0], .int .i64 E])) (w9.setCells F 0 [.int .i64 0, .int .i64 0, .int .i64 0, .int .i64 0, .slice none 0 0])) := HBAD.out _ _ hE0 ⟨none, 0, 0, rfl, zero_own _ _, below_put hwF HB9.out _⟩
                      clear HF9 HB9
                      as_aux_lemma =>
                        go_wp2_with (first | (refine wpList_store_mid rfl 28 (.tmp 4) (.tmp 52) rfl F 0 #[.int .i64 0, .int .i64 0, .int .i64 0, .int .i64 0, .slice none 0 0] rfl rfl HTH.out Tryz.deckSz (by simp [Value.oneCell']) ?_; generalize World.setCells w9 F 0 _ = W9 at HR9 HE ⊢))
                        refine bodyPost_ret (v := .tuple #[.agg #[.int .i64 0, .int .i64 0, .int .i64 0, .int .i64 0, .slice none 0 0], .int .i64 E]) ?_ rfl HE.out
                        exact results_cell2 (t := 4) (u := 5) (by rfl) _ _ _ Tryz.isAgg28 Tryz.sizeOf28 (by rfl) [.int .i64 0, .int .i64 0, .int .i64 0, .int .i64 0, .slice none 0 0] rfl (fun j v hj => HR9.out.cell j hj)
end Go.Proofs.YtacekbbndamkmaaGreatDoor

set_option linter.unusedVariables false
set_option linter.unusedSimpArgs false
namespace Go.Proofs.YtacekbbndamkmaaGreatDoor
open Go.RowKit

def all13 : List (List UInt8) := [[], [49], [49, 50], [49, 50, 48], [52], [52, 57], [52, 57, 49], [52, 57, 51], [52, 57, 51, 48], [52, 57, 51, 48, 49], [52, 57, 52], [53, 53], [53, 53, 49]]
def all12 : List (List UInt8) := [[52], [52, 57], [52, 57, 48], [52, 57, 49], [52, 57, 50], [52, 57, 51], [52, 57, 52], [52, 57, 53], [52, 57, 54], [52, 57, 55], [52, 57, 56], [52, 57, 57]]
theorem all13_short (i : Nat) : (all13.getD i []).length ≤ 100 := by
  by_cases h : i < 13
  · have : ∀ j : Fin 13, (all13.getD j.val []).length ≤ 100 := by decide
    exact this ⟨i, h⟩
  · rw [List.getD_eq_getElem?_getD, List.getElem?_eq_none (by show 13 ≤ i; omega)]; exact Nat.zero_le _
theorem all12_short (i : Nat) : (all12.getD i []).length ≤ 100 := by
  by_cases h : i < 12
  · have : ∀ j : Fin 12, (all12.getD j.val []).length ≤ 100 := by decide
    exact this ⟨i, h⟩
  · rw [List.getD_eq_getElem?_getD, List.getElem?_eq_none (by show 12 ≤ i; omega)]; exact Nat.zero_le _
/-- What lies in memory while a deck is made: the place of the result, the deck's box, the names. -/
structure RD (S F D A n : Nat) (names : List (List UInt8)) (f s l st : Int) (v : Value) (w : World) : Prop where
  room : Room w F 5
  box : DBox w D f s l st v
  nam : Names w A n names
theorem RD.keeps {S F D A n : Nat} {names : List (List UInt8)} {f s l st : Int} {v : Value} {w w' : World} (h : RD S F D A n names f s l st v w) (hk : Keeps S w w') (h1 : F ≠ S) (h2 : D ≠ S) (h3 : A ≠ S) : RD S F D A n names f s l st v w' :=
  ⟨h.room.keeps hk h1, h.box.keeps hk h2, h.nam.keeps hk h3⟩
theorem RD.grown {S F D A n : Nat} {names : List (List UInt8)} {f s l st : Int} {v : Value} {w w' : World} {row : Option Nat} (h : RD S F D A n names f s l st v w) (hg : w.grownBy w' row) (h1 : row ≠ some F) (h2 : row ≠ some D) (h3 : row ≠ some A) : RD S F D A n names f s l st v w' :=
  ⟨h.room.grown hg h1, h.box.grown hg h2, h.nam.grown hg h3⟩
theorem RD.far {S F D A n : Nat} {names : List (List UInt8)} {f s l st : Int} {v : Value} {w : World} (h : RD S F D A n names f s l st v w) {B o : Nat} (hD : B ≠ D) (hA : B ≠ A) (u : Value) : RD S F D A n names f s l st v (w.setCell ⟨B, o, none⟩ u) :=
  ⟨h.room.set B o u, h.box.far hD u, h.nam.set hA u⟩
theorem RD.setv {S F D A n : Nat} {names : List (List UInt8)} {f s l st : Int} {v : Value} {w : World} (h : RD S F D A n names f s l st v w) (hA : D ≠ A) (u : Value) : RD S F D A n names f s l st u (w.setCell ⟨D, 4, none⟩ u) :=
  ⟨h.room.set D 4 u, h.box.s4 u, h.nam.set hA u⟩

set_option maxRecDepth 100000 in
set_option maxHeartbeats 4000000 in
theorem rightDeck_any (S k : Nat) (w : World) (h : StreamOk w S k) (hk : k ≤ 1000000) (f : Int) (hf : -2000000000000 ≤ f ∧ f ≤ 2000000000000) : Calls Tryz.prog 36 #[.pointer (some ⟨S, 0, none⟩), .int .i64 f] w (RDeckPost S (k + 43) w) := by
  obtain ⟨i1, hi1, hy0, hy1, hy2⟩ := info_parts Tryz.infoRate
  have HS := Lib.hid h
  have hSl := h.lt
  clear h
  go_enter Tryz.func36, Tryz.ntmps36
  go_upto_region 1 with (fail)
  have HF0 : Hid (Room (w.alloc (.cells #[.int .i64 0, .int .i64 0, .int .i64 0, .int .i64 0, .slice none 0 0] 28)) w.heap.size 5) := ⟨by simp, box_th (heap_new _ _)⟩
  have HS0 : Hid (StreamOk (w.alloc (.cells #[.int .i64 0, .int .i64 0, .int .i64 0, .int .i64 0, .slice none 0 0] 28)) S k) := HS.out.below (ext_alloc (Below.refl _ _))
  have HK0 : Hid (Keeps S w (w.alloc (.cells #[.int .i64 0, .int .i64 0, .int .i64 0, .int .i64 0, .slice none 0 0] 28))) := (Keeps.refl _ _).alloc _
  generalize w.alloc (.cells #[.int .i64 0, .int .i64 0, .int .i64 0, .int .i64 0, .slice none 0 0] 28) = w0 at HF0 HS0 HK0 ⊢
  obtain ⟨F, hF⟩ : ∃ F, F = w.heap.size := ⟨_, rfl⟩
  rw [← hF] at HF0 ⊢
  have hFS : F ≠ S := by omega
  have hSF : S + 1 ≤ F := by omega
  have HFW := Lib.hid hF
  clear hF HS
  as_aux_lemma =>
    go_wp2_with (first | (refine wpList_val rfl (bs_i4 _ (fun _ => rfl) _ _ _ _ _ _ rfl) ?_))
    refine (pick_lit S k [0, 0, 5, 100] (fun x => 0 ≤ x ∧ x ≤ 100) _ _ _ HS0.out (by omega) rfl rfl (by decide) (by decide) (by decide)).mono ?_
    rintro e w1 ⟨ps, rfl, ⟨ps0, ps1⟩, hst1, hk1⟩
    have HS1 := Lib.hid hst1
    have HK1 := Lib.hid (HK0.out.trans hk1)
    have HF1 := Lib.hid (HF0.out.keeps hk1 hFS)
    clear hst1 hk1 HS0 HK0 HF0
    as_aux_lemma =>
      go_wp2_with (first | (refine wpList_val rfl (bs_i3 _ (fun _ => rfl) _ _ _ _ _ rfl) ?_))
      refine (pick_lit S (k + 1) [0, 30000, 60000] (fun x => 0 ≤ x ∧ x ≤ 60000) _ _ _ HS1.out (by omega) rfl rfl (by decide) (by decide) (by decide)).mono ?_
      rintro e w2 ⟨pl, rfl, ⟨pl0, pl1⟩, hst2, hk2⟩
      have HS2 := Lib.hid hst2
      have HK2 := Lib.hid (HK1.out.trans hk2)
      have HF2 := Lib.hid (HF1.out.keeps hk2 hFS)
      clear hst2 hk2 HS1 HK1 HF1
      as_aux_lemma =>
        go_wp2_with (first | (refine wpList_val rfl (bs_i3 _ (fun _ => rfl) _ _ _ _ _ rfl) ?_))
        refine (pick_lit S (k + 1 + 1) [1, 1000, 60000] (fun x => 1 ≤ x ∧ x ≤ 60000) _ _ _ HS2.out (by omega) rfl rfl (by decide) (by decide) (by decide)).mono ?_
        rintro e w3 ⟨pt, rfl, ⟨pt0, pt1⟩, hst3, hk3⟩
        have HS3 := Lib.hid hst3
        have HK3 := Lib.hid (HK2.out.trans hk3)
        have HF3 := Lib.hid (HF2.out.keeps hk3 hFS)
        clear hst3 hk3 HS2 HK2 HF2
        as_aux_lemma =>
          go_upto_region 2 with (fail)
          have HD4 : Hid (DBox (w3.alloc (.cells #[.int .i64 f, .int .i64 ps, .int .i64 pl, .int .i64 pt, .slice none 0 0] 28)) w3.heap.size f ps pl pt (.slice none 0 0)) := ⟨by simp, by go_simp, by go_simp, by go_simp, by go_simp, by go_simp, fun j => by go_simp⟩
          have HF4 : Hid (Room (w3.alloc (.cells #[.int .i64 f, .int .i64 ps, .int .i64 pl, .int .i64 pt, .slice none 0 0] 28)) F 5) := HF3.out.below (ext_alloc (Below.refl _ _))
          have HS4 : Hid (StreamOk (w3.alloc (.cells #[.int .i64 f, .int .i64 ps, .int .i64 pl, .int .i64 pt, .slice none 0 0] 28)) S (k + 3)) := HS3.out.below (ext_alloc (Below.refl _ _))
          have HK4 : Hid (Keeps S w (w3.alloc (.cells #[.int .i64 f, .int .i64 ps, .int .i64 pl, .int .i64 pt, .slice none 0 0] 28))) := HK3.out.alloc _
          have hS3 := HS3.out.lt
          have hw3 := HK3.out.size
          have hF3 := HF3.out.lt
          generalize w3.alloc (.cells #[.int .i64 f, .int .i64 ps, .int .i64 pl, .int .i64 pt, .slice none 0 0] 28) = w4 at HD4 HF4 HS4 HK4 ⊢
          obtain ⟨D, hD⟩ : ∃ D, D = w3.heap.size := ⟨_, rfl⟩
          rw [← hD] at HD4 ⊢
          have hDS : D ≠ S := by omega
          have hFD : F ≠ D := by omega
          have hDw : w.heap.size ≤ D := by omega
          clear hD hw3 hF3 hS3 HK3 HF3 HS3
          as_aux_lemma =>
            go_wp2_with (first | (refine wpList_val rfl (bs_s13 _ (fun _ => rfl) _ _ _ _ _ _ _ _ _ _ _ _ _ _ _ rfl) ?_))
            have hS4 := HS4.out.lt
            have HN5 : Hid (Names (w4.alloc (.cells #[.string ⟨#[]⟩, .string ⟨#[49]⟩, .string ⟨#[49, 50]⟩, .string ⟨#[49, 50, 48]⟩, .string ⟨#[52]⟩, .string ⟨#[52, 57]⟩, .string ⟨#[52, 57, 49]⟩, .string ⟨#[52, 57, 51]⟩, .string ⟨#[52, 57, 51, 48]⟩, .string ⟨#[52, 57, 51, 48, 49]⟩, .string ⟨#[52, 57, 52]⟩, .string ⟨#[53, 53]⟩, .string ⟨#[53, 53, 49]⟩] 9)) w4.heap.size 13 all13) := names_new w4 all13 _ rfl _ rfl
            have HK45 : Hid (Keeps S w4 (w4.alloc (.cells #[.string ⟨#[]⟩, .string ⟨#[49]⟩, .string ⟨#[49, 50]⟩, .string ⟨#[49, 50, 48]⟩, .string ⟨#[52]⟩, .string ⟨#[52, 57]⟩, .string ⟨#[52, 57, 49]⟩, .string ⟨#[52, 57, 51]⟩, .string ⟨#[52, 57, 51, 48]⟩, .string ⟨#[52, 57, 51, 48, 49]⟩, .string ⟨#[52, 57, 52]⟩, .string ⟨#[53, 53]⟩, .string ⟨#[53, 53, 49]⟩] 9))) := (Keeps.refl _ _).alloc _
            have HS5 : Hid (StreamOk (w4.alloc (.cells #[.string ⟨#[]⟩, .string ⟨#[49]⟩, .string ⟨#[49, 50]⟩, .string ⟨#[49, 50, 48]⟩, .string ⟨#[52]⟩, .string ⟨#[52, 57]⟩, .string ⟨#[52, 57, 49]⟩, .string ⟨#[52, 57, 51]⟩, .string ⟨#[52, 57, 51, 48]⟩, .string ⟨#[52, 57, 51, 48, 49]⟩, .string ⟨#[52, 57, 52]⟩, .string ⟨#[53, 53]⟩, .string ⟨#[53, 53, 49]⟩] 9)) S (k + 3)) := HS4.out.below (ext_alloc (Below.refl _ _))
            generalize w4.alloc (.cells #[.string ⟨#[]⟩, .string ⟨#[49]⟩, .string ⟨#[49, 50]⟩, .string ⟨#[49, 50, 48]⟩, .string ⟨#[52]⟩, .string ⟨#[52, 57]⟩, .string ⟨#[52, 57, 49]⟩, .string ⟨#[52, 57, 51]⟩, .string ⟨#[52, 57, 51, 48]⟩, .string ⟨#[52, 57, 51, 48, 49]⟩, .string ⟨#[52, 57, 52]⟩, .string ⟨#[53, 53]⟩, .string ⟨#[53, 53, 49]⟩] 9) = w5 at HN5 HK45 HS5 ⊢
            have hD4 := HD4.out.lt
            have hF4 := HF4.out.lt
            obtain ⟨A, hA⟩ : ∃ A, A = w4.heap.size := ⟨_, rfl⟩
            rw [← hA] at HN5 ⊢
            have hAS : A ≠ S := by omega
            have hAD : D ≠ A := by omega
            have hAF : A ≠ F := by omega
            have HRD5 : Hid (RD S F D A 13 all13 f ps pl pt (.slice none 0 0) w5) := ⟨HF4.out.keeps HK45.out hFS, HD4.out.keeps HK45.out hDS, HN5.out⟩
            have HK5 := Lib.hid (HK4.out.trans HK45.out)
            have hAw : w.heap.size ≤ A := by omega
            clear hA hS4 hD4 hF4 HN5 HK45 HS4 HD4 HF4 HK4
            refine (flip_any S (k + 3) 4 _ HS5.out (by omega) (by decide) (by decide)).mono ?_
            rintro e w6 ⟨fl, rfl, hst6, hk6⟩
            have HS6 := Lib.hid hst6
            have HK6 := Lib.hid (HK5.out.trans hk6)
            have HR6 := Lib.hid (HRD5.out.keeps hk6 hFS hDS hAS)
            clear hst6 hk6 HS5 HK5 HRD5
            as_aux_lemma =>
              go_upto_if 23 with (fail)
              go_cut [6] (fun v wx => ∃ (B n : Nat) (names : List (List UInt8)), v = .slice (some ⟨B, 0, none⟩) n n ∧ n ≤ 13 ∧ B ≠ S ∧ D ≠ B ∧ B ≠ F ∧ w.heap.size ≤ B ∧ Hid (∀ i, (names.getD i []).length ≤ 100) ∧ Hid (RD S F D B n names f ps pl pt (.slice none 0 0) wx) ∧ Hid (StreamOk wx S (k + 4)) ∧ Hid (Keeps S w wx))
              case first =>
                cases fl
                · skip
                  as_aux_lemma =>
                    go_wp2_with fail
                    go_meet
                    exact ⟨A, 13, all13, rfl, by omega, hAS, hAD, hAF, hAw, all13_short, HR6.out, HS6.out, HK6.out⟩
                · skip
                  as_aux_lemma =>
                    go_wp2_with (first | (refine wpList_val rfl (bs_s12 _ (fun _ => rfl) _ _ _ _ _ _ _ _ _ _ _ _ _ _ rfl) ?_))
                    have HN7 : Hid (Names (w6.alloc (.cells #[.string ⟨#[52]⟩, .string ⟨#[52, 57]⟩, .string ⟨#[52, 57, 48]⟩, .string ⟨#[52, 57, 49]⟩, .string ⟨#[52, 57, 50]⟩, .string ⟨#[52, 57, 51]⟩, .string ⟨#[52, 57, 52]⟩, .string ⟨#[52, 57, 53]⟩, .string ⟨#[52, 57, 54]⟩, .string ⟨#[52, 57, 55]⟩, .string ⟨#[52, 57, 56]⟩, .string ⟨#[52, 57, 57]⟩] 9)) w6.heap.size 12 all12) := names_new w6 all12 _ rfl _ rfl
                    have HK67 : Hid (Keeps S w6 (w6.alloc (.cells #[.string ⟨#[52]⟩, .string ⟨#[52, 57]⟩, .string ⟨#[52, 57, 48]⟩, .string ⟨#[52, 57, 49]⟩, .string ⟨#[52, 57, 50]⟩, .string ⟨#[52, 57, 51]⟩, .string ⟨#[52, 57, 52]⟩, .string ⟨#[52, 57, 53]⟩, .string ⟨#[52, 57, 54]⟩, .string ⟨#[52, 57, 55]⟩, .string ⟨#[52, 57, 56]⟩, .string ⟨#[52, 57, 57]⟩] 9))) := (Keeps.refl _ _).alloc _
                    have HS7 : Hid (StreamOk (w6.alloc (.cells #[.string ⟨#[52]⟩, .string ⟨#[52, 57]⟩, .string ⟨#[52, 57, 48]⟩, .string ⟨#[52, 57, 49]⟩, .string ⟨#[52, 57, 50]⟩, .string ⟨#[52, 57, 51]⟩, .string ⟨#[52, 57, 52]⟩, .string ⟨#[52, 57, 53]⟩, .string ⟨#[52, 57, 54]⟩, .string ⟨#[52, 57, 55]⟩, .string ⟨#[52, 57, 56]⟩, .string ⟨#[52, 57, 57]⟩] 9)) S (k + 4)) := HS6.out.below (ext_alloc (Below.refl _ _))
                    have hS6 := HS6.out.lt
                    have hD6 := HR6.out.box.lt
                    have hF6 := HR6.out.room.lt
                    have hw6 := HK6.out.size
                    generalize w6.alloc (.cells #[.string ⟨#[52]⟩, .string ⟨#[52, 57]⟩, .string ⟨#[52, 57, 48]⟩, .string ⟨#[52, 57, 49]⟩, .string ⟨#[52, 57, 50]⟩, .string ⟨#[52, 57, 51]⟩, .string ⟨#[52, 57, 52]⟩, .string ⟨#[52, 57, 53]⟩, .string ⟨#[52, 57, 54]⟩, .string ⟨#[52, 57, 55]⟩, .string ⟨#[52, 57, 56]⟩, .string ⟨#[52, 57, 57]⟩] 9) = w7 at HN7 HK67 HS7 ⊢
                    have HR7 : Hid (RD S F D w6.heap.size 12 all12 f ps pl pt (.slice none 0 0) w7) := ⟨HR6.out.room.keeps HK67.out hFS, HR6.out.box.keeps HK67.out hDS, HN7.out⟩
                    go_meet
                    exact ⟨w6.heap.size, 12, all12, rfl, by omega, by omega, by omega, by omega, by omega, all12_short, HR7.out, HS7.out, HK6.out.trans HK67.out⟩
              case rest =>
                clear HS6 HK6 HR6 hAS hAD hAF hAw
                obtain ⟨B, n, names, rfl, hn, hBS, hDB, hBF, hBw, HSH, HR7, HS7, HK7⟩ := hcut
                skip
                as_aux_lemma =>
                  go_wp2_with fail
                  have hSc := HS7.out.lt
                  have hFc := HR7.out.room.lt
                  have hDc := HR7.out.box.lt
                  have hBc := HR7.out.nam.lt
                  obtain ⟨WB, hWB⟩ : ∃ x, x = wc.heap.size := ⟨_, rfl⟩
                  have hwW : w.heap.size ≤ WB := by rw [hWB]; exact HK7.out.size
                  rw [← hWB] at hSc hFc hDc hBc
                  have hWc : WB ≤ wc.heap.size := Nat.le_of_eq hWB
                  clear hWB
                  go_loopw [27] (fun it wr => ∃ (i : Nat) (v : Value) (rates : List Rate), i ≤ n ∧ it = .int .i64 i ∧ rates.length ≤ i ∧ Hid (RatesIn rates) ∧ Hid (wr.ownsRow WB 51 3 v rates.length ((rates.map Rate.cells).flatten)) ∧ WB ≤ wr.heap.size ∧ Hid (RD S F D B n names f ps pl pt v wr) ∧ Hid (StreamOk wr S (k + 4 + 3 * i)) ∧ Hid (Keeps S w wr)) (fun it _ => n - (intOf it).toNat)
                  case atStart => exact ⟨0, .slice none 0 0, [], Nat.zero_le _, rfl, Nat.le_refl _, (fun r hr => by cases hr), World.ownsRow_nil _ _ _ _, hWc, HR7.out, HS7.out, HK7.out⟩
                  case round =>
                    clear HR7 HS7 HK7
                    obtain ⟨i, v, rates, hi, rfl, hrl, HRI, HOW, hWr, HR, HSr, HKr⟩ := hrel
                    by_cases hlt : i < n
                    · have c0 := HR.out.nam.at_ i hlt
                      have hpl := HSH.out i
                      generalize names.getD i [] = nm at c0 hpl
                      as_aux_lemma =>
                        go_wp2_with fail
                        refine (flip_any S (k + 4 + 3 * i) 3 _ HSr.out (by omega) (by decide) (by decide)).mono ?_
                        rintro e w8 ⟨f1, rfl, hst8, hk8⟩
                        have HS8 := Lib.hid hst8
                        have HK8 := Lib.hid (HKr.out.trans hk8)
                        have HR8 := Lib.hid (HR.out.keeps hk8 hFS hDS hBS)
                        have HO8 := Lib.hid (own_keeps HOW.out hk8 hSc)
                        have hW8 : WB ≤ w8.heap.size := Nat.le_trans hWr hk8.size
                        clear hst8 hk8 HSr HKr HR HOW c0 hWr
                        cases f1
                        case true =>
                          skip
                          as_aux_lemma =>
                            go_wp2_with fail
                            go_roundw
                            case rel => exact ⟨i + 1, v, rates, by omega, by go_num, by omega, HRI.out, HO8.out, hW8, HR8.out, HS8.out.mono (by omega), HK8.out⟩
                            case measure => simp [intOf]; omega
                        skip
                        as_aux_lemma =>
                          go_wp2_with (first | (refine wpList_val rfl (bs_i5 _ (fun _ => rfl) _ _ _ _ _ _ _ rfl) ?_))
                          refine (pick_lit S (k + 4 + 3 * i + 1) [0, 50, 100, 100, 1000] (fun x => 0 ≤ x ∧ x ≤ 1000) _ _ _ HS8.out (by omega) rfl rfl (by decide) (by decide) (by decide)).mono ?_
                          rintro e w9 ⟨pr, rfl, ⟨pr0, pr1⟩, hst9, hk9⟩
                          have HS9 := Lib.hid hst9
                          have HK9 := Lib.hid (HK8.out.trans hk9)
                          have HR9 := Lib.hid (HR8.out.keeps hk9 hFS hDS hBS)
                          have HO9 := Lib.hid (own_keeps HO8.out hk9 hSc)
                          have hW9 : WB ≤ w9.heap.size := Nat.le_trans hW8 hk9.size
                          clear hst9 hk9 HS8 HK8 HR8 HO8 hW8
                          as_aux_lemma =>
                            go_upto_region 10 with (fail)
                            have HS10 : Hid (StreamOk (w9.alloc (.cells #[.string ⟨nm.toArray⟩, .int .i64 pr, .bool false] 51)) S (k + 4 + 3 * i + 2)) := HS9.out.below (ext_alloc (Below.refl _ _))
                            have hk10 : Keeps S w9 (w9.alloc (.cells #[.string ⟨nm.toArray⟩, .int .i64 pr, .bool false] 51)) := (Keeps.refl _ _).alloc _
                            have HK10 := Lib.hid (HK9.out.trans hk10)
                            have HR10 := Lib.hid (HR9.out.keeps hk10 hFS hDS hBS)
                            have HO10 := Lib.hid (own_keeps HO9.out hk10 hSc)
                            obtain ⟨a0, a1, a2⟩ : (w9.alloc (.cells #[.string ⟨nm.toArray⟩, .int .i64 pr, .bool false] 51)).cell? ⟨w9.heap.size, 0, none⟩ = some (.string ⟨nm.toArray⟩) ∧ (w9.alloc (.cells #[.string ⟨nm.toArray⟩, .int .i64 pr, .bool false] 51)).cell? ⟨w9.heap.size, 1, none⟩ = some (.int .i64 pr) ∧ (w9.alloc (.cells #[.string ⟨nm.toArray⟩, .int .i64 pr, .bool false] 51)).cell? ⟨w9.heap.size, 2, none⟩ = some (.bool false) := ⟨by go_simp, by go_simp, by go_simp⟩
                            have af : ∀ j, (w9.alloc (.cells #[.string ⟨nm.toArray⟩, .int .i64 pr, .bool false] 51)).frozen? ⟨w9.heap.size, j, none⟩ = false := fun j => by go_simp
                            have hRl : w9.heap.size < (w9.alloc (.cells #[.string ⟨nm.toArray⟩, .int .i64 pr, .bool false] 51)).heap.size := by simp
                            have hRD : w9.heap.size ≠ D := by have := HR9.out.box.lt; omega
                            have hRB : w9.heap.size ≠ B := by have := HR9.out.nam.lt; omega
                            have hRS : w9.heap.size ≠ S := by have := HS9.out.lt; omega
                            have hRv : v.ownBlock ≠ some w9.heap.size := fun e => by have := (HO9.out.lt _ e).2; omega
                            have hRw : w.heap.size ≤ w9.heap.size := HK9.out.size
                            generalize w9.alloc (.cells #[.string ⟨nm.toArray⟩, .int .i64 pr, .bool false] 51) = w10 at HS10 hk10 HK10 HR10 HO10 a0 a1 a2 af hRl ⊢
                            have hW10 : WB ≤ w10.heap.size := Nat.le_trans hW9 hk10.size
                            generalize w9.heap.size = R at a0 a1 a2 af hRl hRD hRB hRS hRv hRw ⊢
                            clear hk10 HS9 HK9 HR9 HO9 hW9
                            as_aux_lemma =>
                              go_wp2_with fail
                              refine (flip_any S (k + 4 + 3 * i + 2) 6 _ HS10.out (by omega) (by decide) (by decide)).mono ?_
                              rintro e w11 ⟨f2, rfl, hst11, hk11⟩
                              have HS11 := Lib.hid hst11
                              have HK11 := Lib.hid (HK10.out.trans hk11)
                              have HR11 := Lib.hid (HR10.out.keeps hk11 hFS hDS hBS)
                              have HO11 := Lib.hid (own_keeps HO10.out hk11 hSc)
                              have e0 := (hk11.cell (p := ⟨R, 0, none⟩) hRl hRS).trans a0
                              have e1 := (hk11.cell (p := ⟨R, 1, none⟩) hRl hRS).trans a1
                              have e2 := (hk11.cell (p := ⟨R, 2, none⟩) hRl hRS).trans a2
                              have ef : ∀ j, w11.frozen? ⟨R, j, none⟩ = false := fun j => (hk11.frozen (p := ⟨R, j, none⟩) hRl hRS).trans (af j)
                              have hW11 : WB ≤ w11.heap.size := Nat.le_trans hW10 hk11.size
                              have hR11 : R < w11.heap.size := Nat.lt_of_lt_of_le hRl hk11.size
                              clear hst11 hk11 HS10 HK10 HR10 HO10 hW10 a0 a1 a2 af hRl
                              cases f2
                              · skip
                                as_aux_lemma =>
                                  go_upto_region 12 with (fail)
                                  obtain ⟨wX, rfl⟩ : ∃ wX : World, wX = w11 := ⟨_, rfl⟩
                                  have HSX := HS11
                                  have HKX := HK11
                                  have HRX := HR11
                                  have HOX := HO11
                                  clear HS11 HK11 HR11 HO11
                                  obtain ⟨hDl, z0, z1, z2, z3, z4, zf⟩ := HRX.out.box
                                  have hk12 : Keeps S wX (wX.alloc (.cells #[.string ⟨nm.toArray⟩, .int .i64 pr, .bool false] 51)) := (Keeps.refl _ _).alloc _
                                  have HOA := Lib.hid (HOX.out.alloc (.cells #[.string ⟨nm.toArray⟩, .int .i64 pr, .bool false] 51))
                                  have HRA := Lib.hid (HRX.out.keeps hk12 hFS hDS hBS)
                                  have hvF : v.ownBlock ≠ some F := fun e => by have := (HOX.out.lt _ e).1; omega
                                  have hvD : v.ownBlock ≠ some D := fun e => by have := (HOX.out.lt _ e).1; omega
                                  have hvB : v.ownBlock ≠ some B := fun e => by have := (HOX.out.lt _ e).1; omega
                                  have hvS : ∀ b, v.ownBlock = some b → WB ≤ b := fun b e => (HOX.out.lt _ e).1
                                  clear hk12
                                  as_aux_lemma =>
                                    go_wp2_with (first | (refine wpList_val rfl (bs_r1 _ _ _ 45 ⟨nm.toArray⟩ pr false rfl rfl) ?_) | (at_builtin; refine wpList_append_own_at _ rfl (.tmp 44) (.tmp 46) 26 rfl WB 51 i1 _ 3 32 Tryz.underlying26 hi1 hy0 hy1 hy2 rfl (by omega) v rates.length _ rfl HOA.out ⟨wX.heap.size, 0, none⟩ 1 1 [.string ⟨nm.toArray⟩, .int .i64 pr, .bool false] rfl rfl (fun j u hj => by rw [add0]; match j, hj with | 0, hj => simp at hj; subst hj; go_simp | 1, hj => simp at hj; subst hj; go_simp | 2, hj => simp at hj; subst hj; go_simp) (by simp [Value.oneCell']) (by simp only [maxLen]; omega) (by omega) (by simp; omega) ?_; intro v12 w12 hown12 hgr12 _ _; have HR12 := Lib.hid (HRA.out.grown hgr12 hvF hvD hvB); obtain ⟨a12, c12, rfl⟩ := own_shape hown12; clear z0 z1 z2 z3 z4 zf; obtain ⟨hDm, z0, z1, z2, z3, z4, zf⟩ := HR12.out.box))
                                    have HK12 : Hid (Keeps S w w12) := HKX.out.grown hgr12 (fun b e => Nat.le_trans hwW (hvS b e))
                                    have HS12 : Hid (StreamOk w12 S (k + 4 + 3 * i + 3)) := HSX.out.upto (upto_grown hgr12 (by omega) (fun b e => by have := hvS b e; omega))
                                    have hW12 : WB ≤ w12.heap.size := by have := hgr12.size; simp at this; omega
                                    have HO12 : Hid (w12.ownsRow WB 51 3 (.slice a12 (rates.length + 1) c12) (rates ++ [Rate.mk nm pr false]).length (((rates ++ [Rate.mk nm pr false]).map Rate.cells).flatten)) := by
                                      show World.ownsRow _ _ _ _ _ _ _
                                      rw [rcells_snoc, List.length_append]
                                      exact hown12
                                    have hv12 : (Value.slice a12 (rates.length + 1) c12).ownBlock ≠ some D := fun e => by have := (HO12.out.lt _ e).1; omega
                                    go_roundw
                                    case rel => exact ⟨i + 1, .slice a12 (rates.length + 1) c12, rates ++ [Rate.mk nm pr false], by omega, by go_num, by rw [List.length_append, List.length_singleton]; omega, rates_snoc HRI.out hpl (by show -2000000000000 ≤ (pr : Int); omega) (by show (pr : Int) ≤ 2000000000000; omega), own_set HO12.out hv12, by simpa using hW12, HR12.out.setv hDB _, (HS12.out.mono (by omega)).upto ((Below.refl (S + 1) w12).setCell (p := ⟨D, 4, none⟩) (by show S + 1 ≤ D; omega) _), HK12.out.setCell_new (p := ⟨D, 4, none⟩) hDw _⟩
                                    case measure => simp [intOf]; omega
                              · have HSY : Hid (StreamOk ((w11.setCell ⟨R, 1, none⟩ (.int .i64 0)).setCell ⟨R, 2, none⟩ (.bool true)) S (k + 4 + 3 * i + 3)) := HS11.out.upto (((Below.refl (S + 1) w11).setCell (p := ⟨R, 1, none⟩) (by show S + 1 ≤ R; omega) _).setCell (p := ⟨R, 2, none⟩) (by show S + 1 ≤ R; omega) _)
                                have HKY : Hid (Keeps S w ((w11.setCell ⟨R, 1, none⟩ (.int .i64 0)).setCell ⟨R, 2, none⟩ (.bool true))) := (HK11.out.setCell_new (p := ⟨R, 1, none⟩) hRw _).setCell_new (p := ⟨R, 2, none⟩) hRw _
                                have HRY : Hid (RD S F D B n names f ps pl pt v ((w11.setCell ⟨R, 1, none⟩ (.int .i64 0)).setCell ⟨R, 2, none⟩ (.bool true))) := (HR11.out.far hRD hRB _).far hRD hRB _
                                have HOY : Hid (((w11.setCell ⟨R, 1, none⟩ (.int .i64 0)).setCell ⟨R, 2, none⟩ (.bool true)).ownsRow WB 51 3 v rates.length ((rates.map Rate.cells).flatten)) := own_set (own_set HO11.out hRv) hRv
                                have g0 : ((w11.setCell ⟨R, 1, none⟩ (.int .i64 0)).setCell ⟨R, 2, none⟩ (.bool true)).cell? ⟨R, 0, none⟩ = some (.string ⟨nm.toArray⟩) := by go_simp
                                have g1 : ((w11.setCell ⟨R, 1, none⟩ (.int .i64 0)).setCell ⟨R, 2, none⟩ (.bool true)).cell? ⟨R, 1, none⟩ = some (.int .i64 0) := by go_simp
                                have g2 : ((w11.setCell ⟨R, 1, none⟩ (.int .i64 0)).setCell ⟨R, 2, none⟩ (.bool true)).cell? ⟨R, 2, none⟩ = some (.bool true) := by go_simp
                                have hWX : WB ≤ ((w11.setCell ⟨R, 1, none⟩ (.int .i64 0)).setCell ⟨R, 2, none⟩ (.bool true)).heap.size := by simpa using hW11
                                have hRX : R < ((w11.setCell ⟨R, 1, none⟩ (.int .i64 0)).setCell ⟨R, 2, none⟩ (.bool true)).heap.size := by simpa using hR11
                                skip
                                as_aux_lemma =>
                                  go_upto_region 12 with (fail)
                                  clear HS11 HK11 HR11 HO11 e0 e1 e2 ef hW11 hR11
                                  generalize (w11.setCell ⟨R, 1, none⟩ (.int .i64 0)).setCell ⟨R, 2, none⟩ (.bool true) = wX at HSY HKY HRY HOY g0 g1 g2 hWX hRX ⊢
                                  have HSX := HSY
                                  have HKX := HKY
                                  have HRX := HRY
                                  have HOX := HOY
                                  have e0 := g0
                                  have e1 := g1
                                  have e2 := g2
                                  clear HSY HKY HRY HOY g0 g1 g2
                                  obtain ⟨hDl, z0, z1, z2, z3, z4, zf⟩ := HRX.out.box
                                  have hk12 : Keeps S wX (wX.alloc (.cells #[.string ⟨nm.toArray⟩, .int .i64 0, .bool true] 51)) := (Keeps.refl _ _).alloc _
                                  have HOA := Lib.hid (HOX.out.alloc (.cells #[.string ⟨nm.toArray⟩, .int .i64 0, .bool true] 51))
                                  have HRA := Lib.hid (HRX.out.keeps hk12 hFS hDS hBS)
                                  have hvF : v.ownBlock ≠ some F := fun e => by have := (HOX.out.lt _ e).1; omega
                                  have hvD : v.ownBlock ≠ some D := fun e => by have := (HOX.out.lt _ e).1; omega
                                  have hvB : v.ownBlock ≠ some B := fun e => by have := (HOX.out.lt _ e).1; omega
                                  have hvS : ∀ b, v.ownBlock = some b → WB ≤ b := fun b e => (HOX.out.lt _ e).1
                                  clear hk12
                                  as_aux_lemma =>
                                    go_wp2_with (first | (refine wpList_val rfl (bs_r1 _ _ _ 45 ⟨nm.toArray⟩ 0 true rfl rfl) ?_) | (at_builtin; refine wpList_append_own_at _ rfl (.tmp 44) (.tmp 46) 26 rfl WB 51 i1 _ 3 32 Tryz.underlying26 hi1 hy0 hy1 hy2 rfl (by omega) v rates.length _ rfl HOA.out ⟨wX.heap.size, 0, none⟩ 1 1 [.string ⟨nm.toArray⟩, .int .i64 0, .bool true] rfl rfl (fun j u hj => by rw [add0]; match j, hj with | 0, hj => simp at hj; subst hj; go_simp | 1, hj => simp at hj; subst hj; go_simp | 2, hj => simp at hj; subst hj; go_simp) (by simp [Value.oneCell']) (by simp only [maxLen]; omega) (by omega) (by simp; omega) ?_; intro v12 w12 hown12 hgr12 _ _; have HR12 := Lib.hid (HRA.out.grown hgr12 hvF hvD hvB); obtain ⟨a12, c12, rfl⟩ := own_shape hown12; clear z0 z1 z2 z3 z4 zf; obtain ⟨hDm, z0, z1, z2, z3, z4, zf⟩ := HR12.out.box))
                                    have HK12 : Hid (Keeps S w w12) := HKX.out.grown hgr12 (fun b e => Nat.le_trans hwW (hvS b e))
                                    have HS12 : Hid (StreamOk w12 S (k + 4 + 3 * i + 3)) := HSX.out.upto (upto_grown hgr12 (by omega) (fun b e => by have := hvS b e; omega))
                                    have hW12 : WB ≤ w12.heap.size := by have := hgr12.size; simp at this; omega
                                    have HO12 : Hid (w12.ownsRow WB 51 3 (.slice a12 (rates.length + 1) c12) (rates ++ [Rate.mk nm 0 true]).length (((rates ++ [Rate.mk nm 0 true]).map Rate.cells).flatten)) := by
                                      show World.ownsRow _ _ _ _ _ _ _
                                      rw [rcells_snoc, List.length_append]
                                      exact hown12
                                    have hv12 : (Value.slice a12 (rates.length + 1) c12).ownBlock ≠ some D := fun e => by have := (HO12.out.lt _ e).1; omega
                                    go_roundw
                                    case rel => exact ⟨i + 1, .slice a12 (rates.length + 1) c12, rates ++ [Rate.mk nm 0 true], by omega, by go_num, by rw [List.length_append, List.length_singleton]; omega, rates_snoc HRI.out hpl (by show -2000000000000 ≤ (0 : Int); omega) (by show (0 : Int) ≤ 2000000000000; omega), own_set HO12.out hv12, by simpa using hW12, HR12.out.setv hDB _, (HS12.out.mono (by omega)).upto ((Below.refl (S + 1) w12).setCell (p := ⟨D, 4, none⟩) (by show S + 1 ≤ D; omega) _), HK12.out.setCell_new (p := ⟨D, 4, none⟩) hDw _⟩
                                    case measure => simp [intOf]; omega
                    · obtain rfl : i = n := by omega
                      obtain ⟨ra, rc, rfl⟩ := own_shape HOW.out
                      obtain ⟨hDl, z0, z1, z2, z3, z4, zf⟩ := HR.out.box
                      have HTH := Lib.hid HR.out.room.th
                      have HC9 := Lib.hid (World.rangeAt_setCells_same wr F 0 [.int .i64 f, .int .i64 ps, .int .i64 pl, .int .i64 pt, .slice ra rates.length rc] HTH.out)
                      have HS9 : Hid (StreamOk (wr.setCells F 0 [.int .i64 f, .int .i64 ps, .int .i64 pl, .int .i64 pt, .slice ra rates.length rc]) S (k + 43)) := (HSr.out.mono (by omega)).upto (below_setCells hSF _ _ _)
                      have HK9 : Hid (Keeps S w (wr.setCells F 0 [.int .i64 f, .int .i64 ps, .int .i64 pl, .int .i64 pt, .slice ra rates.length rc])) := keeps_setCells (Nat.le_of_eq HFW.out.symm) _ _ _ HKr.out
                      have hvF : (Value.slice ra rates.length rc).ownBlock ≠ some F := fun e => by have := (HOW.out.lt _ e).1; omega
                      have HO9 : Hid ((wr.setCells F 0 [.int .i64 f, .int .i64 ps, .int .i64 pl, .int .i64 pt, .slice ra rates.length rc]).ownsRow WB 51 3 (.slice ra rates.length rc) rates.length ((rates.map Rate.cells).flatten)) := own_set (own_set (own_set (own_set (own_set HOW.out hvF) hvF) hvF) hvF) hvF
                      clear HR HOW HSr HKr HSH
                      as_aux_lemma =>
                        go_wp2_with (refine wpList_store_mid rfl 28 (.tmp 4) (.tmp 50) rfl F 0 #[.int .i64 f, .int .i64 ps, .int .i64 pl, .int .i64 pt, .slice ra rates.length rc] rfl rfl HTH.out Tryz.deckSize (by simp [Value.oneCell']) ?_; generalize World.setCells wr F 0 _ = W9 at HC9 HS9 HK9 HO9 ⊢)
                        refine bodyPost_ret (?_ : _ = Result.ok (.agg #[.int .i64 f, .int .i64 ps, .int .i64 pl, .int .i64 pt, .slice ra rates.length rc]) _) rfl ?_
                        · exact results_cell1 (t := 4) (by rfl) _ _ _ Tryz.isAgg28 Tryz.sizeOf28 (by rfl) [.int .i64 f, .int .i64 ps, .int .i64 pl, .int .i64 pt, .slice ra rates.length rc] rfl (fun j v hj => by have := HC9.out j v hj; rw [Nat.zero_add] at this; exact this)
                        exact ⟨⟨f, ps, pl, pt, ra, rates.length, rc, rates⟩, rfl, ⟨own_le HO9.out hwW, ⟨by show rates.length ≤ 50; omega, HRI.out⟩, hf, (show -2000000000000 ≤ ps ∧ ps ≤ 2000000000000 from ⟨by omega, by omega⟩), (show -2000000000000 ≤ pl ∧ pl ≤ 2000000000000 from ⟨by omega, by omega⟩), (show -2000000000000 ≤ pt ∧ pt ≤ 2000000000000 from ⟨by omega, by omega⟩)⟩, by show rates.length ≤ 13; omega, HS9.out, HK9.out⟩
end Go.Proofs.YtacekbbndamkmaaGreatDoor

namespace Go.Proofs.YtacekbbndamkmaaGreatDoor

section
variable {P : Program} {Q : Exit → Act → World → Prop}
/-- **A region that draws, in a forced order, its last operation behind the others**: S need not hold behind that one. -/
theorem region_lastI {S : World → Prop} {id : Nat} {L : List Oper} {st : Oper} {a : Act} {w : World} (l : List (Bool × Nat)) (hm : P.follows .mixedOrders = true) (hst : L.getLast? = some st) (hg : st.guard = none) (hc : lastChk L.toArray (L.length - 1) = true)
    (hs : Region.noSelect L.dropLast.toArray = true) (hlen : l.length = L.length - 1) (hok : seqOkI L.dropLast.toArray l (Array.replicate (L.length - 1) false) = true)
    (hS : S w.drew) (h : wpSeqI P L.dropLast.toArray (lastQ P st Q) S (seqOps L.dropLast l) a w.drew) : (Code.region id L.toArray true).wp P Q a w := by
  have hd : L.dropLast.toArray.size = L.length - 1 := by simp
  refine region_last_held (S := S) (ops' := L.dropLast.toArray) (st := st) hm ?_ hg (by rw [hd]; exact hc) hS fun hS => ?_
  · obtain ⟨hne, he⟩ : ∃ hne : L ≠ [], L.getLast hne = st := by
      cases L with
      | nil => simp at hst
      | cons x xs => exact ⟨by simp, by rw [List.getLast?_eq_some_getLast (by simp)] at hst; exact Option.some.inj hst⟩
    have := List.dropLast_concat_getLast hne
    rw [he] at this
    conv => lhs; rw [← this]
    simp
  · have hok' : seqOkI L.dropLast.toArray l (Array.replicate L.dropLast.toArray.size false) = true := by rw [hd]; exact hok
    have hl : L.dropLast.toArray.size = l.length := by rw [hd, hlen]
    have := seqI_held (Q := lastQ P st Q) hs l _ a _ hok' hS h
    rw [← hl] at this
    exact this
end
end Go.Proofs.YtacekbbndamkmaaGreatDoor
