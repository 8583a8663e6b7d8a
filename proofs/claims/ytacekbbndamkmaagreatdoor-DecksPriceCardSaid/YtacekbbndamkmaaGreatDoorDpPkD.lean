/- What is proved here: lemmas and contracts for the statement, put together out of smaller texts (CarrRows, CarrMsrA, CarrPrice, DkpTxt, DkpNmb, PortLit, CarrBox, FlatSet). No condition beyond those stated. -/
import Derived.Test.YtacekbbndamkmaaGreatDoorDpPkB
import Derived.Test.YtacekbbndamkmaaGreatDoorDpPkC
import Derived.Test.YtacekbbndamkmaaGreatDoorDpPkA
import Derived.Deep.MidRow
import Derived.Maps.AppendAt
set_option linter.unusedVariables false
set_option linter.unusedSimpArgs false
namespace Go.Proofs.YtacekbbndamkmaaGreatDoor
open Go.RowKit

structure ShrRow (w : World) (a : Option Addr) (n : Nat) (l : List Shr) : Prop where
  cells : Cells w 2 a n (l.map Shr.cells)
  few : n ≤ 50
  each : ∀ i, i < l.length → (l.getD i noShr).c.length ≤ 100 ∧ -2000000000000 ≤ (l.getD i noShr).part ∧ (l.getD i noShr).part ≤ 2000000000000
theorem ShrRow.below {w w' : World} {a : Option Addr} {n : Nat} {l : List Shr} (h : ShrRow w a n l) (hb : Below w.heap.size w w') : ShrRow w' a n l := ⟨h.cells.below hb, h.few, h.each⟩
theorem ShrRow.len {w : World} {a : Option Addr} {n : Nat} {l : List Shr} (h : ShrRow w a n l) : n = l.length := by have := h.cells.len; simpa using this
theorem ShrRow.at {w : World} {a : Option Addr} {n : Nat} {l : List Shr} (h : ShrRow w a n l) (hn : 0 < n) : ∃ b off, a = some ⟨b, off, none⟩ ∧ b < w.heap.size ∧ ∀ i, i < n → w.cell? ⟨b, off + i * 2, none⟩ = some (.string ⟨(l.getD i noShr).c.toArray⟩) ∧ w.cell? ⟨b, off + i * 2 + 1, none⟩ = some (.int .i64 (l.getD i noShr).part) := by
  have hl := h.len
  rcases h.cells.row with h0 | ⟨b, off, ha, hb, hc⟩
  · omega
  · refine ⟨b, off, ha, hb, fun i hi => ?_⟩
    have k0 := hc i hi 0 (by omega)
    have k1 := hc i hi 1 (by omega)
    rw [getD_map Shr.cells l i noShr [] (by omega)] at k0 k1
    exact ⟨k0, k1⟩
theorem ShrRow.of_own {w : World} {base : Nat} {e : TypeId} {v : Value} {n : Nat} {l : List Shr} (h : w.ownsRow base e 2 v n ((l.map Shr.cells).flatten)) (hf : n ≤ 50) (he : ∀ i, i < l.length → (l.getD i noShr).c.length ≤ 100 ∧ -2000000000000 ≤ (l.getD i noShr).part ∧ (l.getD i noShr).part ≤ 2000000000000) : ∃ a c, v = .slice a n c ∧ n ≤ c ∧ ShrRow w a n l := by
  obtain ⟨a, c, rfl, hcs⟩ := Cells.of_own h (fun x hx => by obtain ⟨y, _, rfl⟩ := List.mem_map.1 hx; rfl) (by decide)
  exact ⟨a, c, rfl, (own_caps h).2, ⟨hcs, hf, he⟩⟩
structure RcdRow (w : World) (a : Option Addr) (n : Nat) (l : List Rcd) : Prop where
  cells : Cells w 8 a n (l.map Rcd.cells)
  few : n ≤ 100
  each : ∀ i, i < l.length → (l.getD i noRcd).id.length ≤ 100 ∧ (l.getD i noRcd).fr.length ≤ 100 ∧ (l.getD i noRcd).to_.length ≤ 100 ∧ (l.getD i noRcd).carrier.length ≤ 100 ∧ (-2000000000000 ≤ (l.getD i noRcd).at_ ∧ (l.getD i noRcd).at_ ≤ 2000000000000) ∧ (-2000000000000 ≤ (l.getD i noRcd).ring ∧ (l.getD i noRcd).ring ≤ 2000000000000) ∧ (-2000000000000 ≤ (l.getD i noRcd).talk ∧ (l.getD i noRcd).talk ≤ 2000000000000) ∧ (-2000000000000 ≤ (l.getD i noRcd).how ∧ (l.getD i noRcd).how ≤ 2000000000000)
theorem RcdRow.below {w w' : World} {a : Option Addr} {n : Nat} {l : List Rcd} (h : RcdRow w a n l) (hb : Below w.heap.size w w') : RcdRow w' a n l := ⟨h.cells.below hb, h.few, h.each⟩
theorem RcdRow.len {w : World} {a : Option Addr} {n : Nat} {l : List Rcd} (h : RcdRow w a n l) : n = l.length := by have := h.cells.len; simpa using this
theorem RcdRow.at {w : World} {a : Option Addr} {n : Nat} {l : List Rcd} (h : RcdRow w a n l) (hn : 0 < n) : ∃ b off, a = some ⟨b, off, none⟩ ∧ b < w.heap.size ∧ ∀ i, i < n → w.cell? ⟨b, off + i * 8, none⟩ = some (.string ⟨(l.getD i noRcd).id.toArray⟩) ∧ w.cell? ⟨b, off + i * 8 + 1, none⟩ = some (.string ⟨(l.getD i noRcd).fr.toArray⟩) ∧ w.cell? ⟨b, off + i * 8 + 2, none⟩ = some (.string ⟨(l.getD i noRcd).to_.toArray⟩) ∧ w.cell? ⟨b, off + i * 8 + 3, none⟩ = some (.int .i64 (l.getD i noRcd).at_) ∧ w.cell? ⟨b, off + i * 8 + 4, none⟩ = some (.int .i64 (l.getD i noRcd).ring) ∧ w.cell? ⟨b, off + i * 8 + 5, none⟩ = some (.int .i64 (l.getD i noRcd).talk) ∧ w.cell? ⟨b, off + i * 8 + 6, none⟩ = some (.int .i64 (l.getD i noRcd).how) ∧ w.cell? ⟨b, off + i * 8 + 7, none⟩ = some (.string ⟨(l.getD i noRcd).carrier.toArray⟩) := by
  have hl := h.len
  rcases h.cells.row with h0 | ⟨b, off, ha, hb, hc⟩
  · omega
  · refine ⟨b, off, ha, hb, fun i hi => ?_⟩
    have k0 := hc i hi 0 (by omega)
    have k1 := hc i hi 1 (by omega)
    have k2 := hc i hi 2 (by omega)
    have k3 := hc i hi 3 (by omega)
    have k4 := hc i hi 4 (by omega)
    have k5 := hc i hi 5 (by omega)
    have k6 := hc i hi 6 (by omega)
    have k7 := hc i hi 7 (by omega)
    rw [getD_map Rcd.cells l i noRcd [] (by omega)] at k0 k1 k2 k3 k4 k5 k6 k7
    exact ⟨k0, k1, k2, k3, k4, k5, k6, k7⟩
theorem RcdRow.of_own {w : World} {base : Nat} {e : TypeId} {v : Value} {n : Nat} {l : List Rcd} (h : w.ownsRow base e 8 v n ((l.map Rcd.cells).flatten)) (hf : n ≤ 100) (he : ∀ i, i < l.length → (l.getD i noRcd).id.length ≤ 100 ∧ (l.getD i noRcd).fr.length ≤ 100 ∧ (l.getD i noRcd).to_.length ≤ 100 ∧ (l.getD i noRcd).carrier.length ≤ 100 ∧ (-2000000000000 ≤ (l.getD i noRcd).at_ ∧ (l.getD i noRcd).at_ ≤ 2000000000000) ∧ (-2000000000000 ≤ (l.getD i noRcd).ring ∧ (l.getD i noRcd).ring ≤ 2000000000000) ∧ (-2000000000000 ≤ (l.getD i noRcd).talk ∧ (l.getD i noRcd).talk ≤ 2000000000000) ∧ (-2000000000000 ≤ (l.getD i noRcd).how ∧ (l.getD i noRcd).how ≤ 2000000000000)) : ∃ a c, v = .slice a n c ∧ n ≤ c ∧ RcdRow w a n l := by
  obtain ⟨a, c, rfl, hcs⟩ := Cells.of_own h (fun x hx => by obtain ⟨y, _, rfl⟩ := List.mem_map.1 hx; rfl) (by decide)
  exact ⟨a, c, rfl, (own_caps h).2, ⟨hcs, hf, he⟩⟩
end Go.Proofs.YtacekbbndamkmaaGreatDoor

set_option linter.unusedVariables false
set_option linter.unusedSimpArgs false
namespace Go.Proofs.YtacekbbndamkmaaGreatDoor
open Go.RowKit

theorem rec_zero {l : List Carr} {rs : List Rcd} {k : Nat} (h : recErr l rs k = 0) : 0 ≤ (rs.getD k noRcd).talk ∧ (rs.getD k noRcd).talk ≤ 86400000 := by
  have : inB (rs.getD k noRcd).talk 0 86400000 = true := by
    cases h9 : inB (rs.getD k noRcd).talk 0 86400000 with
    | true => rfl
    | false => unfold recErr at h; rw [if_pos (Or.inr h9)] at h; cases h
  unfold inB at this
  simpa using this
theorem recs_zero {l : List Carr} {rs : List Rcd} {f t : Int} (hl : rs.length ≤ 3000) (h : recsErr l rs f t = 0) : (∀ i, i < rs.length → 0 ≤ (rs.getD i noRcd).talk ∧ (rs.getD i noRcd).talk ≤ 86400000) ∧ 0 ≤ f ∧ f ≤ t ∧ t ≤ 345686400000 := by
  unfold recsErr at h
  rw [if_neg (by omega)] at h
  by_cases h0 : firstErr (recErr l rs) rs.length = 0
  · rw [if_neg (by simp [h0])] at h
    refine ⟨fun i hi => rec_zero (first_zero h0 i hi), ?_⟩
    unfold winErr at h
    split at h
    · assumption
    · cases h
  · rw [if_pos h0] at h; exact absurd h h0
theorem quals_len (l : List Carr) (rs : List Rcd) (f t : Int) (k : Nat) : (quals l rs f t k).length ≤ k := by
  unfold quals
  exact Nat.le_trans (List.length_filterMap_le _ _) (by simp)
theorem cnt_succ (rs : List Rcd) (key : List UInt8) (f t : Int) (k : Nat) :
    (((rs.getD k noRcd).carrier = key ∧ f ≤ (rs.getD k noRcd).at_ ∧ (rs.getD k noRcd).at_ < t) → (rs.getD k noRcd).how = 1 → cntTo rs key f t (k + 1) = ⟨(cntTo rs key f t k).calls + 1, (cntTo rs key f t k).good + 1, (cntTo rs key f t k).talk + (rs.getD k noRcd).talk⟩) ∧
    (((rs.getD k noRcd).carrier = key ∧ f ≤ (rs.getD k noRcd).at_ ∧ (rs.getD k noRcd).at_ < t) → (rs.getD k noRcd).how ≠ 1 → cntTo rs key f t (k + 1) = ⟨(cntTo rs key f t k).calls + 1, (cntTo rs key f t k).good, (cntTo rs key f t k).talk⟩) ∧
    (¬ ((rs.getD k noRcd).carrier = key ∧ f ≤ (rs.getD k noRcd).at_ ∧ (rs.getD k noRcd).at_ < t) → cntTo rs key f t (k + 1) = ⟨(cntTo rs key f t k).calls, (cntTo rs key f t k).good, (cntTo rs key f t k).talk⟩) := by
  have e : cntTo rs key f t (k + 1) = if inWin key f t (rs.getD k noRcd) then (if (rs.getD k noRcd).how = 1 then ⟨(cntTo rs key f t k).calls + 1, (cntTo rs key f t k).good + 1, (cntTo rs key f t k).talk + (rs.getD k noRcd).talk⟩ else ⟨(cntTo rs key f t k).calls + 1, (cntTo rs key f t k).good, (cntTo rs key f t k).talk⟩) else cntTo rs key f t k := rfl
  rw [e]
  have i : inWin key f t (rs.getD k noRcd) ↔ ((rs.getD k noRcd).carrier = key ∧ f ≤ (rs.getD k noRcd).at_ ∧ (rs.getD k noRcd).at_ < t) := Iff.rfl
  exact ⟨fun h1 h2 => by rw [if_pos (i.2 h1), if_pos h2], fun h1 h2 => by rw [if_pos (i.2 h1), if_neg h2], fun h1 => by rw [if_neg (fun h => h1 (i.1 h))]⟩
theorem qcells_snoc (l : List Qual) (q : Qual) : ((l ++ [q]).map Qual.cells).flatten = (l.map Qual.cells).flatten ++ Qual.cells q := by simp
theorem wp_val {P : Program} {o : Oper} {a : Act} {w w' : World} {v : Value} {K : Act → World → Prop} {Q : Exit → Act → World → Prop} (h : (execOp a.eval o).run P w = .ok (.value v) w') (hk : K (a.put o.dst v) w') : o.wp P a w K Q := by
  unfold Oper.wp
  rw [h]
  exact hk
end Go.Proofs.YtacekbbndamkmaaGreatDoor

set_option linter.unusedVariables false
set_option linter.unusedSimpArgs false
namespace Go.Proofs.YtacekbbndamkmaaGreatDoor
open Go.RowKit

theorem Tryz.deckSz : (Tryz.prog.info? 28).map (·.size) = some 5 := by kernel_rfl
theorem Tryz.rateSz : (Tryz.prog.info? 51).map (·.size) = some 3 := by kernel_rfl
/-- What a call by a rate costs. -/
def paidR (dl dp talk : Int) : Int := if dl < talk then dl + (talk - dl + dp - 1) / dp * dp else dl
def priceR (ds dl dp pr talk : Int) : Int := if talk = 0 then ds else ds + (pr * paidR dl dp talk + 59999) / 60000
theorem paid_bound {dl dp talk : Int} (h2 : 0 ≤ dl ∧ dl ≤ 86400000) (h3 : 1 ≤ dp ∧ dp ≤ 86400000) (h5 : 0 ≤ talk ∧ talk ≤ 86400000) : 0 ≤ paidR dl dp talk ∧ paidR dl dp talk ≤ 200000000 := by
  unfold paidR
  split
  · rename_i h
    have q1 := Int.ediv_mul_le (talk - dl + dp - 1) (show dp ≠ 0 by omega)
    have q2 : 0 ≤ (talk - dl + dp - 1) / dp * dp := Int.mul_nonneg (Int.ediv_nonneg (by omega) (by omega)) (by omega)
    omega
  · omega

set_option maxRecDepth 100000 in
set_option maxHeartbeats 2000000 in
theorem priceC_any (w : World) (df ds dl dp : Int) (ra : Option Addr) (rn rc : Nat) (p : List UInt8) (pr : Int) (cl : Bool) (talk : Int) (h1 : 0 ≤ ds ∧ ds ≤ 100000000) (h2 : 0 ≤ dl ∧ dl ≤ 86400000) (h3 : 1 ≤ dp ∧ dp ≤ 86400000) (h4 : 0 ≤ pr ∧ pr ≤ 100000000) (h5 : 0 ≤ talk ∧ talk ≤ 86400000) :
    Calls Tryz.prog 95 #[.agg #[.int .i64 df, .int .i64 ds, .int .i64 dl, .int .i64 dp, .slice ra rn rc], .agg #[.string ⟨p.toArray⟩, .int .i64 pr, .bool cl], .int .i64 talk] w fun e w' => e = .returned (.int .i64 (priceR ds dl dp pr talk)) ∧ Below w.heap.size w w' := by
  have hd : Hid (priceR ds dl dp pr talk = if talk = 0 then ds else ds + (pr * paidR dl dp talk + 59999) / 60000) := rfl
  have hp : Hid (paidR dl dp talk = if dl < talk then dl + (talk - dl + dp - 1) / dp * dp else dl) := rfl
  have hpb := paid_bound h2 h3 h5
  have q0 : 0 ≤ (talk - dl + dp - 1) / dp * dp ∨ ¬ dl < talk := by
    by_cases h : dl < talk
    · exact Or.inl (Int.mul_nonneg (Int.ediv_nonneg (by omega) (by omega)) (by omega))
    · exact Or.inr h
  have q1 := Int.ediv_mul_le (talk - dl + dp - 1) (show dp ≠ 0 by omega)
  generalize priceR ds dl dp pr talk = R at hd ⊢
  generalize paidR dl dp talk = M at hd hp hpb
  go_enter Tryz.func95, Tryz.ntmps95
  go_upto_region 1 with (fail)
  have HD : Hid (Blk ((w.alloc (.cells #[.int .i64 df, .int .i64 ds, .int .i64 dl, .int .i64 dp, .slice ra rn rc] 28)).alloc (.cells #[.string ⟨p.toArray⟩, .int .i64 pr, .bool cl] 51)) w.heap.size [.int .i64 df, .int .i64 ds, .int .i64 dl, .int .i64 dp, .slice ra rn rc] 28) := (Blk.new w [.int .i64 df, .int .i64 ds, .int .i64 dl, .int .i64 dp, .slice ra rn rc] 28).alloc _
  have HZ : Hid (Blk ((w.alloc (.cells #[.int .i64 df, .int .i64 ds, .int .i64 dl, .int .i64 dp, .slice ra rn rc] 28)).alloc (.cells #[.string ⟨p.toArray⟩, .int .i64 pr, .bool cl] 51)) (w.heap.size + 1) [.string ⟨p.toArray⟩, .int .i64 pr, .bool cl] 51) := by
    have := Blk.new (w.alloc (.cells #[.int .i64 df, .int .i64 ds, .int .i64 dl, .int .i64 dp, .slice ra rn rc] 28)) [.string ⟨p.toArray⟩, .int .i64 pr, .bool cl] 51
    show Blk _ _ _ _
    simpa using this
  have HB : Hid (Below w.heap.size w ((w.alloc (.cells #[.int .i64 df, .int .i64 ds, .int .i64 dl, .int .i64 dp, .slice ra rn rc] 28)).alloc (.cells #[.string ⟨p.toArray⟩, .int .i64 pr, .bool cl] 51))) := ext_alloc (ext_alloc (Below.refl _ _))
  generalize World.alloc (World.alloc w _) _ = W at HD HZ HB ⊢
  have k1 := HD.out.cell 1 rfl
  have k2 := HD.out.cell 2 rfl
  have k3 := HD.out.cell 3 rfl
  have k4 := HZ.out.cell 1 rfl
  clear HD HZ
  by_cases ht : talk = 0
  · have ht2 : (talk == 0) = true := by simpa using ht
    have hR : Hid (R = ds) := by show R = ds; rw [hd.out, if_pos ht]
    clear hd hp hpb q0 q1 h5 ht
    as_aux_lemma =>
      go_wp2_with fail
      go_ret
      exact ⟨by rw [hR.out]; rfl, HB.out⟩
  · have ht2 : (talk == 0) = false := by simpa using ht
    have hR : Hid (R = ds + (pr * M + 59999) / 60000) := by show R = _; rw [hd.out, if_neg ht]
    have m0 : 0 ≤ pr * M := Int.mul_nonneg h4.1 hpb.1
    have m1 : pr * M ≤ 100000000 * 200000000 := Int.mul_le_mul h4.2 hpb.2 hpb.1 (by omega)
    have v1 : IntKind.i64.wrap (pr * M) = pr * M := IntWalk.i64_in _ (by omega)
    have v2 : IntKind.i64.wrap (pr * M + 59999) = pr * M + 59999 := IntWalk.i64_in _ (by omega)
    have v3 : (pr * M + 59999).tdiv 60000 = (pr * M + 59999) / 60000 := Int.tdiv_eq_ediv_of_nonneg (by omega)
    have v4 : IntKind.i64.wrap ((pr * M + 59999) / 60000) = (pr * M + 59999) / 60000 := IntWalk.i64_in _ (by omega)
    have v5 : IntKind.i64.wrap (ds + (pr * M + 59999) / 60000) = ds + (pr * M + 59999) / 60000 := IntWalk.i64_in _ (by omega)
    clear hd ht
    by_cases hlt : dl < talk
    · obtain rfl : M = dl + (talk - dl + dp - 1) / dp * dp := by rw [hp.out, if_pos hlt]
      have q2 : 0 ≤ (talk - dl + dp - 1) / dp * dp := by omega
      have q3 : (talk - dl + dp - 1).tdiv dp = (talk - dl + dp - 1) / dp := Int.tdiv_eq_ediv_of_nonneg (by omega)
      have q4 : 0 ≤ (talk - dl + dp - 1) / dp := Int.ediv_nonneg (by omega) (by omega)
      have q5 : (talk - dl + dp - 1) / dp ≤ 172800000 := Int.ediv_le_of_le_mul (by omega) (by have : (172800000 : Int) * 1 ≤ 172800000 * dp := Int.mul_le_mul_of_nonneg_left h3.1 (by omega); omega)
      have u1 : IntKind.i64.wrap (talk - dl) = talk - dl := IntWalk.i64_in _ (by omega)
      have u2 : IntKind.i64.wrap (talk - dl + dp) = talk - dl + dp := IntWalk.i64_in _ (by omega)
      have u3 : IntKind.i64.wrap (talk - dl + dp - 1) = talk - dl + dp - 1 := IntWalk.i64_in _ (by omega)
      generalize (talk - dl + dp - 1) / dp = q at hp q0 q1 q2 q3 q4 q5 hpb hR m0 m1 v1 v2 v3 v4 v5
      have u4 : IntKind.i64.wrap q = q := IntWalk.i64_in _ (by omega)
      have u5 : IntKind.i64.wrap (q * dp) = q * dp := IntWalk.i64_in _ (by omega)
      have u6 : IntKind.i64.wrap (dl + q * dp) = dl + q * dp := IntWalk.i64_in _ (by omega)
      have hz : ¬ dp = 0 := by omega
      clear hp q0 q1 q2 q4 q5 hpb m0 m1 h1 h4 h5
      as_aux_lemma =>
        go_wp2_with fail
        go_quiet (fail)
        go_wp2_with fail
        go_ret
        exact ⟨by rw [hR.out]; rfl, (by (try show Below _ _ _); repeat (with_reducible first | exact Below.refl _ _ | assumption | exact Hid.out (by assumption) | refine ext_alloc ?_ | refine ext_drewN ?_ | refine ext_drew ?_ | refine ext_setCell ?_ (Nat.le_refl _) | refine ext_setCell ?_ (Nat.le_succ _) | refine ext_trans ?_ (by assumption) | (refine ext_setCell ?_ (by simp)) | (refine ext_setCell ?_ (by simp at *; omega))))⟩
    · obtain rfl : M = dl := by rw [hp.out, if_neg hlt]
      clear hp q0 q1 hpb m0 m1 h1 h4 h5
      as_aux_lemma =>
        go_wp2_with fail
        go_ret
        exact ⟨by rw [hR.out]; rfl, HB.out⟩
theorem findR_mem {cs : List Rate} {t : List UInt8} {r : Rate} (h : findR cs t = some r) : r ∈ cs := List.mem_of_find?_eq_some h
theorem rateTo_mem {cs : List Rate} {l : List UInt8} {r : Rate} : ∀ k, rateTo cs l k = some r → r ∈ cs
  | 0, h => findR_mem h
  | k + 1, h => by
    unfold rateTo at h
    cases h9 : findR cs (l.take (k + 1)) with
    | none => rw [h9] at h; exact rateTo_mem k h
    | some x => rw [h9] at h; injection h with h; subst h; exact findR_mem h9
/-- What a call costs, and whether it can be. -/
def priceV (ds dl dp : Int) (cs : List Rate) (l : List UInt8) (talk : Int) : Int × Bool :=
  match rateOf cs l 15 with
  | none => (0, false)
  | some r => if r.closed = true then (0, false) else (priceR ds dl dp r.price talk, true)
/-- Numbers of a deck, and its rates, are right. -/
structure DeckGood (ds dl dp : Int) (cs : List Rate) : Prop where
  h1 : 0 ≤ ds ∧ ds ≤ 100000000
  h2 : 0 ≤ dl ∧ dl ≤ 86400000
  h3 : 1 ≤ dp ∧ dp ≤ 86400000
  sorted : RSorted cs
  each : ∀ r ∈ cs, 0 ≤ r.price ∧ r.price ≤ 100000000
theorem deck_good {d : Deck} (hl : d.rates.length ≤ 5000) (h : deckErr d = 0) : DeckGood d.setup d.least d.step d.rates := by
  have hn : deckNum d = true := by
    cases h9 : deckNum d with
    | true => rfl
    | false => unfold deckErr at h; rw [if_pos h9] at h; cases h
  unfold deckErr at h
  rw [if_neg (by rw [hn]; decide), if_neg (by omega)] at h
  have hz := first_zero h
  unfold deckNum inB at hn
  simp only [Bool.and_eq_true, decide_eq_true_eq] at hn
  have each : ∀ i, i < d.rates.length → (0 < i → Op.bytesLess (d.rates.getD (i - 1) noRate).p (d.rates.getD i noRate).p = true) ∧ 0 ≤ (d.rates.getD i noRate).price ∧ (d.rates.getD i noRate).price ≤ 100000000 := fun i hi => by
    have h9 := hz i hi
    unfold rateErr at h9
    split at h9
    · cases h9
    · split at h9
      · cases h9
      · rename_i h2
        split at h9
        · cases h9
        · rename_i h3
          refine ⟨fun h0 => ?_, ?_⟩
          · cases h4 : Op.bytesLess (d.rates.getD (i - 1) noRate).p (d.rates.getD i noRate).p with
            | true => rfl
            | false => exact absurd ⟨h0, h4⟩ h2
          · have h3 : inB (d.rates.getD i noRate).price 0 100000000 = true := by simpa using h3
            unfold inB at h3
            simpa using h3
  refine ⟨hn.2.1, hn.2.2.1, hn.2.2.2, fun i h0 hi => (each i hi).1 h0, fun r hr => ?_⟩
  obtain ⟨j, hj, rfl⟩ := List.getElem_of_mem hr
  have := (each j hj).2
  rwa [List.getD_eq_getElem?_getD, List.getElem?_eq_getElem hj] at this
def PriceOfPost (r : Int × Bool) (w : World) (e : Ending) (w' : World) : Prop := e = .returned (.tuple #[.int .i64 r.1, .bool r.2]) ∧ Below w.heap.size w w'
set_option maxRecDepth 100000 in
set_option maxHeartbeats 2000000 in
theorem priceOf_any (w : World) (df ds dl dp : Int) (ra : Option Addr) (rn rc : Nat) (cs : List Rate) (l : List UInt8) (talk : Int) (hr : RateRow w ra rn cs) (hg : DeckGood ds dl dp cs) (hl : l.length ≤ 1000) (h5 : 0 ≤ talk ∧ talk ≤ 86400000) :
    Calls Tryz.prog 56 #[.agg #[.int .i64 df, .int .i64 ds, .int .i64 dl, .int .i64 dp, .slice ra rn rc], .string ⟨l.toArray⟩, .int .i64 talk] w (PriceOfPost (priceV ds dl dp cs l talk) w) := by
  obtain ⟨h1, h2, h3, ho, he⟩ := hg
  have HR := Lib.hid (rate_any (w.alloc (.cells #[.int .i64 df, .int .i64 ds, .int .i64 dl, .int .i64 dp, .slice ra rn rc] 28)) df ds dl dp ra rn rc cs l 15 (hr.below (ext_alloc (Below.refl _ _))) ho hl (by omega))
  have HV : Hid (priceV ds dl dp cs l talk = match rateOf cs l 15 with | none => (0, false) | some r => if r.closed = true then (0, false) else (priceR ds dl dp r.price talk, true)) := rfl
  have HM : Hid (∀ r, rateOf cs l 15 = some r → 0 ≤ r.price ∧ r.price ≤ 100000000) := fun r h => he r (rateTo_mem _ h)
  generalize priceV ds dl dp cs l talk = V at HV ⊢
  generalize rateOf cs l 15 = o at HV HR HM
  clear hr ho he hl
  go_enter Tryz.func56, Tryz.ntmps56
  go_upto_region 1 with (fail)
  have HD : Hid (Blk (w.alloc (.cells #[.int .i64 df, .int .i64 ds, .int .i64 dl, .int .i64 dp, .slice ra rn rc] 28)) w.heap.size [.int .i64 df, .int .i64 ds, .int .i64 dl, .int .i64 dp, .slice ra rn rc] 28) := Blk.new w [.int .i64 df, .int .i64 ds, .int .i64 dl, .int .i64 dp, .slice ra rn rc] 28
  have HB : Hid (Below w.heap.size w (w.alloc (.cells #[.int .i64 df, .int .i64 ds, .int .i64 dl, .int .i64 dp, .slice ra rn rc] 28))) := ext_alloc (Below.refl _ _)
  have hsz : w.heap.size < (w.alloc (.cells #[.int .i64 df, .int .i64 ds, .int .i64 dl, .int .i64 dp, .slice ra rn rc] 28)).heap.size := by simp
  generalize w.alloc _ = W at HD HB HR hsz ⊢
  have HRA : Hid (W.rangeAt w.heap.size 0 [.int .i64 df, .int .i64 ds, .int .i64 dl, .int .i64 dp, .slice ra rn rc]) := fun j v hj => by rw [Nat.zero_add]; exact HD.out.cell j hj
  as_aux_lemma =>
    go_wp2_with (refine wpList_load_mid rfl 28 (.tmp 3) rfl w.heap.size 0 rfl [.int .i64 df, .int .i64 ds, .int .i64 dl, .int .i64 dp, .slice ra rn rc] _ HRA.out Tryz.underlying28 rfl Tryz.deckSz ?_)
    refine HR.out.mono ?_
    rintro e w1 ⟨hb1, rfl⟩
    have HB1 := Lib.hid (ext_trans HB.out hb1)
    have HD1 := Lib.hid (HD.out.below hb1)
    have hz1 : w.heap.size < w1.heap.size := by have := hb1.size; omega
    clear hb1 HB HD HRA HR hsz
    cases o with
    | none =>
      obtain rfl : V = (0, false) := HV.out
      clear HV HM
      as_aux_lemma =>
        go_wp2_with fail
        go_ret2
        exact ⟨rfl, (by (try show Below _ _ _); repeat (with_reducible first | exact Below.refl _ _ | assumption | exact Hid.out (by assumption) | refine ext_alloc ?_ | refine ext_drewN ?_ | refine ext_drew ?_ | refine ext_setCell ?_ (Nat.le_refl _) | refine ext_setCell ?_ (Nat.le_succ _) | refine ext_trans ?_ (by assumption) | (refine ext_setCell ?_ (by simp)) | (refine ext_setCell ?_ (by simp at *; omega))))⟩
    | some r =>
      obtain ⟨rp, pr, cl⟩ := r
      obtain ⟨h40, h41⟩ := HM.out _ rfl
      clear HM
      simp only [Option.getD_some, Option.isSome_some] at h40 h41 ⊢
      cases cl with
      | true =>
        obtain rfl : V = (0, false) := HV.out
        clear HV
        as_aux_lemma =>
          go_wp2_with fail
          go_ret2
          exact ⟨rfl, (by (try show Below _ _ _); repeat (with_reducible first | exact Below.refl _ _ | assumption | exact Hid.out (by assumption) | refine ext_alloc ?_ | refine ext_drewN ?_ | refine ext_drew ?_ | refine ext_setCell ?_ (Nat.le_refl _) | refine ext_setCell ?_ (Nat.le_succ _) | refine ext_trans ?_ (by assumption) | (refine ext_setCell ?_ (by simp)) | (refine ext_setCell ?_ (by simp at *; omega))))⟩
      | false =>
        obtain rfl : V = (priceR ds dl dp pr talk, true) := HV.out
        clear HV
        have HP := Lib.hid (fun W => priceC_any W df ds dl dp ra rn rc rp pr false talk h1 h2 h3 ⟨h40, h41⟩ h5)
        have d0 := HD1.out.cell 0 rfl
        have d1 := HD1.out.cell 1 rfl
        have d2 := HD1.out.cell 2 rfl
        have d3 := HD1.out.cell 3 rfl
        have d4 := HD1.out.cell 4 rfl
        have hne : w.heap.size ≠ w1.heap.size := by omega
        have hne2 : w1.heap.size ≠ w.heap.size := by omega
        as_aux_lemma =>
          go_wp2_with fail
          refine (HP.out _).mono ?_
          rintro e w2 ⟨rfl, hb2⟩
          have HB2 := Lib.hid hb2
          go_wp2_with fail
          go_ret2
          exact ⟨rfl, (by (try show Below _ _ _); repeat (with_reducible first | exact Below.refl _ _ | assumption | exact Hid.out (by assumption) | refine ext_alloc ?_ | refine ext_drewN ?_ | refine ext_drew ?_ | refine ext_setCell ?_ (Nat.le_refl _) | refine ext_setCell ?_ (Nat.le_succ _) | refine ext_trans ?_ (by assumption) | (refine ext_setCell ?_ (by simp)) | (refine ext_setCell ?_ (by simp at *; omega))))⟩
theorem priceOf_str (w : World) (df ds dl dp : Int) (ra : Option Addr) (rn rc : Nat) (cs : List Rate) (l : List UInt8) (s : ByteArray) (hs : s = ⟨l.toArray⟩) (talk : Int) (hr : RateRow w ra rn cs) (hg : DeckGood ds dl dp cs) (hl : l.length ≤ 1000) (h5 : 0 ≤ talk ∧ talk ≤ 86400000) :
    Calls Tryz.prog 56 #[.agg #[.int .i64 df, .int .i64 ds, .int .i64 dl, .int .i64 dp, .slice ra rn rc], .string s, .int .i64 talk] w (PriceOfPost (priceV ds dl dp cs l talk) w) := by
  subst hs
  exact priceOf_any w df ds dl dp ra rn rc cs l talk hr hg hl h5
/-- The error of Price; what it answers. -/
def priceE (d : Deck) (n : List UInt8) (talk : Int) : Int := if deckErr d ≠ 0 then deckErr d else if isNumB n = false then 3 else if inB talk 0 86400000 = false then 1 else 0
def priceA (d : Deck) (n : List UInt8) (talk : Int) : Int × Bool := if priceE d n talk = 0 then priceV d.setup d.least d.step d.rates (n.drop 1) talk else (0, false)
def PricePost (d : Deck) (n : List UInt8) (talk : Int) (w : World) (e : Ending) (w' : World) : Prop := e = .returned (.tuple #[.int .i64 (priceA d n talk).1, .bool (priceA d n talk).2, .int .i64 (priceE d n talk)]) ∧ Below w.heap.size w w'
theorem price_bad {d : Deck} {n : List UInt8} {talk E : Int} {w w' : World} (h : priceE d n talk = E) (hE : E ≠ 0) (hb : Below w.heap.size w w') : PricePost d n talk w (.returned (.tuple #[.int .i64 0, .bool false, .int .i64 E])) w' := by
  unfold PricePost priceA
  rw [h, if_neg hE]
  exact ⟨rfl, hb⟩
theorem price_fine {d : Deck} {n : List UInt8} {talk : Int} {w w' : World} (h : priceE d n talk = 0) (hb : Below w.heap.size w w') : PricePost d n talk w (.returned (.tuple #[.int .i64 (priceV d.setup d.least d.step d.rates (n.drop 1) talk).1, .bool (priceV d.setup d.least d.step d.rates (n.drop 1) talk).2, .int .i64 0])) w' := by
  unfold PricePost priceA
  rw [h, if_pos rfl]
  exact ⟨rfl, hb⟩
set_option maxRecDepth 100000 in
set_option maxHeartbeats 2000000 in
theorem carPrice_any (w : World) (d : Deck) (hd : DeckFine w d) (n : List UInt8) (hn : n.length ≤ 1000) (talk : Int) : Calls Tryz.prog 27 #[.agg d.cells.toArray, .string ⟨n.toArray⟩, .int .i64 talk] w (PricePost d n talk w) := by
  have hlen := hd.row.len
  have hfew := hd.row.few
  have hgood := fun h => deck_good (d := d) (by omega) h
  have HG := Lib.hid hgood
  have HCD := Lib.hid (fun W (h : DeckFine W d) => checkDeck_any W d h)
  have HE : Hid (∀ E, priceE d n talk = E → priceE d n talk = E) := fun _ h => h
  have HR0 := Lib.hid hd
  have HBD : Hid (∀ W, Below w.heap.size w W → ∀ E, E ≠ 0 → priceE d n talk = E → PricePost d n talk w (.returned (.tuple #[.int .i64 0, .bool false, .int .i64 E])) W) := fun W hW E hE h => price_bad h hE hW
  have HOK : Hid (∀ W, Below w.heap.size w W → priceE d n talk = 0 → PricePost d n talk w (.returned (.tuple #[.int .i64 (priceV d.setup d.least d.step d.rates (n.drop 1) talk).1, .bool (priceV d.setup d.least d.step d.rates (n.drop 1) talk).2, .int .i64 0])) W) := fun W hW h => price_fine h hW
  have HEE : Hid (priceE d n talk = if deckErr d ≠ 0 then deckErr d else if isNumB n = false then 3 else if inB talk 0 86400000 = false then 1 else 0) := rfl
  generalize priceE d n talk = X at HBD HOK HEE
  clear hd hlen hfew hgood HE
  obtain ⟨df, ds, dl, dp, ra, rn, rc, rates⟩ := d
  generalize hpp : PricePost ⟨df, ds, dl, dp, ra, rn, rc, rates⟩ n talk w = PP at HBD HOK ⊢
  clear hpp
  generalize deckErr ⟨df, ds, dl, dp, ra, rn, rc, rates⟩ = DE at HEE HG HCD
  show Calls Tryz.prog 27 #[.agg #[.int .i64 df, .int .i64 ds, .int .i64 dl, .int .i64 dp, .slice ra rn rc], .string ⟨n.toArray⟩, .int .i64 talk] w _
  simp only [Deck.cells] at HG HOK HCD
  go_enter Tryz.func27, Tryz.ntmps27
  go_upto_region 1 with (fail)
  have HD : Hid (Blk (w.alloc (.cells #[.int .i64 df, .int .i64 ds, .int .i64 dl, .int .i64 dp, .slice ra rn rc] 28)) w.heap.size [.int .i64 df, .int .i64 ds, .int .i64 dl, .int .i64 dp, .slice ra rn rc] 28) := Blk.new w [.int .i64 df, .int .i64 ds, .int .i64 dl, .int .i64 dp, .slice ra rn rc] 28
  have HB : Hid (Below w.heap.size w (w.alloc (.cells #[.int .i64 df, .int .i64 ds, .int .i64 dl, .int .i64 dp, .slice ra rn rc] 28))) := ext_alloc (Below.refl _ _)
  have hsz : w.heap.size < (w.alloc (.cells #[.int .i64 df, .int .i64 ds, .int .i64 dl, .int .i64 dp, .slice ra rn rc] 28)).heap.size := by simp
  generalize w.alloc _ = W at HD HB hsz ⊢
  have HRA : Hid (W.rangeAt w.heap.size 0 [.int .i64 df, .int .i64 ds, .int .i64 dl, .int .i64 dp, .slice ra rn rc]) := fun j v hj => by rw [Nat.zero_add]; exact HD.out.cell j hj
  as_aux_lemma =>
    go_wp2_with (refine wpList_load_mid rfl 28 (.tmp 3) rfl w.heap.size 0 rfl [.int .i64 df, .int .i64 ds, .int .i64 dl, .int .i64 dp, .slice ra rn rc] _ HRA.out Tryz.underlying28 rfl Tryz.deckSz ?_)
    refine (HCD.out _ (HR0.out.below HB.out)).mono ?_
    rintro e w1 ⟨rfl, hb1⟩
    have HB1 := Lib.hid (ext_trans HB.out hb1)
    have HD1 := Lib.hid (HD.out.below hb1)
    have hz1 : w.heap.size < w1.heap.size := by have := hb1.size; omega
    clear hb1 HB HD HRA HCD hsz
    by_cases hDE : DE = 0
    case neg =>
      obtain rfl : X = DE := by rw [HEE.out, if_pos hDE]
      have HF := Lib.hid (HBD.out w1 HB1.out X hDE rfl)
      clear HBD HOK HEE HG
      as_aux_lemma =>
        go_wp2_with fail
        go_ret3
        exact HF.out
    subst hDE
    have HE1 : Hid (X = if isNumB n = false then 3 else if inB talk 0 86400000 = false then 1 else 0) := by show X = _; rw [HEE.out, if_neg (by decide)]
    clear HEE
    have HIN := Lib.hid (isNumber_l n w1 (by omega))
    have HNL : Hid (isNumB n = true → 1 ≤ n.length) := fun h => by obtain ⟨d, rfl, -⟩ := num_parts h; simp
    generalize isNumB n = g1 at HE1 HIN HNL
    skip
    as_aux_lemma =>
      go_wp2_with fail
      refine HIN.out.mono ?_
      rintro e w2 ⟨rfl, hb2⟩
      have HB2 := Lib.hid (ext_trans HB1.out hb2)
      have HD2 := Lib.hid (HD1.out.below hb2)
      have hz2 : w.heap.size < w2.heap.size := by have := hb2.size; omega
      clear hb2 HB1 HD1 HIN
      cases g1
      · obtain rfl : X = 3 := by rw [HE1.out, if_pos rfl]
        have HF := Lib.hid (HBD.out w2 HB2.out 3 (by decide) rfl)
        clear HBD HOK HE1 HG
        skip
        as_aux_lemma =>
          go_wp2_with fail
          go_ret3
          exact HF.out
      have HE2 : Hid (X = if inB talk 0 86400000 = false then 1 else 0) := by show X = _; rw [HE1.out, if_neg (by decide)]
      have HTK : Hid (inB talk 0 86400000 = true → 0 ≤ talk ∧ talk ≤ 86400000) := fun h => by unfold inB at h; simpa using h
      clear HE1
      skip
      as_aux_lemma =>
        go_wp2_with fail
        refine (within_c talk 0 86400000 _).mono ?_
        rintro e w3 ⟨rfl, rfl⟩
        generalize inB talk 0 86400000 = g2 at HE2 HTK ⊢
        cases g2
        · obtain rfl : X = 1 := by rw [HE2.out, if_pos rfl]
          have HF := Lib.hid (HBD.out w2 HB2.out 1 (by decide) rfl)
          clear HBD HOK HE2 HG
          skip
          as_aux_lemma =>
            go_wp2_with fail
            go_ret3
            exact HF.out
        obtain rfl : X = 0 := by rw [HE2.out, if_neg (by decide)]
        have ht := HTK.out rfl
        have HF := Lib.hid (fun W hW => HOK.out W hW rfl)
        have HDG := Lib.hid (HG.out (by trivial))
        clear HBD HOK HE2 HG HTK
        have HRA : Hid (w2.rangeAt w.heap.size 0 [.int .i64 df, .int .i64 ds, .int .i64 dl, .int .i64 dp, .slice ra rn rc]) := fun j v hj => by rw [Nat.zero_add]; exact HD2.out.cell j hj
        have HRR : Hid (RateRow w2 ra rn rates) := (HR0.out.below HB2.out).row
        have hnd : (n.drop 1).length ≤ 1000 := by rw [List.length_drop]; omega
        simp only [List.drop_one] at HF
        have hn1 : 1 ≤ n.length := HNL.out (by trivial)
        have d0 := HD2.out.cell 0 rfl
        have d1 := HD2.out.cell 1 rfl
        have d2 := HD2.out.cell 2 rfl
        have d3 := HD2.out.cell 3 rfl
        have d4 := HD2.out.cell 4 rfl
        clear HNL HR0 HD2
        have HPO : Hid (∀ W, Below w2.heap.size w2 W → Calls Tryz.prog 56 #[.agg #[.int .i64 df, .int .i64 ds, .int .i64 dl, .int .i64 dp, .slice ra rn rc], .string ((⟨n.toArray⟩ : ByteArray).extract 1 n.length), .int .i64 talk] W (PriceOfPost (priceV ds dl dp rates (n.drop 1) talk) W)) := fun W hW => priceOf_str W df ds dl dp ra rn rc rates (n.drop 1) _ (extract_drop n 1) talk (HRR.out.below hW) HDG.out hnd ht
        go_wp2_with fail
        go_region_with (go_at_call 56; refine (HPO.out _ (ext_drew (Below.refl _ _))).mono ?_; rintro e w3 ⟨rfl, hb3⟩)
        all_goals
          have HF3 := Lib.hid (HF.out _ (ext_trans (ext_drew HB2.out) hb3))
          clear HF hb3
          go_wp2_with fail
          go_ret3
          exact HF3.out
end Go.Proofs.YtacekbbndamkmaaGreatDoor

set_option linter.unusedVariables false
set_option linter.unusedSimpArgs false
namespace Go.Proofs.YtacekbbndamkmaaGreatDoor
open Go.RowKit

theorem add_str (e : Operand → Value) (o : Oper) (w : World) (x y : Operand) (a b : List UInt8) (ho : o.op = .binOp .add 9 x y 9) (hx : e x = .string ⟨a.toArray⟩) (hy : e y = .string ⟨b.toArray⟩) (hl : a.length + b.length ≤ 1000000) : (execOp e o).run Tryz.prog w = .ok (.value (.string ⟨(a ++ b).toArray⟩)) w := by
  unfold execOp
  rw [ho]
  simp only [hx, hy]
  rw [← cat_str a b]
  go_simp
  omega
theorem bld_keep {T e : TypeId} {B b : Nat} {bs : List Value} {w w' : World} (h : Lib.IsBuilder T e B b bs w) (hb : Below w.heap.size w w') : Lib.IsBuilder T e B b bs w' := by
  have one : ∀ p, Lib.BuilderAt T e B b p bs w → Lib.BuilderAt T e B b p bs w' := fun p h => by
    have hl := h.lt
    obtain ⟨hB, v, hk, ho, hn⟩ := h
    exact ⟨hB, v, (hb.block b hl).trans hk, own_keep ho hb, hn⟩
  exact h.imp (one _) (one _)
theorem bld_lt {T e : TypeId} {B b : Nat} {bs : List Value} {w : World} (h : Lib.IsBuilder T e B b bs w) : b < w.heap.size := h.elim (·.lt) (·.lt)
theorem itoa_any (n : Int) (h0 : -9223372036854775808 ≤ n) (h1 : n ≤ 9223372036854775807) (S : Nat) (w : World) (hT : TabW S w) : Calls Tryz.prog 68 #[.int .i64 n] w fun e w' => e = .returned (.string ⟨(Lib.itoa n).toArray⟩) ∧ Below w.heap.size w w' := by
  refine (Tryz.strconv_Itoa n h0 h1 w hT.1).mono ?_
  rintro e w' ⟨rfl, k, os, rfl⟩
  exact ⟨rfl, below_grow _ _ _⟩
/-- The first line of a deck's text, and one for each rate. -/
def headT (f s l p : Int) : List UInt8 := [100, 101, 99, 107, 32] ++ Lib.itoa f ++ [32] ++ Lib.itoa s ++ [32] ++ Lib.itoa l ++ [32] ++ Lib.itoa p ++ [10]
def priceT (r : Rate) : List UInt8 := if r.closed = true then [99, 108, 111, 115, 101, 100] else Lib.itoa r.price
def preT (r : Rate) : List UInt8 := if r.p = [] then [45] else r.p
def rateT (r : Rate) : List UInt8 := [114, 97, 116, 101, 32] ++ preT r ++ [32] ++ priceT r ++ [10]
def deckT (f s l p : Int) (rs : List Rate) : List UInt8 := headT f s l p ++ (rs.map rateT).flatten
theorem itoa_len (n : Int) (h0 : -2000000000000 ≤ n) (h1 : n ≤ 2000000000000) : (Lib.itoa n).length ≤ 21 := Lib.itoa_length_le n (by omega) (by omega)
theorem headT_len {f s l p : Int} (hf : -2000000000000 ≤ f ∧ f ≤ 2000000000000) (hs : -2000000000000 ≤ s ∧ s ≤ 2000000000000) (hl : -2000000000000 ≤ l ∧ l ≤ 2000000000000) (hp : -2000000000000 ≤ p ∧ p ≤ 2000000000000) : (headT f s l p).length ≤ 100 := by
  have h1 := itoa_len f hf.1 hf.2
  have h2 := itoa_len s hs.1 hs.2
  have h3 := itoa_len l hl.1 hl.2
  have h4 := itoa_len p hp.1 hp.2
  unfold headT
  simp only [List.length_append, List.length_cons, List.length_nil]
  omega
theorem rateT_len {r : Rate} (h1 : r.p.length ≤ 100000) (h2 : -2000000000000 ≤ r.price ∧ r.price ≤ 2000000000000) : (rateT r).length ≤ 100100 ∧ (preT r).length ≤ 100000 ∧ (priceT r).length ≤ 21 := by
  have h3 := itoa_len r.price h2.1 h2.2
  have h4 : (preT r).length ≤ 100000 := by
    unfold preT
    split
    · decide
    · exact h1
  have h5 : (priceT r).length ≤ 21 := by
    unfold priceT
    split
    · decide
    · exact h3
  refine ⟨?_, h4, h5⟩
  unfold rateT
  simp only [List.length_append, List.length_cons, List.length_nil]
  omega
theorem rate_in {w : World} {a : Option Addr} {n : Nat} {l : List Rate} (h : RateRow w a n l) {i : Nat} (hi : i < l.length) : (l.getD i noRate).p.length ≤ 100000 ∧ -2000000000000 ≤ (l.getD i noRate).price ∧ (l.getD i noRate).price ≤ 2000000000000 := h.each i hi
theorem cells_app (a b : List UInt8) : Lib.byteCells a ++ Lib.strCells ⟨b.toArray⟩ = Lib.byteCells (a ++ b) := by
  show Lib.byteCells a ++ Lib.byteCells b = _
  unfold Lib.byteCells
  rw [List.map_append]
theorem size_l (l : List UInt8) : (⟨l.toArray⟩ : ByteArray).size = l.length := by show l.toArray.size = _; simp
theorem bld_writeL (B b : Nat) (bs : List Value) (l : List UInt8) (w : World) (h : Lib.IsBuilder 101 5 B b bs w) (hlen : bs.length + l.length ≤ 140737488355328) (hBw : B ≤ w.heap.size) :
    Calls Tryz.prog 69 #[.pointer (some ⟨b, 0, none⟩), .string ⟨l.toArray⟩] w fun e w' => e = .returned (.tuple #[.int .i64 (l.length : Int), .nilIface]) ∧ (Lib.BuilderAt 101 5 B b (.pointer (some ⟨b, 0, none⟩)) (bs ++ Lib.strCells ⟨l.toArray⟩) w' ∧ Below B w w') := by
  have h9 := bld_write B b bs ⟨l.toArray⟩ w h (by rw [size_l]; exact hlen) hBw
  rw [size_l] at h9
  exact h9
theorem cells_len (a : List UInt8) : (Lib.byteCells a).length = a.length := by unfold Lib.byteCells; rw [List.length_map]
def ratesT (rs : List Rate) (i : Nat) : List UInt8 := ((rs.take i).map rateT).flatten
theorem ratesT_step (rs : List Rate) (i : Nat) (hi : i < rs.length) : ratesT rs (i + 1) = ratesT rs i ++ rateT (rs.getD i noRate) := by
  unfold ratesT
  rw [List.take_add_one, List.getElem?_eq_getElem hi, List.map_append, List.flatten_append]
  simp [List.getD_eq_getElem?_getD, hi]
theorem ratesT_len {w : World} {a : Option Addr} {n : Nat} {rs : List Rate} (h : RateRow w a n rs) : ∀ i, i ≤ rs.length → (ratesT rs i).length ≤ 100100 * i
  | 0, _ => by simp [ratesT]
  | i + 1, hi => by
    rw [ratesT_step rs i (by omega), List.length_append]
    have h1 := ratesT_len h i (by omega)
    have h2 := rate_in h (show i < rs.length by omega)
    have h3 := (rateT_len h2.1 h2.2).1
    omega
/-- A text, and an error. -/
def TextPost (t : List UInt8) (E : Int) (w : World) (e : Ending) (w' : World) : Prop := e = .returned (.tuple #[.string ⟨t.toArray⟩, .int .i64 E]) ∧ Below w.heap.size w w'
def OutStr (t : List UInt8) (w : World) (e : Ending) (w' : World) : Prop := e = .returned (.string ⟨t.toArray⟩) ∧ Below w.heap.size w w'
set_option maxRecDepth 100000 in
set_option maxHeartbeats 8000000 in
theorem carText_any (w : World) (d : Deck) (hd : DeckFine w d) (E : Int) (hE : deckErr d = E) (hTL : (deckT d.from_ d.setup d.least d.step d.rates).length ≤ 200000) (S : Nat) (hT : TabW S w) (hS : S ≤ w.heap.size) : Calls Tryz.prog 31 #[.agg d.cells.toArray] w (TextPost (if E = 0 then deckT d.from_ d.setup d.least d.step d.rates else []) E w) := by
  have HCA : Hid (∀ W, Below w.heap.size w W → Calls Tryz.prog 25 #[.agg d.cells.toArray] W (ErrPost E W)) := fun W hW => hE ▸ checkDeck_any W d (hd.below hW)
  have hr := hd.row
  have hl := hd.row.len
  have h1 := hd.b1
  have h2 := hd.b2
  have h3 := hd.b3
  have h4 := hd.b4
  clear hd hE
  obtain ⟨df, ds, dl, dp, da, dn, dc, rates⟩ := d
  simp only at hr hl h1 h2 h3 h4 hTL ⊢
  subst hl
  have HCA2 : Hid (∀ W, Below w.heap.size w W → Calls Tryz.prog 25 #[.agg #[.int .i64 df, .int .i64 ds, .int .i64 dl, .int .i64 dp, .slice da rates.length dc]] W (ErrPost E W)) := HCA.out
  show Calls Tryz.prog 31 #[.agg #[.int .i64 df, .int .i64 ds, .int .i64 dl, .int .i64 dp, .slice da rates.length dc]] w _
  clear HCA
  have HR := Lib.hid hr
  have HLEN : Hid (ratesT rates rates.length = (rates.map rateT).flatten) := by show _ = _; unfold ratesT; rw [List.take_length]
  have HDT : Hid (deckT df ds dl dp rates = headT df ds dl dp ++ ratesT rates rates.length) := by show _ = _; rw [HLEN.out]; rfl
  have HRL : Hid (∀ i, i ≤ rates.length → (ratesT rates i).length ≤ 100100 * i) := ratesT_len hr
  have hfew := hr.few
  have hHL := headT_len h1 h2 h3 h4
  have hq0 := itoa_len df h1.1 h1.2
  have hq1 := itoa_len ds h2.1 h2.2
  have hq2 := itoa_len dl h3.1 h3.2
  have hq3 := itoa_len dp h4.1 h4.2
  have HTX : Hid ([100, 101, 99, 107, 32] ++ Lib.itoa df ++ [32] ++ Lib.itoa ds ++ [32] ++ Lib.itoa dl ++ [32] ++ Lib.itoa dp ++ [10] = headT df ds dl dp) := rfl
  generalize headT df ds dl dp = HT at HTX HDT hHL
  clear HLEN hr
  generalize deckT df ds dl dp rates = DT at HDT hTL ⊢
  by_cases hE : E = 0
  case neg =>
    rw [if_neg hE]
    have hEb : (E == 0) = false := beq_eq_false_iff_ne.2 hE
    clear HDT HR HRL HTX hq0 hq1 hq2 hq3 hHL
    have HX0 : Hid (Blk (w.alloc (.cells #[.int .i64 df, .int .i64 ds, .int .i64 dl, .int .i64 dp, .slice da rates.length dc] 28)) w.heap.size [.int .i64 df, .int .i64 ds, .int .i64 dl, .int .i64 dp, .slice da rates.length dc] 28) := Blk.new w _ _
    have HA : Hid (Below w.heap.size w (w.alloc (.cells #[.int .i64 df, .int .i64 ds, .int .i64 dl, .int .i64 dp, .slice da rates.length dc] 28))) := ext_alloc (Below.refl _ _)
    go_enter Tryz.func31, Tryz.ntmps31
    as_aux_lemma =>
      go_upto_region 1 with (fail)
      generalize w.alloc (.cells #[.int .i64 df, .int .i64 ds, .int .i64 dl, .int .i64 dp, .slice da rates.length dc] 28) = w0 at HX0 HA ⊢
      generalize w.heap.size = X at HX0 ⊢
      have x0 := HX0.out.cell 0 rfl
      have x1 := HX0.out.cell 1 rfl
      have x2 := HX0.out.cell 2 rfl
      have x3 := HX0.out.cell 3 rfl
      have x4 := HX0.out.cell 4 rfl
      as_aux_lemma =>
        go_wp2_with fail
        refine (HCA2.out w0 HA.out).mono ?_
        rintro e w2 ⟨rfl, hb2⟩
        have HB2 := Lib.hid (ext_trans HA.out hb2)
        clear hb2 HX0 HA HCA2 x0 x1 x2 x3 x4
        as_aux_lemma =>
          go_wp2_with fail
          go_ret2
          exact ⟨rfl, HB2.out⟩
  subst hE
  rw [if_pos rfl]
  have HX0 : Hid (Blk (w.alloc (.cells #[.int .i64 df, .int .i64 ds, .int .i64 dl, .int .i64 dp, .slice da rates.length dc] 28)) w.heap.size [.int .i64 df, .int .i64 ds, .int .i64 dl, .int .i64 dp, .slice da rates.length dc] 28) := Blk.new w _ _
  have HA : Hid (Below w.heap.size w (w.alloc (.cells #[.int .i64 df, .int .i64 ds, .int .i64 dl, .int .i64 dp, .slice da rates.length dc] 28))) := ext_alloc (Below.refl _ _)
  go_enter Tryz.func31, Tryz.ntmps31
  as_aux_lemma =>
    go_upto_region 1 with (fail)
    generalize w.alloc (.cells #[.int .i64 df, .int .i64 ds, .int .i64 dl, .int .i64 dp, .slice da rates.length dc] 28) = w0 at HX0 HA ⊢
    obtain ⟨X, hX⟩ : ∃ X, X = w.heap.size := ⟨_, rfl⟩
    have hwX : w.heap.size ≤ X := by omega
    rw [← hX] at HX0
    simp only [← hX]
    clear hX
    have x0 := HX0.out.cell 0 rfl
    have x1 := HX0.out.cell 1 rfl
    have x2 := HX0.out.cell 2 rfl
    have x3 := HX0.out.cell 3 rfl
    have x4 := HX0.out.cell 4 rfl
    as_aux_lemma =>
      go_wp2_with fail
      refine (HCA2.out w0 HA.out).mono ?_
      rintro e w9 ⟨rfl, hb2⟩
      have HX9 := Lib.hid (HX0.out.below hb2)
      have HA9 := Lib.hid (ext_trans HA.out hb2)
      clear hb2 HX0 HA HCA2 x0 x1 x2 x3 x4
      have HX0 := HX9
      have HA := HA9
      clear HX9 HA9
      have hXB0 := HX0.out.lt
      have hSB0 : S ≤ w9.heap.size := Nat.le_trans hS HA.out.size
      have HX : Hid (Blk (w9.alloc (.cells #[.pointer none, .slice none 0 0] 101)) X [.int .i64 df, .int .i64 ds, .int .i64 dl, .int .i64 dp, .slice da rates.length dc] 28) := HX0.out.alloc _
      have HBD : Hid (Lib.IsBuilder 101 5 w9.heap.size w9.heap.size [] (w9.alloc (.cells #[.pointer none, .slice none 0 0] 101))) := Lib.fresh_isBuilder _ _ w9
      have HB1 : Hid (Below w.heap.size w (w9.alloc (.cells #[.pointer none, .slice none 0 0] 101))) := ext_trans HA.out (ext_alloc (Below.refl _ _))
      have hBw0 : w.heap.size ≤ w9.heap.size := HA.out.size
      clear HX0 HA
      as_aux_lemma =>
        go_upto_region 6 with (fail)
        generalize w9.alloc (.cells #[.pointer none, .slice none 0 0] 101) = w1 at HX HBD HB1 ⊢
        obtain ⟨B, hB⟩ : ∃ B, B = w9.heap.size := ⟨_, rfl⟩
        rw [← hB] at HBD hXB0 hSB0 hBw0
        simp only [← hB]
        clear hB
        have hXB := hXB0
        have hSB := hSB0
        have HTB := Lib.hid (tab_below hT HB1.out hS)
        clear hXB0 hSB0
        have HBq : Hid (Below B w1 w1.drew) := (Below.refl _ _).drew
        have HBL : Hid (Lib.IsBuilder 101 5 B B [] w1.drew) := bld_keep HBD.out (ext_drew (Below.refl _ _))
        refine region_seqI (S := fun W => Below B w1 W) [(true, 0), (true, 1), (true, 2), (true, 6), (true, 7), (true, 8), (true, 12), (true, 13), (true, 14), (true, 18), (true, 19), (true, 20), (false, 3), (true, 4), (true, 5), (false, 9), (true, 10), (true, 11), (false, 15), (true, 16), (true, 17), (false, 21), (true, 22), (true, 23), (false, 24)] (by kernel_rfl) (by kernel_rfl) rfl (by kernel_rfl) HBq.out ?_
        generalize w1.drew = wd at HBq HBL ⊢
        simp only [seqOps, List.getD_cons_zero, List.getD_cons_succ]
        refine seqI_take (v := .func (.func 68) #[] #[]) rfl (fun W hW => by go_simp) (fun _ _ _ h => h) ?_
        simp only [Act.put, List.setIfInBounds_toArray, List.set_cons_zero, List.set_cons_succ]
        refine seqI_take (v := .pointer (some ⟨X, 0, none⟩)) rfl (fun W hW => by go_simp) (fun _ _ _ h => h) ?_
        simp only [Act.put, List.setIfInBounds_toArray, List.set_cons_zero, List.set_cons_succ]
        refine seqI_take (v := .int .i64 df) rfl (fun W hW => by have m0 := (HX.out.same (hW.block X hXB)).cell 0 rfl; go_simp) (fun _ _ _ h => h) ?_
        simp only [Act.put, List.setIfInBounds_toArray, List.set_cons_zero, List.set_cons_succ]
        refine seqI_take (v := .func (.func 68) #[] #[]) rfl (fun W hW => by go_simp) (fun _ _ _ h => h) ?_
        simp only [Act.put, List.setIfInBounds_toArray, List.set_cons_zero, List.set_cons_succ]
        refine seqI_take (v := .pointer (some ⟨X, 1, none⟩)) rfl (fun W hW => by go_simp) (fun _ _ _ h => h) ?_
        simp only [Act.put, List.setIfInBounds_toArray, List.set_cons_zero, List.set_cons_succ]
        refine seqI_take (v := .int .i64 ds) rfl (fun W hW => by have m0 := (HX.out.same (hW.block X hXB)).cell 1 rfl; go_simp) (fun _ _ _ h => h) ?_
        simp only [Act.put, List.setIfInBounds_toArray, List.set_cons_zero, List.set_cons_succ]
        refine seqI_take (v := .func (.func 68) #[] #[]) rfl (fun W hW => by go_simp) (fun _ _ _ h => h) ?_
        simp only [Act.put, List.setIfInBounds_toArray, List.set_cons_zero, List.set_cons_succ]
        refine seqI_take (v := .pointer (some ⟨X, 2, none⟩)) rfl (fun W hW => by go_simp) (fun _ _ _ h => h) ?_
        simp only [Act.put, List.setIfInBounds_toArray, List.set_cons_zero, List.set_cons_succ]
        refine seqI_take (v := .int .i64 dl) rfl (fun W hW => by have m0 := (HX.out.same (hW.block X hXB)).cell 2 rfl; go_simp) (fun _ _ _ h => h) ?_
        simp only [Act.put, List.setIfInBounds_toArray, List.set_cons_zero, List.set_cons_succ]
        refine seqI_take (v := .func (.func 68) #[] #[]) rfl (fun W hW => by go_simp) (fun _ _ _ h => h) ?_
        simp only [Act.put, List.setIfInBounds_toArray, List.set_cons_zero, List.set_cons_succ]
        refine seqI_take (v := .pointer (some ⟨X, 3, none⟩)) rfl (fun W hW => by go_simp) (fun _ _ _ h => h) ?_
        simp only [Act.put, List.setIfInBounds_toArray, List.set_cons_zero, List.set_cons_succ]
        refine seqI_take (v := .int .i64 dp) rfl (fun W hW => by have m0 := (HX.out.same (hW.block X hXB)).cell 3 rfl; go_simp) (fun _ _ _ h => h) ?_
        simp only [Act.put, List.setIfInBounds_toArray, List.set_cons_zero, List.set_cons_succ]
        refine seqI_call 68 #[.int .i64 df] rfl (by go_simp) (itoa_any df (by omega) (by omega) S _ (tab_below HTB.out HBq.out hSB)) ?_
        rintro e wq0 ⟨rfl, hb⟩
        have HBp := Lib.hid (HBq.out.trans (hb.mono (Nat.le_of_lt (bld_lt HBL.out))))
        have HBM := Lib.hid (bld_keep HBL.out hb)
        clear HBq HBL hb
        have HBq := HBp
        have HBL := HBM
        clear HBp HBM
        refine ⟨_, rfl, HBq.out, ?_⟩
        simp only [Act.put, List.setIfInBounds_toArray, List.set_cons_zero, List.set_cons_succ]
        generalize Lib.itoa df = q0 at hq0 HTX ⊢
        obtain ⟨s0, hs0⟩ : ∃ l : List UInt8, l = [100, 101, 99, 107, 32] ++ q0 := ⟨_, rfl⟩
        have hl0 : s0.length ≤ 26 := by rw [hs0]; simp only [List.length_append, List.length_cons, List.length_nil]; omega
        refine seqI_take (v := .string ⟨s0.toArray⟩) rfl (fun W hW => by rw [hs0]; exact add_str _ _ _ _ _ ([100, 101, 99, 107, 32]) q0 rfl rfl rfl (by first | omega | (simp only [List.length_append, List.length_cons, List.length_nil]; omega))) (fun _ _ _ h => h) ?_
        simp only [Act.put, List.setIfInBounds_toArray, List.set_cons_zero, List.set_cons_succ]
        have HS0 := Lib.hid hs0
        clear hs0
        obtain ⟨s1, hs1⟩ : ∃ l : List UInt8, l = s0 ++ [32] := ⟨_, rfl⟩
        have hl1 : s1.length ≤ 27 := by rw [hs1]; simp only [List.length_append, List.length_cons, List.length_nil]; omega
        refine seqI_take (v := .string ⟨s1.toArray⟩) rfl (fun W hW => by rw [hs1]; exact add_str _ _ _ _ _ (s0) [32] rfl rfl rfl (by first | omega | (simp only [List.length_append, List.length_cons, List.length_nil]; omega))) (fun _ _ _ h => h) ?_
        simp only [Act.put, List.setIfInBounds_toArray, List.set_cons_zero, List.set_cons_succ]
        have HS1 := Lib.hid hs1
        clear hs1
        refine seqI_call 68 #[.int .i64 ds] rfl (by go_simp) (itoa_any ds (by omega) (by omega) S _ (tab_below HTB.out HBq.out hSB)) ?_
        rintro e wq1 ⟨rfl, hb⟩
        have HBp := Lib.hid (HBq.out.trans (hb.mono (Nat.le_of_lt (bld_lt HBL.out))))
        have HBM := Lib.hid (bld_keep HBL.out hb)
        clear HBq HBL hb
        have HBq := HBp
        have HBL := HBM
        clear HBp HBM
        refine ⟨_, rfl, HBq.out, ?_⟩
        simp only [Act.put, List.setIfInBounds_toArray, List.set_cons_zero, List.set_cons_succ]
        generalize Lib.itoa ds = q1 at hq1 HTX ⊢
        obtain ⟨s2, hs2⟩ : ∃ l : List UInt8, l = s1 ++ q1 := ⟨_, rfl⟩
        have hl2 : s2.length ≤ 48 := by rw [hs2]; simp only [List.length_append, List.length_cons, List.length_nil]; omega
        refine seqI_take (v := .string ⟨s2.toArray⟩) rfl (fun W hW => by rw [hs2]; exact add_str _ _ _ _ _ (s1) q1 rfl rfl rfl (by first | omega | (simp only [List.length_append, List.length_cons, List.length_nil]; omega))) (fun _ _ _ h => h) ?_
        simp only [Act.put, List.setIfInBounds_toArray, List.set_cons_zero, List.set_cons_succ]
        have HS2 := Lib.hid hs2
        clear hs2
        obtain ⟨s3, hs3⟩ : ∃ l : List UInt8, l = s2 ++ [32] := ⟨_, rfl⟩
        have hl3 : s3.length ≤ 49 := by rw [hs3]; simp only [List.length_append, List.length_cons, List.length_nil]; omega
        refine seqI_take (v := .string ⟨s3.toArray⟩) rfl (fun W hW => by rw [hs3]; exact add_str _ _ _ _ _ (s2) [32] rfl rfl rfl (by first | omega | (simp only [List.length_append, List.length_cons, List.length_nil]; omega))) (fun _ _ _ h => h) ?_
        simp only [Act.put, List.setIfInBounds_toArray, List.set_cons_zero, List.set_cons_succ]
        have HS3 := Lib.hid hs3
        clear hs3
        refine seqI_call 68 #[.int .i64 dl] rfl (by go_simp) (itoa_any dl (by omega) (by omega) S _ (tab_below HTB.out HBq.out hSB)) ?_
        rintro e wq2 ⟨rfl, hb⟩
        have HBp := Lib.hid (HBq.out.trans (hb.mono (Nat.le_of_lt (bld_lt HBL.out))))
        have HBM := Lib.hid (bld_keep HBL.out hb)
        clear HBq HBL hb
        have HBq := HBp
        have HBL := HBM
        clear HBp HBM
        refine ⟨_, rfl, HBq.out, ?_⟩
        simp only [Act.put, List.setIfInBounds_toArray, List.set_cons_zero, List.set_cons_succ]
        generalize Lib.itoa dl = q2 at hq2 HTX ⊢
        obtain ⟨s4, hs4⟩ : ∃ l : List UInt8, l = s3 ++ q2 := ⟨_, rfl⟩
        have hl4 : s4.length ≤ 70 := by rw [hs4]; simp only [List.length_append, List.length_cons, List.length_nil]; omega
        refine seqI_take (v := .string ⟨s4.toArray⟩) rfl (fun W hW => by rw [hs4]; exact add_str _ _ _ _ _ (s3) q2 rfl rfl rfl (by first | omega | (simp only [List.length_append, List.length_cons, List.length_nil]; omega))) (fun _ _ _ h => h) ?_
        simp only [Act.put, List.setIfInBounds_toArray, List.set_cons_zero, List.set_cons_succ]
        have HS4 := Lib.hid hs4
        clear hs4
        obtain ⟨s5, hs5⟩ : ∃ l : List UInt8, l = s4 ++ [32] := ⟨_, rfl⟩
        have hl5 : s5.length ≤ 71 := by rw [hs5]; simp only [List.length_append, List.length_cons, List.length_nil]; omega
        refine seqI_take (v := .string ⟨s5.toArray⟩) rfl (fun W hW => by rw [hs5]; exact add_str _ _ _ _ _ (s4) [32] rfl rfl rfl (by first | omega | (simp only [List.length_append, List.length_cons, List.length_nil]; omega))) (fun _ _ _ h => h) ?_
        simp only [Act.put, List.setIfInBounds_toArray, List.set_cons_zero, List.set_cons_succ]
        have HS5 := Lib.hid hs5
        clear hs5
        refine seqI_call 68 #[.int .i64 dp] rfl (by go_simp) (itoa_any dp (by omega) (by omega) S _ (tab_below HTB.out HBq.out hSB)) ?_
        rintro e wq3 ⟨rfl, hb⟩
        have HBp := Lib.hid (HBq.out.trans (hb.mono (Nat.le_of_lt (bld_lt HBL.out))))
        have HBM := Lib.hid (bld_keep HBL.out hb)
        clear HBq HBL hb
        have HBq := HBp
        have HBL := HBM
        clear HBp HBM
        refine ⟨_, rfl, HBq.out, ?_⟩
        simp only [Act.put, List.setIfInBounds_toArray, List.set_cons_zero, List.set_cons_succ]
        generalize Lib.itoa dp = q3 at hq3 HTX ⊢
        obtain ⟨s6, hs6⟩ : ∃ l : List UInt8, l = s5 ++ q3 := ⟨_, rfl⟩
        have hl6 : s6.length ≤ 92 := by rw [hs6]; simp only [List.length_append, List.length_cons, List.length_nil]; omega
        refine seqI_take (v := .string ⟨s6.toArray⟩) rfl (fun W hW => by rw [hs6]; exact add_str _ _ _ _ _ (s5) q3 rfl rfl rfl (by first | omega | (simp only [List.length_append, List.length_cons, List.length_nil]; omega))) (fun _ _ _ h => h) ?_
        simp only [Act.put, List.setIfInBounds_toArray, List.set_cons_zero, List.set_cons_succ]
        have HS6 := Lib.hid hs6
        clear hs6
        obtain ⟨s7, hs7⟩ : ∃ l : List UInt8, l = s6 ++ [10] := ⟨_, rfl⟩
        have hl7 : s7.length ≤ 93 := by rw [hs7]; simp only [List.length_append, List.length_cons, List.length_nil]; omega
        refine seqI_take (v := .string ⟨s7.toArray⟩) rfl (fun W hW => by rw [hs7]; exact add_str _ _ _ _ _ (s6) [10] rfl rfl rfl (by first | omega | (simp only [List.length_append, List.length_cons, List.length_nil]; omega))) (fun _ _ _ h => h) ?_
        simp only [Act.put, List.setIfInBounds_toArray, List.set_cons_zero, List.set_cons_succ]
        have HS7 := Lib.hid hs7
        clear hs7
        have htx : s7 = HT := by rw [HS7.out, HS6.out, HS5.out, HS4.out, HS3.out, HS2.out, HS1.out, HS0.out]; exact HTX.out
        rw [htx]
        clear htx HTX HS0 HS1 HS2 HS3 HS4 HS5 HS6 HS7
        refine seqI_call 69 #[.pointer (some ⟨B, 0, none⟩), .string ⟨HT.toArray⟩] rfl (by go_simp) (bld_writeL B B [] HT _ HBL.out (by rw [List.length_nil]; omega) (Nat.le_of_lt (bld_lt HBL.out))) ?_
        rintro e w2 ⟨rfl, hb2, hbb⟩
        have HBp := Lib.hid (HBq.out.trans hbb)
        have HBM : Hid (Lib.IsBuilder 101 5 B B (Lib.byteCells HT) w2) := Or.inr hb2
        clear HBq HBL hb2 hbb
        have HBq := HBp
        have HBL := HBM
        clear HBp HBM
        refine ⟨_, rfl, HBq.out, ?_⟩
        simp only [Act.put, List.setIfInBounds_toArray, List.set_cons_zero, List.set_cons_succ]
        refine seqI_nil ?_
        clear hq0 hq1 hq2 hq3 hl0 hl1 hl2 hl3 hl4 hl5 hl6 hl7
        have x4 := (HX.out.same (HBq.out.block X hXB)).cell 4 rfl
        have HBZ : Hid (Lib.IsBuilder 101 5 B B (Lib.byteCells (HT ++ ratesT rates 0)) w2) := by
          show Lib.IsBuilder _ _ _ _ _ _
          rw [show ratesT rates 0 = [] from rfl, List.append_nil]
          exact HBL.out
        clear HBL
        as_aux_lemma =>
          go_wp2_with fail
          clear x4
          go_loopw [44] (fun it wr => ∃ i : Nat, i ≤ rates.length ∧ it = .int .i64 i ∧ Hid (Lib.IsBuilder 101 5 B B (Lib.byteCells (HT ++ ratesT rates i)) wr) ∧ Hid (Below B w1 wr)) (fun it _ => rates.length - (intOf it).toNat)
          case atStart => exact ⟨0, Nat.zero_le _, rfl, HBZ.out, HBq.out⟩
          case round =>
            clear HBZ HBq
            obtain ⟨i, hin, rfl, HL, HB⟩ := hrel
            have hrl := HRL.out i hin
            by_cases hlt : i < rates.length
            case neg =>
              have hii : i = rates.length := by omega
              have hnn : ¬ (i : Int) < (rates.length : Int) := by omega
              have HDX : Hid (HT ++ ratesT rates i = DT) := by show _ = _; rw [hii, HDT.out]
              clear HDT HRL hii hlt
              as_aux_lemma =>
                go_wp2_with fail
                refine (Tryz.builder_LenT B B _ wr HL.out).mono ?_
                rintro e w9 ⟨rfl, hw9⟩
                replace hw9 := hw9.symm
                subst hw9
                have hlen : ¬ (200000 : Int) < ((Lib.byteCells (HT ++ ratesT rates i)).length : Int) := by rw [cells_len, HDX.out]; omega
                rw [HDX.out] at HL hlen ⊢
                as_aux_lemma =>
                  go_wp2_with fail
                  refine (bld_string B B DT wr HL.out (Nat.le_of_lt (bld_lt HL.out))).mono ?_
                  rintro e w9 ⟨rfl, hb9⟩
                  have HB9 := Lib.hid (HB1.out.trans ((HB.out.trans hb9).mono hBw0))
                  clear hb9 HB HL
                  as_aux_lemma =>
                    go_wp2_with fail
                    go_ret2
                    exact ⟨rfl, HB9.out⟩
            have hlti : (i : Int) < (rates.length : Int) := by omega
            have HRW := Lib.hid (HR.out.below (HB1.out.trans (HB.out.mono hBw0)))
            obtain ⟨b, off, rfl, hb, hc⟩ := HRW.out.at (by omega)
            obtain ⟨k0, k1, k2⟩ := hc i hlt
            obtain ⟨hp1, hp2⟩ := rate_in HRW.out hlt
            have HST : Hid (ratesT rates (i + 1) = ratesT rates i ++ rateT (rates.getD i noRate)) := ratesT_step rates i hlt
            have hq := itoa_len (rates.getD i noRate).price hp2.1 hp2.2
            clear hc HRW
            generalize rates.getD i noRate = r at k0 k1 k2 hp1 hp2 HST hq
            obtain ⟨rp, rq, rl⟩ := r
            simp only at k0 k1 k2 hp1 hp2 hq
            have hA : Below wr.heap.size wr (wr.alloc (.cells #[.string ⟨rp.toArray⟩, .int .i64 rq, .bool rl] 51)) := ext_alloc (Below.refl _ _)
            have HP : Hid (Blk (wr.alloc (.cells #[.string ⟨rp.toArray⟩, .int .i64 rq, .bool rl] 51)) wr.heap.size [.string ⟨rp.toArray⟩, .int .i64 rq, .bool rl] 51) := Blk.new wr _ _
            have HL3 := Lib.hid (bld_keep HL.out hA)
            have HB3 := Lib.hid (HB.out.trans (hA.mono (Nat.le_of_lt (bld_lt HL.out))))
            clear hA HL HB
            as_aux_lemma =>
              go_upto_region 10 with (fail)
              generalize wr.alloc (.cells #[.string ⟨rp.toArray⟩, .int .i64 rq, .bool rl] 51) = w3 at HP HL3 HB3 ⊢
              generalize wr.heap.size = P at HP ⊢
              clear k0 k1 k2
              have HBq2 : Hid (Below w3.heap.size w3 w3.drew) := ext_drew (Below.refl _ _)
              have hS3 : S ≤ w3.heap.size := Nat.le_trans hSB (Nat.le_of_lt (bld_lt HL3.out))
              have HTB3 := Lib.hid (tab_below HTB.out HB3.out hSB)
              refine region_seqI (S := fun W => Below w3.heap.size w3 W) [(true, 0), (true, 1), (true, 2), (true, 3), (true, 4), (false, 5), (true, 6), (true, 7)] (by kernel_rfl) (by kernel_rfl) rfl (by kernel_rfl) HBq2.out ?_
              generalize w3.drew = wd at HBq2 ⊢
              simp only [seqOps, List.getD_cons_zero, List.getD_cons_succ]
              refine seqI_take (v := .pointer (some ⟨P, 0, none⟩)) rfl (fun W hW => by go_simp) (fun _ _ _ h => h) ?_
              simp only [Act.put, List.setIfInBounds_toArray, List.set_cons_zero, List.set_cons_succ]
              refine seqI_take (v := .string ⟨rp.toArray⟩) rfl (fun W hW => by have m0 := (HP.out.below hW).cell 0 rfl; go_simp) (fun _ _ _ h => h) ?_
              simp only [Act.put, List.setIfInBounds_toArray, List.set_cons_zero, List.set_cons_succ]
              refine seqI_take (v := .func (.func 68) #[] #[]) rfl (fun W hW => by go_simp) (fun _ _ _ h => h) ?_
              simp only [Act.put, List.setIfInBounds_toArray, List.set_cons_zero, List.set_cons_succ]
              refine seqI_take (v := .pointer (some ⟨P, 1, none⟩)) rfl (fun W hW => by go_simp) (fun _ _ _ h => h) ?_
              simp only [Act.put, List.setIfInBounds_toArray, List.set_cons_zero, List.set_cons_succ]
              refine seqI_take (v := .int .i64 rq) rfl (fun W hW => by have m0 := (HP.out.below hW).cell 1 rfl; go_simp) (fun _ _ _ h => h) ?_
              simp only [Act.put, List.setIfInBounds_toArray, List.set_cons_zero, List.set_cons_succ]
              refine seqI_call 68 #[.int .i64 rq] rfl (by go_simp) (itoa_any rq (by omega) (by omega) S _ (tab_below HTB3.out HBq2.out hS3)) ?_
              rintro e w4 ⟨rfl, hb4⟩
              have HBq4 := Lib.hid (ext_trans HBq2.out hb4)
              refine ⟨_, rfl, HBq4.out, ?_⟩
              simp only [Act.put, List.setIfInBounds_toArray, List.set_cons_zero, List.set_cons_succ]
              refine seqI_take (v := .string ⟨rp.toArray⟩) rfl (fun W hW => by go_simp) (fun _ _ _ h => h) ?_
              simp only [Act.put, List.setIfInBounds_toArray, List.set_cons_zero, List.set_cons_succ]
              refine seqI_take (v := .string ⟨(Lib.itoa rq).toArray⟩) rfl (fun W hW => by go_simp) (fun _ _ _ h => h) ?_
              simp only [Act.put, List.setIfInBounds_toArray, List.set_cons_zero, List.set_cons_succ]
              refine seqI_nil ?_
              have HP4 := Lib.hid (HP.out.below HBq4.out)
              have HL4 := Lib.hid (bld_keep HL3.out HBq4.out)
              have HB4 := Lib.hid (HB3.out.trans (HBq4.out.mono (Nat.le_of_lt (bld_lt HL3.out))))
              clear HBq2 hb4 HBq4 HP HL3 HB3 HTB3
              obtain ⟨q, hQ⟩ : ∃ q, Lib.itoa rq = q := ⟨_, rfl⟩
              rw [hQ] at hq
              rw [hQ]
              have HQQ := Lib.hid hQ
              clear hQ
              have p2 := HP4.out.cell 2 rfl
              cases rp with
              | nil =>
                as_aux_lemma =>
                  go_upto_region 13 with (fail)
                  obtain ⟨pp, hpp⟩ : ∃ pp : List UInt8, pp = [45] := ⟨_, rfl⟩
                  have HP9 := Lib.hid hpp
                  have hpl : pp.length ≤ 100000 := by rw [hpp]; decide
                  rw [show (#[45] : Array UInt8) = pp.toArray by rw [hpp]]
                  clear hpp
                  cases rl with
                  | true =>
                    as_aux_lemma =>
                      go_upto_region 15 with (fail)
                      obtain ⟨qq, hqq⟩ : ∃ qq : List UInt8, qq = [99, 108, 111, 115, 101, 100] := ⟨_, rfl⟩
                      have HQ9 := Lib.hid hqq
                      have hql : qq.length ≤ 21 := by rw [hqq]; decide
                      rw [show (#[99, 108, 111, 115, 101, 100] : Array UInt8) = qq.toArray by rw [hqq]]
                      clear hqq p2 HQQ hq
                      obtain ⟨LT, hLT⟩ : ∃ l : List UInt8, l = 114 :: 97 :: 116 :: 101 :: 32 :: (pp ++ 32 :: (qq ++ [10])) := ⟨_, rfl⟩
                      have HLN : Hid (ratesT rates (i + 1) = ratesT rates i ++ LT) := by
                        show _ = _
                        rw [HST.out, hLT]
                        unfold rateT preT priceT
                        rw [HP9.out, HQ9.out]; simp
                      have hll : LT.length ≤ 100100 := by rw [hLT]; simp only [List.length_append, List.length_cons, List.length_nil]; omega
                      have HLT := Lib.hid hLT
                      clear HST hLT
                      as_aux_lemma =>
                        go_wp2_with (first | (refine wpList_val rfl (add_str _ _ _ (.const (.string ⟨#[114, 97, 116, 101, 32]⟩)) (.tmp 58) ([114, 97, 116, 101, 32]) (pp) rfl rfl rfl (by simp only [List.length_append, List.length_cons, List.length_nil]; omega)) ?_) | (refine wpList_val rfl (add_str _ _ _ (.tmp 59) (.const (.string ⟨#[32]⟩)) ([114, 97, 116, 101, 32] ++ pp) ([32]) rfl rfl rfl (by simp only [List.length_append, List.length_cons, List.length_nil]; omega)) ?_) | (refine wpList_val rfl (add_str _ _ _ (.tmp 60) (.tmp 61) ([114, 97, 116, 101, 32] ++ pp ++ [32]) (qq) rfl rfl rfl (by simp only [List.length_append, List.length_cons, List.length_nil]; omega)) ?_) | (refine wpList_val rfl (add_str _ _ _ (.tmp 62) (.const (.string ⟨#[10]⟩)) ([114, 97, 116, 101, 32] ++ pp ++ [32] ++ qq) ([10]) rfl rfl rfl (by simp only [List.length_append, List.length_cons, List.length_nil]; omega)) ?_))
                        rw [← HLT.out]
                        refine (bld_writeL B B (Lib.byteCells (HT ++ ratesT rates i)) LT _ HL4.out (by rw [cells_len, List.length_append]; omega) (Nat.le_of_lt (bld_lt HL4.out))).mono ?_
                        rintro e w8 ⟨rfl, hb2, hbb⟩
                        have HL8 : Hid (Lib.IsBuilder 101 5 B B (Lib.byteCells (HT ++ ratesT rates (i + 1))) w8) := by
                          show Lib.IsBuilder _ _ _ _ _ _
                          rw [HLN.out, ← List.append_assoc, ← cells_app]
                          exact Or.inr hb2
                        have HB8 := Lib.hid (HB4.out.trans hbb)
                        clear hb2 hbb HLN HL4 HB4 HLT
                        as_aux_lemma =>
                          go_wp2_with fail
                          go_roundw
                          case rel => exact ⟨i + 1, by omega, by go_num, HL8.out, HB8.out⟩
                          case measure => simp [intOf]; omega
                  | false =>
                    as_aux_lemma =>
                      go_upto_region 15 with (fail)
                      have HQ9 := HQQ
                      have hql : q.length ≤ 21 := hq
                      clear p2 HQQ
                      obtain ⟨LT, hLT⟩ : ∃ l : List UInt8, l = 114 :: 97 :: 116 :: 101 :: 32 :: (pp ++ 32 :: (q ++ [10])) := ⟨_, rfl⟩
                      have HLN : Hid (ratesT rates (i + 1) = ratesT rates i ++ LT) := by
                        show _ = _
                        rw [HST.out, hLT]
                        unfold rateT preT priceT
                        rw [HP9.out, ← HQ9.out]; simp
                      have hll : LT.length ≤ 100100 := by rw [hLT]; simp only [List.length_append, List.length_cons, List.length_nil]; omega
                      have HLT := Lib.hid hLT
                      clear HST hLT
                      as_aux_lemma =>
                        go_wp2_with (first | (refine wpList_val rfl (add_str _ _ _ (.const (.string ⟨#[114, 97, 116, 101, 32]⟩)) (.tmp 58) ([114, 97, 116, 101, 32]) (pp) rfl rfl rfl (by simp only [List.length_append, List.length_cons, List.length_nil]; omega)) ?_) | (refine wpList_val rfl (add_str _ _ _ (.tmp 59) (.const (.string ⟨#[32]⟩)) ([114, 97, 116, 101, 32] ++ pp) ([32]) rfl rfl rfl (by simp only [List.length_append, List.length_cons, List.length_nil]; omega)) ?_) | (refine wpList_val rfl (add_str _ _ _ (.tmp 60) (.tmp 61) ([114, 97, 116, 101, 32] ++ pp ++ [32]) (q) rfl rfl rfl (by simp only [List.length_append, List.length_cons, List.length_nil]; omega)) ?_) | (refine wpList_val rfl (add_str _ _ _ (.tmp 62) (.const (.string ⟨#[10]⟩)) ([114, 97, 116, 101, 32] ++ pp ++ [32] ++ q) ([10]) rfl rfl rfl (by simp only [List.length_append, List.length_cons, List.length_nil]; omega)) ?_))
                        rw [← HLT.out]
                        refine (bld_writeL B B (Lib.byteCells (HT ++ ratesT rates i)) LT _ HL4.out (by rw [cells_len, List.length_append]; omega) (Nat.le_of_lt (bld_lt HL4.out))).mono ?_
                        rintro e w8 ⟨rfl, hb2, hbb⟩
                        have HL8 : Hid (Lib.IsBuilder 101 5 B B (Lib.byteCells (HT ++ ratesT rates (i + 1))) w8) := by
                          show Lib.IsBuilder _ _ _ _ _ _
                          rw [HLN.out, ← List.append_assoc, ← cells_app]
                          exact Or.inr hb2
                        have HB8 := Lib.hid (HB4.out.trans hbb)
                        clear hb2 hbb HLN HL4 HB4 HLT
                        as_aux_lemma =>
                          go_wp2_with fail
                          go_roundw
                          case rel => exact ⟨i + 1, by omega, by go_num, HL8.out, HB8.out⟩
                          case measure => simp [intOf]; omega
              | cons y rp =>
                as_aux_lemma =>
                  go_upto_region 13 with (fail)
                  obtain ⟨pp, hpp⟩ : ∃ pp : List UInt8, pp = y :: rp := ⟨_, rfl⟩
                  have HP9 := Lib.hid hpp
                  have hpl : pp.length ≤ 100000 := by rw [hpp]; exact hp1
                  rw [← hpp]
                  clear hpp
                  cases rl with
                  | true =>
                    as_aux_lemma =>
                      go_upto_region 15 with (fail)
                      obtain ⟨qq, hqq⟩ : ∃ qq : List UInt8, qq = [99, 108, 111, 115, 101, 100] := ⟨_, rfl⟩
                      have HQ9 := Lib.hid hqq
                      have hql : qq.length ≤ 21 := by rw [hqq]; decide
                      rw [show (#[99, 108, 111, 115, 101, 100] : Array UInt8) = qq.toArray by rw [hqq]]
                      clear hqq p2 HQQ hq
                      obtain ⟨LT, hLT⟩ : ∃ l : List UInt8, l = 114 :: 97 :: 116 :: 101 :: 32 :: (pp ++ 32 :: (qq ++ [10])) := ⟨_, rfl⟩
                      have HLN : Hid (ratesT rates (i + 1) = ratesT rates i ++ LT) := by
                        show _ = _
                        rw [HST.out, hLT]
                        unfold rateT preT priceT
                        rw [HP9.out, HQ9.out]; simp
                      have hll : LT.length ≤ 100100 := by rw [hLT]; simp only [List.length_append, List.length_cons, List.length_nil]; omega
                      have HLT := Lib.hid hLT
                      clear HST hLT
                      as_aux_lemma =>
                        go_wp2_with (first | (refine wpList_val rfl (add_str _ _ _ (.const (.string ⟨#[114, 97, 116, 101, 32]⟩)) (.tmp 58) ([114, 97, 116, 101, 32]) (pp) rfl rfl rfl (by simp only [List.length_append, List.length_cons, List.length_nil]; omega)) ?_) | (refine wpList_val rfl (add_str _ _ _ (.tmp 59) (.const (.string ⟨#[32]⟩)) ([114, 97, 116, 101, 32] ++ pp) ([32]) rfl rfl rfl (by simp only [List.length_append, List.length_cons, List.length_nil]; omega)) ?_) | (refine wpList_val rfl (add_str _ _ _ (.tmp 60) (.tmp 61) ([114, 97, 116, 101, 32] ++ pp ++ [32]) (qq) rfl rfl rfl (by simp only [List.length_append, List.length_cons, List.length_nil]; omega)) ?_) | (refine wpList_val rfl (add_str _ _ _ (.tmp 62) (.const (.string ⟨#[10]⟩)) ([114, 97, 116, 101, 32] ++ pp ++ [32] ++ qq) ([10]) rfl rfl rfl (by simp only [List.length_append, List.length_cons, List.length_nil]; omega)) ?_))
                        rw [← HLT.out]
                        refine (bld_writeL B B (Lib.byteCells (HT ++ ratesT rates i)) LT _ HL4.out (by rw [cells_len, List.length_append]; omega) (Nat.le_of_lt (bld_lt HL4.out))).mono ?_
                        rintro e w8 ⟨rfl, hb2, hbb⟩
                        have HL8 : Hid (Lib.IsBuilder 101 5 B B (Lib.byteCells (HT ++ ratesT rates (i + 1))) w8) := by
                          show Lib.IsBuilder _ _ _ _ _ _
                          rw [HLN.out, ← List.append_assoc, ← cells_app]
                          exact Or.inr hb2
                        have HB8 := Lib.hid (HB4.out.trans hbb)
                        clear hb2 hbb HLN HL4 HB4 HLT
                        as_aux_lemma =>
                          go_wp2_with fail
                          go_roundw
                          case rel => exact ⟨i + 1, by omega, by go_num, HL8.out, HB8.out⟩
                          case measure => simp [intOf]; omega
                  | false =>
                    as_aux_lemma =>
                      go_upto_region 15 with (fail)
                      have HQ9 := HQQ
                      have hql : q.length ≤ 21 := hq
                      clear p2 HQQ
                      obtain ⟨LT, hLT⟩ : ∃ l : List UInt8, l = 114 :: 97 :: 116 :: 101 :: 32 :: (pp ++ 32 :: (q ++ [10])) := ⟨_, rfl⟩
                      have HLN : Hid (ratesT rates (i + 1) = ratesT rates i ++ LT) := by
                        show _ = _
                        rw [HST.out, hLT]
                        unfold rateT preT priceT
                        rw [HP9.out, ← HQ9.out]; simp
                      have hll : LT.length ≤ 100100 := by rw [hLT]; simp only [List.length_append, List.length_cons, List.length_nil]; omega
                      have HLT := Lib.hid hLT
                      clear HST hLT
                      as_aux_lemma =>
                        go_wp2_with (first | (refine wpList_val rfl (add_str _ _ _ (.const (.string ⟨#[114, 97, 116, 101, 32]⟩)) (.tmp 58) ([114, 97, 116, 101, 32]) (pp) rfl rfl rfl (by simp only [List.length_append, List.length_cons, List.length_nil]; omega)) ?_) | (refine wpList_val rfl (add_str _ _ _ (.tmp 59) (.const (.string ⟨#[32]⟩)) ([114, 97, 116, 101, 32] ++ pp) ([32]) rfl rfl rfl (by simp only [List.length_append, List.length_cons, List.length_nil]; omega)) ?_) | (refine wpList_val rfl (add_str _ _ _ (.tmp 60) (.tmp 61) ([114, 97, 116, 101, 32] ++ pp ++ [32]) (q) rfl rfl rfl (by simp only [List.length_append, List.length_cons, List.length_nil]; omega)) ?_) | (refine wpList_val rfl (add_str _ _ _ (.tmp 62) (.const (.string ⟨#[10]⟩)) ([114, 97, 116, 101, 32] ++ pp ++ [32] ++ q) ([10]) rfl rfl rfl (by simp only [List.length_append, List.length_cons, List.length_nil]; omega)) ?_))
                        rw [← HLT.out]
                        refine (bld_writeL B B (Lib.byteCells (HT ++ ratesT rates i)) LT _ HL4.out (by rw [cells_len, List.length_append]; omega) (Nat.le_of_lt (bld_lt HL4.out))).mono ?_
                        rintro e w8 ⟨rfl, hb2, hbb⟩
                        have HL8 : Hid (Lib.IsBuilder 101 5 B B (Lib.byteCells (HT ++ ratesT rates (i + 1))) w8) := by
                          show Lib.IsBuilder _ _ _ _ _ _
                          rw [HLN.out, ← List.append_assoc, ← cells_app]
                          exact Or.inr hb2
                        have HB8 := Lib.hid (HB4.out.trans hbb)
                        clear hb2 hbb HLN HL4 HB4 HLT
                        as_aux_lemma =>
                          go_wp2_with fail
                          go_roundw
                          case rel => exact ⟨i + 1, by omega, by go_num, HL8.out, HB8.out⟩
                          case measure => simp [intOf]; omega
end Go.Proofs.YtacekbbndamkmaaGreatDoor

set_option linter.unusedVariables false
set_option linter.unusedSimpArgs false
namespace Go.Proofs.YtacekbbndamkmaaGreatDoor
open Go.RowKit

/-- What Number answers. -/
def NumPost (s : List UInt8) (w : World) (e : Ending) (w' : World) : Prop := e = .returned (.tuple #[.int .i64 (if numOk s = true then numZ s else 0), .bool (numOk s)]) ∧ Below w.heap.size w w'
theorem cutSign (s : List UInt8) (w : World) : Calls Tryz.prog 98 #[.string ⟨s.toArray⟩, .string ⟨#[45]⟩] w fun e w' => e = .returned (.tuple #[.string ⟨(unsign s).toArray⟩, .bool (signB s)]) ∧ w = w' := (Tryz.strings_CutPrefix ⟨s.toArray⟩ ⟨#[45]⟩ w).mono fun e w' h => ⟨h.1, h.2.symm⟩
theorem trimSign (s : List UInt8) (w : World) : Calls Tryz.prog 108 #[.string ⟨s.toArray⟩, .string ⟨#[45]⟩] w fun e w' => e = .returned (.string ⟨(unsign s).toArray⟩) ∧ w = w' := (Tryz.strings_TrimPrefixT ⟨s.toArray⟩ ⟨#[45]⟩ w).mono fun e w' h => ⟨h.1, h.2.symm⟩
theorem unsign_len (s : List UInt8) : (unsign s).length ≤ s.length := by
  unfold unsign Lib.trimPrefix
  split
  · rw [List.length_drop]; omega
  · exact Nat.le_refl _
set_option maxRecDepth 100000 in
set_option maxHeartbeats 4000000 in
theorem number12_any (s : List UInt8) (w : World) (hs : s.length ≤ 1000000) : Calls Tryz.prog 105 #[.string ⟨s.toArray⟩, .int .i64 12] w (NumPost s w) := by
  have HOK : Hid (∀ z b W, (if numOk s = true then numZ s else 0) = z → numOk s = b → Below w.heap.size w W → NumPost s w (.returned (.tuple #[.int .i64 z, .bool b])) W) := fun z b W h1 h2 h3 => by unfold NumPost; rw [h1, h2]; exact ⟨rfl, h3⟩
  have hul := unsign_len s
  have HCUT := Lib.hid (cutSign s w)
  have HTR := Lib.hid (trim_digits ⟨(unsign s).toArray⟩ w (by show (unsign s).toArray.size ≤ _; simp; omega))
  have HNK : Hid (numOk s = ((decide (1 ≤ ((unsign s).length : Int)) && (decide (((unsign s).length : Int) ≤ 12) && (Lib.trimS (unsign s) digitSet).isEmpty)) && (!((unsign s).headD 0 == 48) || (decide (unsign s = [48]) && !signB s)))) := rfl
  have HAT : Hid (rawB s 12 = true → ∀ W, Calls Tryz.prog 109 #[.string ⟨s.toArray⟩] W fun e w' => e = .returned (.tuple #[.int .i64 (numZ s), .nilIface]) ∧ Below W.heap.size W w') := fun h W => by
    obtain ⟨h1, h2, _⟩ := raw_parts h
    have h3 : s.length ≤ 18 := by
      rcases sign_cases s with ⟨_, q⟩ | ⟨_, q, _⟩ | q
      · rw [q, List.length_cons]; omega
      · rw [← q]; omega
      · rw [q]; decide
    exact atoi_l s (numZ s) h3 (numZ_raw h).1 W
  have HRW : Hid (rawB s 12 = (decide (1 ≤ ((unsign s).length : Int)) && (decide (((unsign s).length : Int) ≤ 12) && (Lib.trimS (unsign s) digitSet).isEmpty))) := rfl
  have HTR2 : Hid (Calls Tryz.prog 85 #[.string ⟨(unsign s).toArray⟩, .string ⟨#[48, 49, 50, 51, 52, 53, 54, 55, 56, 57]⟩] w fun e w' => e = .returned (.string ⟨(Lib.trimS (unsign s) digitSet).toArray⟩) ∧ Below w.heap.size w w') := HTR.out
  clear HTR
  generalize NumPost s w = PP at HOK ⊢
  generalize numOk s = NK at HOK HNK
  generalize rawB s 12 = RW at HAT HRW
  generalize numZ s = Z at HOK HAT
  generalize signB s = g at HCUT HNK
  generalize Lib.trimS (unsign s) digitSet = tr at HNK HRW HTR2
  generalize unsign s = d at hul HCUT HNK HRW HTR2
  cases d with
  | nil =>
    have HF : Hid (NK = false) := by show _ = _; rw [HNK.out]; rfl
    clear HNK HAT HRW HTR2
    go_enter Tryz.func105, Tryz.ntmps105
    as_aux_lemma =>
      go_wp2_with fail
      refine HCUT.out.mono ?_
      rintro e w1 ⟨rfl, hw1⟩
      subst hw1
      as_aux_lemma =>
        go_wp2_with fail
        first | exact HOK.out 0 false w (by rw [HF.out]; rfl) HF.out (Below.refl _ _) | (go_ret2; exact HOK.out 0 false w (by rw [HF.out]; rfl) HF.out (Below.refl _ _))
  | cons x m =>
    simp only [List.length_cons] at hul
    by_cases hl : ((x :: m).length : Int) ≤ 12
    case neg =>
      have HF : Hid (NK = false) := by show _ = _; rw [HNK.out, decide_eq_false hl]; simp
      have hl2 : (12 : Int) < (m.length : Int) + 1 := by simp only [List.length_cons] at hl; omega
      clear HNK HAT HRW HTR2 hl
      go_enter Tryz.func105, Tryz.ntmps105
      as_aux_lemma =>
        go_wp2_with fail
        refine HCUT.out.mono ?_
        rintro e w1 ⟨rfl, hw1⟩
        subst hw1
        as_aux_lemma =>
          go_wp2_with fail
          first | exact HOK.out 0 false w (by rw [HF.out]; rfl) HF.out (Below.refl _ _) | (go_ret2; exact HOK.out 0 false w (by rw [HF.out]; rfl) HF.out (Below.refl _ _))
    have hl2 : ¬ (12 : Int) < (m.length : Int) + 1 := by simp only [List.length_cons] at hl; omega
    have h1 : (1 : Int) ≤ (((x :: m).length : Nat) : Int) := by simp only [List.length_cons]; omega
    rw [decide_eq_true hl, decide_eq_true h1] at HNK HRW
    cases tr with
    | cons y r =>
      have HF : Hid (NK = false) := by show _ = _; rw [HNK.out]; rfl
      clear HNK HAT HRW hl h1
      go_enter Tryz.func105, Tryz.ntmps105
      as_aux_lemma =>
        go_wp2_with fail
        refine HCUT.out.mono ?_
        rintro e w1 ⟨rfl, hw1⟩
        subst hw1
        as_aux_lemma =>
          go_wp2_with fail
          refine HTR2.out.mono ?_
          rintro e w2 ⟨rfl, hb2⟩
          have HB2 := Lib.hid hb2
          clear hb2
          as_aux_lemma =>
            go_wp2_with fail
            first | exact HOK.out 0 false w2 (by rw [HF.out]; rfl) HF.out HB2.out | (go_ret2; exact HOK.out 0 false w2 (by rw [HF.out]; rfl) HF.out HB2.out)
    | nil =>
      have HAT2 := Lib.hid (HAT.out HRW.out)
      have HNK2 : Hid (NK = (!(x == 48) || (decide (x :: m = [48]) && !g))) := HNK.out
      clear HNK HAT HRW hl h1
      by_cases hx : x = 48
      · subst hx
        cases m with
        | cons y m2 =>
          have HF : Hid (NK = false) := by show _ = _; rw [HNK2.out]; simp
          clear HNK2 HAT2
          go_enter Tryz.func105, Tryz.ntmps105
          as_aux_lemma =>
            go_wp2_with fail
            refine HCUT.out.mono ?_
            rintro e w1 ⟨rfl, hw1⟩
            subst hw1
            as_aux_lemma =>
              go_wp2_with fail
              refine HTR2.out.mono ?_
              rintro e w2 ⟨rfl, hb2⟩
              have HB2 := Lib.hid hb2
              clear hb2
              as_aux_lemma =>
                go_wp2_with fail
                first | exact HOK.out 0 false w2 (by rw [HF.out]; rfl) HF.out HB2.out | (go_ret2; exact HOK.out 0 false w2 (by rw [HF.out]; rfl) HF.out HB2.out)
        | nil =>
          cases g with
          | true =>
            have HF : Hid (NK = false) := by show _ = _; rw [HNK2.out]; rfl
            clear HNK2 HAT2
            go_enter Tryz.func105, Tryz.ntmps105
            as_aux_lemma =>
              go_wp2_with fail
              refine HCUT.out.mono ?_
              rintro e w1 ⟨rfl, hw1⟩
              subst hw1
              as_aux_lemma =>
                go_wp2_with fail
                refine HTR2.out.mono ?_
                rintro e w2 ⟨rfl, hb2⟩
                have HB2 := Lib.hid hb2
                clear hb2
                as_aux_lemma =>
                  go_wp2_with fail
                  first | exact HOK.out 0 false w2 (by rw [HF.out]; rfl) HF.out HB2.out | (go_ret2; exact HOK.out 0 false w2 (by rw [HF.out]; rfl) HF.out HB2.out)
          | false =>
            have HF : Hid (NK = true) := by show _ = _; rw [HNK2.out]; rfl
            clear HNK2
            go_enter Tryz.func105, Tryz.ntmps105
            as_aux_lemma =>
              go_wp2_with fail
              refine HCUT.out.mono ?_
              rintro e w1 ⟨rfl, hw1⟩
              subst hw1
              as_aux_lemma =>
                go_wp2_with fail
                refine HTR2.out.mono ?_
                rintro e w2 ⟨rfl, hb2⟩
                have HB2 := Lib.hid hb2
                clear hb2
                as_aux_lemma =>
                  go_wp2_with fail
                  refine (HAT2.out _).mono ?_
                  rintro e w3 ⟨rfl, hb3⟩
                  have HB3 := Lib.hid (ext_trans HB2.out hb3)
                  clear hb3 HB2
                  as_aux_lemma =>
                    go_wp2_with fail
                    go_quiet (fail)
                    go_wp2_with fail
                    go_simp
                    exact HOK.out Z true _ (by rw [HF.out]; rfl) HF.out (ext_drewN HB3.out)
      · have hxb : (x == 48) = false := beq_eq_false_iff_ne.2 hx
        have hxn : ¬ ((x.toNat : Int) = 48) := fun h => hx (UInt8.toNat_inj.1 (by have : x.toNat = 48 := by omega
                                                                                  exact this))
        have HF : Hid (NK = true) := by show _ = _; rw [HNK2.out, hxb]; rfl
        clear HNK2 hx hxb
        have hx0 : ((((⟨(x :: m).toArray⟩ : ByteArray)[0]'(by show 0 < (x :: m).toArray.size; simp)).toNat : Int) == 48) = false := beq_eq_false_iff_ne.2 hxn
        go_enter Tryz.func105, Tryz.ntmps105
        as_aux_lemma =>
          go_wp2_with fail
          refine HCUT.out.mono ?_
          rintro e w1 ⟨rfl, hw1⟩
          subst hw1
          as_aux_lemma =>
            go_wp2_with fail
            refine HTR2.out.mono ?_
            rintro e w2 ⟨rfl, hb2⟩
            have HB2 := Lib.hid hb2
            clear hb2
            as_aux_lemma =>
              go_wp2_with fail
              refine (HAT2.out _).mono ?_
              rintro e w3 ⟨rfl, hb3⟩
              have HB3 := Lib.hid (ext_trans HB2.out hb3)
              clear hb3 HB2
              as_aux_lemma =>
                go_wp2_with fail
                go_quiet (fail)
                go_wp2_with fail
                go_simp
                exact HOK.out Z true _ (by rw [HF.out]; rfl) HF.out (ext_drewN HB3.out)
/-- What Int answers. -/
def IntPostD (s : List UInt8) (w : World) (e : Ending) (w' : World) : Prop := ∃ z : Int, e = .returned (.tuple #[.int .i64 z, .bool (numOk s)]) ∧ (numOk s = true → z = numZ s) ∧ Below w.heap.size w w'
set_option maxRecDepth 100000 in
set_option maxHeartbeats 4000000 in
theorem int12_any (s : List UInt8) (w : World) (hs : s.length ≤ 1000000) (S : Nat) (hT : TabW S w) (hS : S ≤ w.heap.size) : Calls Tryz.prog 80 #[.string ⟨s.toArray⟩, .int .i64 12] w (IntPostD s w) := by
  have HOK : Hid (∀ z b W, numOk s = b → (b = true → z = numZ s) → Below w.heap.size w W → IntPostD s w (.returned (.tuple #[.int .i64 z, .bool b])) W) := fun z b W h1 h2 h3 => ⟨z, by rw [h1], fun h => h2 (h1 ▸ h), h3⟩
  have hul := unsign_len s
  have HCUT := Lib.hid (trimSign s w)
  have HDG := Lib.hid (digital_l (unsign s) 1 12 w (by omega))
  have HAT : Hid (rawB s 12 = true → ∀ W, Calls Tryz.prog 109 #[.string ⟨s.toArray⟩] W fun e w' => e = .returned (.tuple #[.int .i64 (numZ s), .nilIface]) ∧ Below W.heap.size W w') := fun h W => by
    obtain ⟨h1, h2, _⟩ := raw_parts h
    have h3 : s.length ≤ 18 := by
      rcases sign_cases s with ⟨_, q⟩ | ⟨_, q, _⟩ | q
      · rw [q, List.length_cons]; omega
      · rw [← q]; omega
      · rw [q]; decide
    exact atoi_l s (numZ s) h3 (numZ_raw h).1 W
  have HIT : Hid (rawB s 12 = true → ∀ W, Below w.heap.size w W → Calls Tryz.prog 68 #[.int .i64 (numZ s)] W fun e w' => e = .returned (.string ⟨(Lib.itoa (numZ s)).toArray⟩) ∧ Below W.heap.size W w') := fun h W hW => by
    have h2 := (numZ_raw h).2
    exact itoa_any _ (by omega) (by omega) S W (tab_below hT hW hS)
  have HBK : Hid (rawB s 12 = true → (Lib.itoa (numZ s) = s ↔ canonB s = true)) := itoa_back
  have HNK : Hid (numOk s = (rawB s 12 && canonB s)) := rfl
  have HDG2 : Hid (Calls Tryz.prog 43 #[.string ⟨(unsign s).toArray⟩, .int .i64 1, .int .i64 12] w fun e w' => e = .returned (.bool (rawB s 12)) ∧ Below w.heap.size w w') := HDG.out
  clear HDG hT hS hul
  generalize IntPostD s w = PP at HOK ⊢
  generalize numOk s = NK at HOK HNK
  generalize rawB s 12 = RW at HAT HIT HBK HNK HDG2
  generalize canonB s = CB at HBK HNK
  generalize numZ s = Z at HOK HAT HIT HBK
  generalize unsign s = d at HCUT HDG2
  cases RW with
  | false =>
    have HF : Hid (NK = false) := HNK.out
    clear HNK HAT HIT HBK
    go_enter Tryz.func80, Tryz.ntmps80
    as_aux_lemma =>
      go_wp2_with fail
      refine HCUT.out.mono ?_
      rintro e w1 ⟨rfl, hw1⟩
      subst hw1
      as_aux_lemma =>
        go_wp2_with fail
        refine HDG2.out.mono ?_
        rintro e w2 ⟨rfl, hb2⟩
        have HB2 := Lib.hid hb2
        clear hb2
        as_aux_lemma =>
          go_wp2_with fail
          first | exact HOK.out 0 false w2 HF.out (fun h => by cases h) HB2.out | (go_ret2; exact HOK.out 0 false w2 HF.out (fun h => by cases h) HB2.out)
  | true =>
    have HAT2 := Lib.hid (HAT.out rfl)
    have HIT2 := Lib.hid (HIT.out rfl)
    have HBK2 := Lib.hid (HBK.out rfl)
    have HNK2 : Hid (NK = CB) := HNK.out
    clear HNK HAT HIT HBK
    generalize Lib.itoa Z = t at HIT2 HBK2
    cases CB with
    | true =>
      obtain rfl : t = s := HBK2.out.2 rfl
      clear HBK2
      go_enter Tryz.func80, Tryz.ntmps80
      as_aux_lemma =>
        go_wp2_with fail
        refine HCUT.out.mono ?_
        rintro e w1 ⟨rfl, hw1⟩
        subst hw1
        as_aux_lemma =>
          go_wp2_with fail
          refine HDG2.out.mono ?_
          rintro e w2 ⟨rfl, hb2⟩
          have HB2 := Lib.hid hb2
          clear hb2
          as_aux_lemma =>
            go_wp2_with fail
            refine (HAT2.out _).mono ?_
            rintro e w3 ⟨rfl, hb3⟩
            have HB3 := Lib.hid (ext_trans HB2.out hb3)
            clear hb3 HB2
            as_aux_lemma =>
              go_wp2_with fail
              refine (HIT2.out _ HB3.out).mono ?_
              rintro e w4 ⟨rfl, hb4⟩
              have HB4 := Lib.hid (ext_trans HB3.out hb4)
              clear hb4 HB3
              as_aux_lemma =>
                go_wp2_with fail
                first | exact HOK.out Z true w4 HNK2.out (fun h => rfl) HB4.out | (go_ret2; exact HOK.out Z true w4 HNK2.out (fun h => rfl) HB4.out)
    | false =>
      have hne : t ≠ s := fun h => by have := HBK2.out.1 h; cases this
      clear HBK2
      go_enter Tryz.func80, Tryz.ntmps80
      as_aux_lemma =>
        go_wp2_with fail
        refine HCUT.out.mono ?_
        rintro e w1 ⟨rfl, hw1⟩
        subst hw1
        as_aux_lemma =>
          go_wp2_with fail
          refine HDG2.out.mono ?_
          rintro e w2 ⟨rfl, hb2⟩
          have HB2 := Lib.hid hb2
          clear hb2
          as_aux_lemma =>
            go_wp2_with fail
            refine (HAT2.out _).mono ?_
            rintro e w3 ⟨rfl, hb3⟩
            have HB3 := Lib.hid (ext_trans HB2.out hb3)
            clear hb3 HB2
            as_aux_lemma =>
              go_wp2_with fail
              refine (HIT2.out _ HB3.out).mono ?_
              rintro e w4 ⟨rfl, hb4⟩
              have HB4 := Lib.hid (ext_trans HB3.out hb4)
              have hnb : (t == s) = false := beq_eq_false_iff_ne.2 hne
              clear hb4 HB3
              as_aux_lemma =>
                go_wp2_with fail
                first | exact HOK.out Z false w4 HNK2.out (fun h => by cases h) HB4.out | (go_ret2; exact HOK.out Z false w4 HNK2.out (fun h => by cases h) HB4.out)
end Go.Proofs.YtacekbbndamkmaaGreatDoor

set_option linter.unusedVariables false
set_option linter.unusedSimpArgs false
namespace Go.Proofs.YtacekbbndamkmaaGreatDoor
open Go.RowKit

theorem pick_lit (S k : Nat) (vals : List Int) (P : Int → Prop) (w : World) (cs : Array Value) (n : Nat) (h : StreamOk w S k) (hk : k ≤ 1000000000) (hcs : cs.toList = vals.map (Value.int .i64)) (hn : n = vals.length) (h1 : 1 ≤ vals.length) (h2 : vals.length ≤ 1000) (hP : ∀ x ∈ vals, P x) :
    Calls Tryz.prog 6 #[.pointer (some ⟨S, 0, none⟩), .slice (some ⟨w.heap.size, 0, none⟩) n n] (w.alloc (.cells cs 3)) (PickPost S (k + 1) P w) := by
  have hl := h.lt
  subst hn
  have hcs' : cs = (vals.map (Value.int .i64)).toArray := by rw [← hcs]
  subst hcs'
  refine (pick_any S k w.heap.size vals.length vals.length vals P _ (h.below (ext_alloc (Below.refl _ _))) hk (by simp) (by omega) h1 h2 (fun i hi => ?_) (fun i hi => ?_)).mono ?_
  · exact (new_cell w _ 3 (0, 0) i).trans (by simp [hi])
  · rw [show vals.getD i _ = vals[i] by simp [hi]]
    exact hP _ (List.getElem_mem hi)
  · rintro e w' ⟨r, rfl, hr, hst, hkp⟩
    exact ⟨r, rfl, hr, hst, (Keeps.of_below (ext_alloc (Below.refl _ _))).trans hkp⟩
theorem some_lit (S k : Nat) (vals : List (List UInt8)) (P : List UInt8 → Prop) (w : World) (cs : Array Value) (n : Nat) (h : StreamOk w S k) (hk : k ≤ 1000000000) (hcs : cs.toList = vals.map fun s => Value.string ⟨s.toArray⟩) (hn : n = vals.length) (h1 : 1 ≤ vals.length) (h2 : vals.length ≤ 1000) (hP : ∀ x ∈ vals, P x) :
    Calls Tryz.prog 24 #[.pointer (some ⟨S, 0, none⟩), .slice (some ⟨w.heap.size, 0, none⟩) n n] (w.alloc (.cells cs 9)) (SomePost S (k + 1) P w) := by
  have hl := h.lt
  subst hn
  have hcs' : cs = (vals.map fun s => Value.string ⟨s.toArray⟩).toArray := by rw [← hcs]
  subst hcs'
  refine (some_any S k w.heap.size vals.length vals.length vals P _ (h.below (ext_alloc (Below.refl _ _))) hk (by simp) (by omega) h1 h2 (fun i hi => ?_) (fun i hi => ?_)).mono ?_
  · exact (new_cell w _ 9 (0, 0) i).trans (by simp [hi])
  · rw [show vals.getD i _ = vals[i] by simp [hi]]
    exact hP _ (List.getElem_mem hi)
  · rintro e w' ⟨r, rfl, hr, hst, hkp⟩
    exact ⟨r, rfl, hr, hst, (Keeps.of_below (ext_alloc (Below.refl _ _))).trans hkp⟩

theorem bs_p6 (e : Operand → Value) (he : ∀ v, e (.const v) = v) (o : Oper) (w : World) (ho : o.op = .buildSlice 22 6 #[(0, .const (.int .i64 0)), (1, .const (.int .i64 0)), (2, .const (.int .i64 1)), (3, .const (.int .i64 9)), (4, .const (.int .i64 99)), (5, .const (.int .i64 300))]) :
   (execOp e o).run Tryz.prog w = .ok (.value (.slice (some ⟨w.heap.size, 0, none⟩) 6 6)) (w.alloc (.cells #[.int .i64 0, .int .i64 0, .int .i64 1, .int .i64 9, .int .i64 99, .int .i64 300] 3)) := by
  unfold execOp
  rw [ho]
  simp only [List.map_toArray, List.map_cons, List.map_nil, he]
  kernel_rfl
theorem bs_p5 (e : Operand → Value) (he : ∀ v, e (.const v) = v) (o : Oper) (w : World) (ho : o.op = .buildSlice 22 5 #[(0, .const (.int .i64 2)), (1, .const (.int .i64 2)), (2, .const (.int .i64 3)), (3, .const (.int .i64 10)), (4, .const (.int .i64 50))]) :
   (execOp e o).run Tryz.prog w = .ok (.value (.slice (some ⟨w.heap.size, 0, none⟩) 5 5)) (w.alloc (.cells #[.int .i64 2, .int .i64 2, .int .i64 3, .int .i64 10, .int .i64 50] 3)) := by
  unfold execOp
  rw [ho]
  simp only [List.map_toArray, List.map_cons, List.map_nil, he]
  kernel_rfl
theorem bs_p3 (e : Operand → Value) (he : ∀ v, e (.const v) = v) (o : Oper) (w : World) (ho : o.op = .buildSlice 22 3 #[(0, .const (.int .i64 1)), (1, .const (.int .i64 10)), (2, .const (.int .i64 50))]) :
   (execOp e o).run Tryz.prog w = .ok (.value (.slice (some ⟨w.heap.size, 0, none⟩) 3 3)) (w.alloc (.cells #[.int .i64 1, .int .i64 10, .int .i64 50] 3)) := by
  unfold execOp
  rw [ho]
  simp only [List.map_toArray, List.map_cons, List.map_nil, he]
  kernel_rfl
theorem bs_inst (e : Operand → Value) (he : ∀ v, e (.const v) = v) (o : Oper) (w : World) (i8 i9 i10 : Nat) (z8 z9 z10 : Int) (ho : o.op = .buildSlice 22 11 #[(0, .const (.int .i64 0)), (1, .const (.int .i64 5)), (2, .const (.int .i64 10)), (3, .const (.int .i64 20)), (4, .const (.int .i64 30)), (5, .const (.int .i64 40)), (6, .const (.int .i64 60)), (7, .const (.int .i64 100)), (8, .tmp i8), (9, .tmp i9), (10, .tmp i10)]) (h8 : e (.tmp i8) = .int .i64 z8) (h9 : e (.tmp i9) = .int .i64 z9) (h10 : e (.tmp i10) = .int .i64 z10) :
   (execOp e o).run Tryz.prog w = .ok (.value (.slice (some ⟨w.heap.size, 0, none⟩) 11 11)) (w.alloc (.cells #[.int .i64 0, .int .i64 5, .int .i64 10, .int .i64 20, .int .i64 30, .int .i64 40, .int .i64 60, .int .i64 100, .int .i64 z8, .int .i64 z9, .int .i64 z10] 3)) := by
  unfold execOp
  rw [ho]
  simp only [List.map_toArray, List.map_cons, List.map_nil, he, h8, h9, h10]
  kernel_rfl

end Go.Proofs.YtacekbbndamkmaaGreatDoor

set_option linter.unusedVariables false
set_option linter.unusedSimpArgs false
namespace Go.Proofs.YtacekbbndamkmaaGreatDoor
open Go.RowKit

theorem own_set {w : World} {base : Nat} {e : TypeId} {size : Nat} {v : Value} {n : Nat} {xs : List Value} (h : w.ownsRow base e size v n xs) {p : Addr} {u : Value} (hp : v.ownBlock ≠ some p.block) : (w.setCell p u).ownsRow base e size v n xs :=
  own_if h (KeepsIf.set (p := fun b => v.ownBlock = some b) (fun b e e' => hp (by rw [e']; exact e))) (fun b e => e)
theorem ne_off {B i j : Nat} (h : i ≠ j) : (⟨B, i, none⟩ : Addr) ≠ ⟨B, j, none⟩ := by intro e; injection e with _ e2 _; exact h e2
theorem ne_blk {B C i j : Nat} (h : B ≠ C) : (⟨B, i, none⟩ : Addr) ≠ ⟨C, j, none⟩ := by intro e; injection e with e1 _ _; exact h e1
theorem box_th {w : World} {B : Nat} {vs : Array Value} {ty : TypeId} (h : w.heap[B]? = some (.cells vs ty (0, 0))) : w.there B 0 vs.size := fun j hj => by
  refine ⟨?_, ?_⟩
  · simp [World.cell?, h, hj]
  · simp [World.frozen?, h]
/-- A place of n cells that can be written. -/
structure Room (w : World) (F n : Nat) : Prop where
  lt : F < w.heap.size
  th : w.there F 0 n
theorem Room.keeps {w w' : World} {F n S : Nat} (h : Room w F n) (hk : Keeps S w w') (hn : F ≠ S) : Room w' F n :=
  ⟨Nat.lt_of_lt_of_le h.lt hk.size, fun j hj => by
    obtain ⟨h1, h2⟩ := h.th j hj
    exact ⟨by rw [hk.cell (p := ⟨F, 0 + j, none⟩) h.lt hn]; exact h1, by rw [hk.frozen (p := ⟨F, 0 + j, none⟩) h.lt hn]; exact h2⟩⟩
theorem Room.below {w w' : World} {F n : Nat} (h : Room w F n) (hb : Below w.heap.size w w') : Room w' F n :=
  ⟨Nat.lt_of_lt_of_le h.lt hb.size, fun j hj => by
    obtain ⟨h1, h2⟩ := h.th j hj
    exact ⟨by rw [hb.cell (p := ⟨F, 0 + j, none⟩) h.lt]; exact h1, by rw [hb.frozen (p := ⟨F, 0 + j, none⟩) h.lt]; exact h2⟩⟩
theorem Room.grown {w w' : World} {F n : Nat} {row : Option Nat} (h : Room w F n) (hg : w.grownBy w' row) (hn : row ≠ some F) : Room w' F n :=
  ⟨Nat.lt_of_lt_of_le h.lt hg.size, fun j hj => by
    obtain ⟨h1, h2⟩ := h.th j hj
    have hb := hg.block F h.lt (fun e => hn e.symm)
    exact ⟨by rw [World.cell?_of_block (a := ⟨F, 0 + j, none⟩) hb]; exact h1, by rw [World.frozen?_of_block (a := ⟨F, 0 + j, none⟩) hb]; exact h2⟩⟩
theorem Room.set {w : World} {F n : Nat} (h : Room w F n) (B o : Nat) (u : Value) : Room (w.setCell ⟨B, o, none⟩ u) F n :=
  ⟨by simpa using h.lt, World.there_setCells h.th B o [u]⟩
theorem below_setCells {S F : Nat} (hS : S ≤ F) : ∀ (vs : List Value) (w : World) (k : Nat), Below S w (w.setCells F k vs)
  | [], w, k => Below.refl _ _
  | v :: vs, w, k => ((Below.refl S w).setCell (p := ⟨F, k, none⟩) hS v).trans (below_setCells hS vs (w.setCell ⟨F, k, none⟩ v) (k + 1))
theorem keeps_setCells {S F : Nat} {a : World} (hF : a.heap.size ≤ F) : ∀ (vs : List Value) (w : World) (k : Nat), Keeps S a w → Keeps S a (w.setCells F k vs)
  | [], w, k, h => h
  | v :: vs, w, k, h => keeps_setCells hF vs (w.setCell ⟨F, k, none⟩ v) (k + 1) (h.setCell_new hF v)
/-- Names in a row. -/
structure Names (w : World) (A n : Nat) (names : List (List UInt8)) : Prop where
  lt : A < w.heap.size
  at_ : ∀ i, i < n → w.cell? ⟨A, i, none⟩ = some (.string ⟨(names.getD i []).toArray⟩)
theorem Names.keeps {w w' : World} {A n S : Nat} {names : List (List UInt8)} (h : Names w A n names) (hk : Keeps S w w') (hn : A ≠ S) : Names w' A n names :=
  ⟨Nat.lt_of_lt_of_le h.lt hk.size, fun i hi => (hk.cell (p := ⟨A, i, none⟩) h.lt hn).trans (h.at_ i hi)⟩
theorem Names.grown {w w' : World} {A n : Nat} {names : List (List UInt8)} {row : Option Nat} (h : Names w A n names) (hg : w.grownBy w' row) (hn : row ≠ some A) : Names w' A n names :=
  ⟨Nat.lt_of_lt_of_le h.lt hg.size, fun i hi => (World.cell?_of_block (a := ⟨A, i, none⟩) (hg.block A h.lt (fun e => hn e.symm))).trans (h.at_ i hi)⟩
theorem Names.set {w : World} {A n : Nat} {names : List (List UInt8)} (h : Names w A n names) {B o : Nat} (hn : B ≠ A) (u : Value) : Names (w.setCell ⟨B, o, none⟩ u) A n names :=
  ⟨by simpa using h.lt, fun i hi => (World.cell?_setCell_other _ _ _ _ (ne_blk hn)).trans (h.at_ i hi)⟩
theorem names_new (W : World) (names : List (List UInt8)) (cs : Array Value) (hcs : cs.toList = names.map fun s => Value.string ⟨s.toArray⟩) (n : Nat) (hn : n = names.length) : Names (W.alloc (.cells cs 9)) W.heap.size n names := by
  subst hn
  have hcs' : cs = (names.map fun s => Value.string ⟨s.toArray⟩).toArray := by rw [← hcs]
  subst hcs'
  exact ⟨by simp, fun i hi => (new_cell W _ 9 (0, 0) i).trans (by simp [hi])⟩
theorem wp_skip {P : Program} {o : Oper} {a : Act} {w w' : World} {K : Act → World → Prop} {Q : Exit → Act → World → Prop} (h : (execOp a.eval o).run P w = .ok .skip w') (hK : K (a.put o.dst undef) w') : o.wp P a w K Q := by
  unfold Oper.wp
  rw [h]
  exact hK
theorem wp_append_own_at {P : Program} {w : World} {o : Oper} {a : Act} {K : Act → World → Prop} {Q : Exit → Act → World → Prop} (s x : Operand) (t : TypeId)
    (ho : o.op = .call { callee := .builtin .append, args := #[s, x], argTypes := #[t, t] })
    (base : Nat) (e : TypeId) (i : TypeInfo) (z : Value) (size bytes : Nat) (ht : P.underlying t = some (.slice e)) (hi : P.info? e = some i) (hz : i.zero = some z)
    (hsize : i.size = size) (hby : i.bytes = bytes) (hzs : z.cells.size = size) (hsz : 0 < size)
    (v : Value) (n : Nat) (xs : List Value) (hs : a.eval s = v) (hown : w.ownsRow base e size v n xs)
    (ad : Addr) (m c : Nat) (news : List Value) (hx : a.eval x = .slice (some ad) m c) (hl : news.length = m * size) (hnews : ∀ j u, news[j]? = some u → w.cell? (ad.add j) = some u) (h1 : ∀ u ∈ news, u.oneCell' = true)
    (h63 : n + m ≤ maxLen) (hbytes : (n + m) * bytes ≤ 140737488355328) (hbase : base ≤ w.heap.size)
    (h : ∀ v' w', w'.ownsRow base e size v' (n + m) (xs ++ news) → w.grownBy w' v.ownBlock → (v'.ownBlock = v.ownBlock ∨ v'.ownBlock = some w.heap.size) → K (a.put o.dst v') w') : o.wp P a w K Q := by
  obtain ⟨v', w', hr, k1, k2, _, k3⟩ := run_append_own_at (P := P) w base t o.type e i z size bytes ht hi hz hsize hby hzs hsz v n xs hown ad m c news hl hnews h1 h63 hbytes hbase
  unfold Oper.wp execOp
  simp only [ho, resolve, invoke, builtin, Sem.run_bind, Sem.run_pure, Result.andThen_ok, List.map_toArray, List.map_cons, List.map_nil, hs, hx, hr]
  exact h v' w' k1 k2 k3
/-- A deck in a box of its own. -/
structure DBox (w : World) (D : Nat) (f s l st : Int) (v : Value) : Prop where
  lt : D < w.heap.size
  c0 : w.cell? ⟨D, 0, none⟩ = some (.int .i64 f)
  c1 : w.cell? ⟨D, 1, none⟩ = some (.int .i64 s)
  c2 : w.cell? ⟨D, 2, none⟩ = some (.int .i64 l)
  c3 : w.cell? ⟨D, 3, none⟩ = some (.int .i64 st)
  c4 : w.cell? ⟨D, 4, none⟩ = some v
  fr : ∀ j, w.frozen? ⟨D, j, none⟩ = false
theorem DBox.keeps {w w' : World} {D S : Nat} {f s l st : Int} {v : Value} (h : DBox w D f s l st v) (hk : Keeps S w w') (hn : D ≠ S) : DBox w' D f s l st v :=
  ⟨Nat.lt_of_lt_of_le h.lt hk.size, (hk.cell (p := ⟨D, 0, none⟩) h.lt hn).trans h.c0, (hk.cell (p := ⟨D, 1, none⟩) h.lt hn).trans h.c1, (hk.cell (p := ⟨D, 2, none⟩) h.lt hn).trans h.c2, (hk.cell (p := ⟨D, 3, none⟩) h.lt hn).trans h.c3, (hk.cell (p := ⟨D, 4, none⟩) h.lt hn).trans h.c4, fun j => (hk.frozen (p := ⟨D, j, none⟩) h.lt hn).trans (h.fr j)⟩
theorem DBox.grown {w w' : World} {D : Nat} {f s l st : Int} {v : Value} {row : Option Nat} (h : DBox w D f s l st v) (hg : w.grownBy w' row) (hn : row ≠ some D) : DBox w' D f s l st v := by
  have hb := hg.block D h.lt (fun e => hn e.symm)
  exact ⟨Nat.lt_of_lt_of_le h.lt hg.size, (World.cell?_of_block (a := ⟨D, 0, none⟩) hb).trans h.c0, (World.cell?_of_block (a := ⟨D, 1, none⟩) hb).trans h.c1, (World.cell?_of_block (a := ⟨D, 2, none⟩) hb).trans h.c2, (World.cell?_of_block (a := ⟨D, 3, none⟩) hb).trans h.c3, (World.cell?_of_block (a := ⟨D, 4, none⟩) hb).trans h.c4, fun j => (World.frozen?_of_block (a := ⟨D, j, none⟩) hb).trans (h.fr j)⟩
theorem DBox.far {w : World} {D : Nat} {f s l st : Int} {v : Value} (h : DBox w D f s l st v) {B o : Nat} (hn : B ≠ D) (u : Value) : DBox (w.setCell ⟨B, o, none⟩ u) D f s l st v :=
  ⟨by simpa using h.lt, (World.cell?_setCell_other _ _ _ _ (ne_blk hn)).trans h.c0, (World.cell?_setCell_other _ _ _ _ (ne_blk hn)).trans h.c1, (World.cell?_setCell_other _ _ _ _ (ne_blk hn)).trans h.c2, (World.cell?_setCell_other _ _ _ _ (ne_blk hn)).trans h.c3, (World.cell?_setCell_other _ _ _ _ (ne_blk hn)).trans h.c4, fun j => (World.frozen?_setCell _ _ _ _).trans (h.fr j)⟩
theorem DBox.s0 {w : World} {D : Nat} {f s l st : Int} {v : Value} (h : DBox w D f s l st v) (z : Int) : DBox (w.setCell ⟨D, 0, none⟩ (.int .i64 z)) D z s l st v :=
  ⟨by simpa using h.lt, World.cell?_setCell_same _ _ _ h.c0, (World.cell?_setCell_other _ _ _ _ (ne_off (by decide))).trans h.c1, (World.cell?_setCell_other _ _ _ _ (ne_off (by decide))).trans h.c2, (World.cell?_setCell_other _ _ _ _ (ne_off (by decide))).trans h.c3, (World.cell?_setCell_other _ _ _ _ (ne_off (by decide))).trans h.c4, fun j => (World.frozen?_setCell _ _ _ _).trans (h.fr j)⟩
theorem DBox.s1 {w : World} {D : Nat} {f s l st : Int} {v : Value} (h : DBox w D f s l st v) (z : Int) : DBox (w.setCell ⟨D, 1, none⟩ (.int .i64 z)) D f z l st v :=
  ⟨by simpa using h.lt, (World.cell?_setCell_other _ _ _ _ (ne_off (by decide))).trans h.c0, World.cell?_setCell_same _ _ _ h.c1, (World.cell?_setCell_other _ _ _ _ (ne_off (by decide))).trans h.c2, (World.cell?_setCell_other _ _ _ _ (ne_off (by decide))).trans h.c3, (World.cell?_setCell_other _ _ _ _ (ne_off (by decide))).trans h.c4, fun j => (World.frozen?_setCell _ _ _ _).trans (h.fr j)⟩
theorem DBox.s2 {w : World} {D : Nat} {f s l st : Int} {v : Value} (h : DBox w D f s l st v) (z : Int) : DBox (w.setCell ⟨D, 2, none⟩ (.int .i64 z)) D f s z st v :=
  ⟨by simpa using h.lt, (World.cell?_setCell_other _ _ _ _ (ne_off (by decide))).trans h.c0, (World.cell?_setCell_other _ _ _ _ (ne_off (by decide))).trans h.c1, World.cell?_setCell_same _ _ _ h.c2, (World.cell?_setCell_other _ _ _ _ (ne_off (by decide))).trans h.c3, (World.cell?_setCell_other _ _ _ _ (ne_off (by decide))).trans h.c4, fun j => (World.frozen?_setCell _ _ _ _).trans (h.fr j)⟩
theorem DBox.s3 {w : World} {D : Nat} {f s l st : Int} {v : Value} (h : DBox w D f s l st v) (z : Int) : DBox (w.setCell ⟨D, 3, none⟩ (.int .i64 z)) D f s l z v :=
  ⟨by simpa using h.lt, (World.cell?_setCell_other _ _ _ _ (ne_off (by decide))).trans h.c0, (World.cell?_setCell_other _ _ _ _ (ne_off (by decide))).trans h.c1, (World.cell?_setCell_other _ _ _ _ (ne_off (by decide))).trans h.c2, World.cell?_setCell_same _ _ _ h.c3, (World.cell?_setCell_other _ _ _ _ (ne_off (by decide))).trans h.c4, fun j => (World.frozen?_setCell _ _ _ _).trans (h.fr j)⟩
theorem DBox.s4 {w : World} {D : Nat} {f s l st : Int} {v : Value} (h : DBox w D f s l st v) (u : Value) : DBox (w.setCell ⟨D, 4, none⟩ u) D f s l st u :=
  ⟨by simpa using h.lt, (World.cell?_setCell_other _ _ _ _ (ne_off (by decide))).trans h.c0, (World.cell?_setCell_other _ _ _ _ (ne_off (by decide))).trans h.c1, (World.cell?_setCell_other _ _ _ _ (ne_off (by decide))).trans h.c2, (World.cell?_setCell_other _ _ _ _ (ne_off (by decide))).trans h.c3, World.cell?_setCell_same _ _ _ h.c4, fun j => (World.frozen?_setCell _ _ _ _).trans (h.fr j)⟩
theorem rcells_snoc (l : List Rate) (r : Rate) : ((l ++ [r]).map Rate.cells).flatten = (l.map Rate.cells).flatten ++ Rate.cells r := by simp
def RatesIn (l : List Rate) : Prop := ∀ r ∈ l, r.p.length ≤ 100 ∧ -2000000000000 ≤ r.price ∧ r.price ≤ 2000000000000
theorem rates_snoc {l : List Rate} {r : Rate} (h : RatesIn l) (h1 : r.p.length ≤ 100) (h2 : -2000000000000 ≤ r.price) (h3 : r.price ≤ 2000000000000) : RatesIn (l ++ [r]) := fun x hx => by
  rcases List.mem_append.1 hx with hx | hx
  · exact h x hx
  · rw [List.mem_singleton.1 hx]; exact ⟨h1, h2, h3⟩
theorem Tryz.infoRate : (Tryz.prog.info? 51).map (fun i => (i.zero, i.size, i.bytes)) = some (some (.agg #[.string ⟨#[]⟩, .int .i64 0, .bool false]), 3, 32) := by kernel_rfl
theorem Tryz.deckSize : (Tryz.prog.info? 28).map (·.size) = some 5 := by kernel_rfl
/-- What a right deck of a stream comes to. -/
def RDeckPost (S k : Nat) (w : World) (e : Ending) (w' : World) : Prop :=
  ∃ d : Deck, e = .returned (.agg d.cells.toArray) ∧ DeckOwn w.heap.size w' d ∧ d.rates.length ≤ 13 ∧ StreamOk w' S k ∧ Keeps S w w'
theorem bs_r1 (e : Operand → Value) (o : Oper) (w : World) (i0 : Nat) (p : ByteArray) (z : Int) (b : Bool) (ho : o.op = .buildSlice 26 1 #[(0, .tmp i0)]) (h0 : e (.tmp i0) = .agg #[.string p, .int .i64 z, .bool b]) :
   (execOp e o).run Tryz.prog w = .ok (.value (.slice (some ⟨w.heap.size, 0, none⟩) 1 1)) (w.alloc (.cells #[.string p, .int .i64 z, .bool b] 51)) := by
  unfold execOp
  rw [ho]
  simp only [List.map_toArray, List.map_cons, List.map_nil, h0]
  kernel_rfl
theorem bs_i4 (e : Operand → Value) (he : ∀ v, e (.const v) = v) (o : Oper) (w : World) (z0 z1 z2 z3 : Int) (ho : o.op = .buildSlice 22 4 #[(0, .const (.int .i64 z0)), (1, .const (.int .i64 z1)), (2, .const (.int .i64 z2)), (3, .const (.int .i64 z3))]) :
   (execOp e o).run Tryz.prog w = .ok (.value (.slice (some ⟨w.heap.size, 0, none⟩) 4 4)) (w.alloc (.cells #[.int .i64 z0, .int .i64 z1, .int .i64 z2, .int .i64 z3] 3)) := by
  unfold execOp
  rw [ho]
  simp only [List.map_toArray, List.map_cons, List.map_nil, he]
  kernel_rfl
theorem bs_i3 (e : Operand → Value) (he : ∀ v, e (.const v) = v) (o : Oper) (w : World) (z0 z1 z2 : Int) (ho : o.op = .buildSlice 22 3 #[(0, .const (.int .i64 z0)), (1, .const (.int .i64 z1)), (2, .const (.int .i64 z2))]) :
   (execOp e o).run Tryz.prog w = .ok (.value (.slice (some ⟨w.heap.size, 0, none⟩) 3 3)) (w.alloc (.cells #[.int .i64 z0, .int .i64 z1, .int .i64 z2] 3)) := by
  unfold execOp
  rw [ho]
  simp only [List.map_toArray, List.map_cons, List.map_nil, he]
  kernel_rfl
theorem bs_i5 (e : Operand → Value) (he : ∀ v, e (.const v) = v) (o : Oper) (w : World) (z0 z1 z2 z3 z4 : Int) (ho : o.op = .buildSlice 22 5 #[(0, .const (.int .i64 z0)), (1, .const (.int .i64 z1)), (2, .const (.int .i64 z2)), (3, .const (.int .i64 z3)), (4, .const (.int .i64 z4))]) :
   (execOp e o).run Tryz.prog w = .ok (.value (.slice (some ⟨w.heap.size, 0, none⟩) 5 5)) (w.alloc (.cells #[.int .i64 z0, .int .i64 z1, .int .i64 z2, .int .i64 z3, .int .i64 z4] 3)) := by
  unfold execOp
  rw [ho]
  simp only [List.map_toArray, List.map_cons, List.map_nil, he]
  kernel_rfl
theorem bs_i2 (e : Operand → Value) (he : ∀ v, e (.const v) = v) (o : Oper) (w : World) (z0 z1 : Int) (ho : o.op = .buildSlice 22 2 #[(0, .const (.int .i64 z0)), (1, .const (.int .i64 z1))]) :
   (execOp e o).run Tryz.prog w = .ok (.value (.slice (some ⟨w.heap.size, 0, none⟩) 2 2)) (w.alloc (.cells #[.int .i64 z0, .int .i64 z1] 3)) := by
  unfold execOp
  rw [ho]
  simp only [List.map_toArray, List.map_cons, List.map_nil, he]
  kernel_rfl
theorem bs_s13 (e : Operand → Value) (he : ∀ v, e (.const v) = v) (o : Oper) (w : World)  (p0 p1 p2 p3 p4 p5 p6 p7 p8 p9 p10 p11 p12 : ByteArray) (ho : o.op = .buildSlice 38 13 #[(0, .const (.string p0)), (1, .const (.string p1)), (2, .const (.string p2)), (3, .const (.string p3)), (4, .const (.string p4)), (5, .const (.string p5)), (6, .const (.string p6)), (7, .const (.string p7)), (8, .const (.string p8)), (9, .const (.string p9)), (10, .const (.string p10)), (11, .const (.string p11)), (12, .const (.string p12))])  :
   (execOp e o).run Tryz.prog w = .ok (.value (.slice (some ⟨w.heap.size, 0, none⟩) 13 13)) (w.alloc (.cells #[.string p0, .string p1, .string p2, .string p3, .string p4, .string p5, .string p6, .string p7, .string p8, .string p9, .string p10, .string p11, .string p12] 9)) := by
  unfold execOp
  rw [ho]
  simp only [List.map_toArray, List.map_cons, List.map_nil, he]
  kernel_rfl
theorem bs_s12 (e : Operand → Value) (he : ∀ v, e (.const v) = v) (o : Oper) (w : World)  (p0 p1 p2 p3 p4 p5 p6 p7 p8 p9 p10 p11 : ByteArray) (ho : o.op = .buildSlice 38 12 #[(0, .const (.string p0)), (1, .const (.string p1)), (2, .const (.string p2)), (3, .const (.string p3)), (4, .const (.string p4)), (5, .const (.string p5)), (6, .const (.string p6)), (7, .const (.string p7)), (8, .const (.string p8)), (9, .const (.string p9)), (10, .const (.string p10)), (11, .const (.string p11))])  :
   (execOp e o).run Tryz.prog w = .ok (.value (.slice (some ⟨w.heap.size, 0, none⟩) 12 12)) (w.alloc (.cells #[.string p0, .string p1, .string p2, .string p3, .string p4, .string p5, .string p6, .string p7, .string p8, .string p9, .string p10, .string p11] 9)) := by
  unfold execOp
  rw [ho]
  simp only [List.map_toArray, List.map_cons, List.map_nil, he]
  kernel_rfl
theorem bs_s5r (e : Operand → Value) (he : ∀ v, e (.const v) = v) (o : Oper) (w : World) (i4 : Nat) (p0 p1 p2 p3 p4 : ByteArray) (ho : o.op = .buildSlice 38 5 #[(0, .const (.string p0)), (1, .const (.string p1)), (2, .const (.string p2)), (3, .const (.string p3)), (4, .tmp i4)]) (h4 : e (.tmp i4) = .string p4) :
   (execOp e o).run Tryz.prog w = .ok (.value (.slice (some ⟨w.heap.size, 0, none⟩) 5 5)) (w.alloc (.cells #[.string p0, .string p1, .string p2, .string p3, .string p4] 9)) := by
  unfold execOp
  rw [ho]
  simp only [List.map_toArray, List.map_cons, List.map_nil, he, h4]
  kernel_rfl
end Go.Proofs.YtacekbbndamkmaaGreatDoor

set_option linter.unusedVariables false
set_option linter.unusedSimpArgs false
namespace Go.Proofs.YtacekbbndamkmaaGreatDoor
open Go.RowKit

theorem flat_set {α : Type} (f : α → List Value) (k : Nat) (hk : ∀ x, (f x).length = k) : ∀ (l : List α) (r j : Nat) (d y : α) (v : Value), r < l.length → j < k → f y = (f (l.getD r d)).set j v → ((l.set r y).map f).flatten = ((l.map f).flatten).set (r * k + j) v
  | c :: cs, 0, j, d, y, v, _, hj, hy => by
    have hy' : f y = (f c).set j v := hy
    simp only [List.set_cons_zero, List.map_cons, List.flatten_cons, Nat.zero_mul, Nat.zero_add]
    rw [hy', List.set_append_left _ _ (by rw [hk]; exact hj)]
  | c :: cs, r + 1, j, d, y, v, hr, hj, hy => by
    have ih := flat_set f k hk cs r j d y v (by simpa using hr) hj (by simpa using hy)
    have e : (r + 1) * k = r * k + k := Nat.succ_mul r k
    simp only [List.set_cons_succ, List.map_cons, List.flatten_cons]
    rw [List.set_append_right _ _ (by rw [hk]; omega), hk, show (r + 1) * k + j - k = r * k + j by omega, ih]
/-- Field j of element r is written. -/
theorem own_put1 {α : Type} (f : α → List Value) {k : Nat} (hk : ∀ x, (f x).length = k) {w : World} {base g n cap : Nat} {e : TypeId} {l : List α} (h : w.ownsRow base e k (.slice (some ⟨g, 0, none⟩) n cap) n ((l.map f).flatten)) (r j : Nat) (d y : α) (v : Value) (hr : r < l.length) (hj : j < k) (hy : f y = (f (l.getD r d)).set j v) :
    (w.setCell ⟨g, r * k + j, none⟩ v).ownsRow base e k (.slice (some ⟨g, 0, none⟩) n cap) n (((l.set r y).map f).flatten) := by
  rw [flat_set f k hk l r j d y v hr hj hy]
  exact (h.stored _ _).1
theorem flat_atF {α : Type} (f : α → List Value) (k : Nat) (hk : ∀ x, (f x).length = k) : ∀ (l : List α) (r j : Nat) (d : α), r < l.length → j < k → ((l.map f).flatten)[r * k + j]? = (f (l.getD r d))[j]?
  | c :: cs, 0, j, d, _, hj => by
    simp only [List.map_cons, List.flatten_cons, Nat.zero_mul, Nat.zero_add]
    rw [List.getElem?_append_left (by rw [hk]; exact hj)]
    rfl
  | c :: cs, r + 1, j, d, hr, hj => by
    have ih := flat_atF f k hk cs r j d (by simpa using hr) hj
    have e : (r + 1) * k = r * k + k := Nat.succ_mul r k
    simp only [List.map_cons, List.flatten_cons]
    rw [List.getElem?_append_right (by rw [hk]; omega), hk, show (r + 1) * k + j - k = r * k + j by omega, ih]
    simp
theorem flat_length {α : Type} (f : α → List Value) (k : Nat) (hk : ∀ x, (f x).length = k) (l : List α) : ((l.map f).flatten).length = l.length * k := by
  induction l with
  | nil => simp
  | cons c cs ih => simp only [List.map_cons, List.flatten_cons, List.length_append, List.length_cons, ih, hk, Nat.succ_mul]; omega
/-- Field j of element r. -/
theorem own_field {α : Type} (f : α → List Value) {k : Nat} (hk : ∀ x, (f x).length = k) {w : World} {base g n cap : Nat} {e : TypeId} {l : List α} (h : w.ownsRow base e k (.slice (some ⟨g, 0, none⟩) n cap) n ((l.map f).flatten)) (r j : Nat) (d : α) {v : Value} (hr : r < l.length) (hj : j < k) (hv : (f (l.getD r d))[j]? = some v) : w.cell? ⟨g, r * k + j, none⟩ = some v := by
  have hlt : r * k + j < ((l.map f).flatten).length := by
    rw [flat_length f k hk]
    have : (r + 1) * k ≤ l.length * k := Nat.mul_le_mul_right k hr
    rw [Nat.succ_mul] at this
    omega
  have hl := h.1
  have := h.cellAt (r * k + j) (by omega)
  rw [flat_atF f k hk l r j d hr hj, hv] at this
  exact this
theorem own_soft1 {w : World} {base g n c : Nat} {ty : TypeId} {sz : Nat} {xs : List Value} (h : w.ownsRow base ty sz (.slice (some ⟨g, 0, none⟩) n c) n xs) (j : Nat) : w.frozen? ⟨g, j, none⟩ = false := h.frozenAt j
theorem own_pos {w : World} {base : Nat} {e : TypeId} {size : Nat} {a : Option Addr} {m c n : Nat} {xs : List Value} (h : w.ownsRow base e size (.slice a m c) n xs) (hn : 0 < n) : ∃ g, a = some ⟨g, 0, none⟩ ∧ base ≤ g ∧ g < w.heap.size := by
  rcases h.2 with ⟨_, h0⟩ | ⟨g, cap, cur, e1, h2, h3, _⟩
  · omega
  · injection e1 with e1 e2 e3
    exact ⟨g, e1, h2, (Array.getElem?_eq_some_iff.1 h3).1⟩
end Go.Proofs.YtacekbbndamkmaaGreatDoor
