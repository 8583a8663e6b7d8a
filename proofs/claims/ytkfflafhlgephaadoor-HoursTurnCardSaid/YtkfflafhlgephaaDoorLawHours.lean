/- What is proved here: the walk of the statement HoursTurn: it answers true. Condition: the slice that came in lies in memory, and a table of the library as its initialiser lays it. -/
import Derived.Test.YtkfflafhlgephaaDoorRightHours
import Derived.Test.YtkfflafhlgephaaDoorRegionLate
import Derived.Test.YtkfflafhlgephaaDoorHourTurn2
import Derived.Test.YtkfflafhlgephaaDoorSorted
import Derived.Test.YtkfflafhlgephaaDoorReady
import Derived.Deep.DeepCutAuto
set_option linter.unusedVariables false
set_option linter.unusedSimpArgs false
namespace Go.Proofs.YtkfflafhlgephaaDoor
open Go.RowKit

/-- Two hours in a row. -/
structure HoursIn (base : Nat) (w : World) (v : Value) (l : List Hrs) : Prop where
  two : l.length = 2
  own : w.ownsRow base 29 4 v 2 (l.flatMap Hrs.cells)
  each : ∀ x ∈ l, HrsOk w base x
  key : (l.map Hrs.key)[0]? = some [104, 97]
theorem HoursIn.keeps {base S : Nat} {w w' : World} {v : Value} {l : List Hrs} (h : HoursIn base w v l) (k : Keeps S w w') (hS : S < base) : HoursIn base w' v l :=
  ⟨h.two, own_keeps h.own k hS, fun x hx => (h.each x hx).keeps k hS, h.key⟩
theorem HoursAt.inn {S K base : Nat} {w w' : World} {v : Value} {l : List Hrs} (h : HoursAt S K w w' v l) (h2 : l.length = 2) (hb : base ≤ w.heap.size + 1) : HoursIn base w' v l := by
  have ho := h.own
  rw [h2] at ho
  exact ⟨h2, own_base ho hb, fun x hx => ⟨own_base (h.each x hx).own1 hb, own_base (h.each x hx).own2 hb, (h.each x hx).ok⟩, h.keys 0 (by omega)⟩
theorem HoursIn.first {base : Nat} {w : World} {v : Value} {l : List Hrs} (h : HoursIn base w v l) : ∃ (x : Hrs) (b cap : Nat), v = .slice (some ⟨b, 0, none⟩) 2 cap ∧ HrsOk w base x ∧ x.key = [104, 97] ∧ base ≤ b ∧ b < w.heap.size ∧ ∀ j, j < 4 → w.cell? ⟨b, j, none⟩ = x.cells[j]? := by
  obtain ⟨two, own, each, key⟩ := h
  match l, two with
  | [x, y], _ =>
    rcases own.2 with ⟨_, h0⟩ | ⟨g, cap, cur, rfl, hb, hg, _⟩
    · omega
    · refine ⟨x, g, cap, rfl, each x (by simp), by simpa using key, hb, (own.lt g rfl).2, fun j hj => ?_⟩
      rw [own.cellAt j (by omega)]
      simp only [List.flatMap_cons]
      rw [List.getElem?_append_left (by simpa [Hrs.cells] using hj)]

/-- What the statement starts from. -/
structure HourSet (S k : Nat) (w0 wx : World) (b c : Nat) (x : Hrs) (F T : Int) : Prop where
  h0 : wx.cell? ⟨b, 0, none⟩ = some (.string ⟨x.key.toArray⟩)
  h1 : wx.cell? ⟨b, 1, none⟩ = some (.int .i64 x.zone)
  h2 : wx.cell? ⟨b, 2, none⟩ = some (.slice x.ra x.rn x.rc)
  h3 : wx.cell? ⟨b, 3, none⟩ = some (.slice x.ha x.hn x.hc)
  c0 : wx.cell? ⟨c, 0, none⟩ = some (.int .i64 F)
  c1 : wx.cell? ⟨c, 1, none⟩ = some (.int .i64 T)
  ok : HrsOk wx (S + 1) x
  key : x.key = [104, 97]
  f0 : 0 ≤ F
  f1 : F ≤ 3600000
  t0 : 86400000 ≤ T
  t1 : T ≤ 432000000
  keeps : Keeps S w0 wx
  stream : StreamOk wx S k
  bS : b ≠ S
  cS : c ≠ S
  bl : b < wx.heap.size
  cl : c < wx.heap.size
theorem HourSet.kept {S k k' : Nat} {w0 wx w' : World} {b c : Nat} {x : Hrs} {F T : Int} (h : HourSet S k w0 wx b c x F T) (hk : Keeps S wx w') (hs : StreamOk w' S k') : HourSet S k' w0 w' b c x F T := by
  have cb := fun j => hk.cell (p := ⟨b, j, none⟩) h.bl h.bS
  have cc := fun j => hk.cell (p := ⟨c, j, none⟩) h.cl h.cS
  exact ⟨(cb 0).trans h.h0, (cb 1).trans h.h1, (cb 2).trans h.h2, (cb 3).trans h.h3, (cc 0).trans h.c0, (cc 1).trans h.c1, h.ok.keeps hk (Nat.lt_succ_self _), h.key, h.f0, h.f1, h.t0, h.t1, h.keeps.trans hk, hs, h.bS, h.cS, Nat.lt_of_lt_of_le h.bl hk.size, Nat.lt_of_lt_of_le h.cl hk.size⟩

theorem blk_cell {w : World} {b : Nat} {cs : Array Value} {ty : TypeId} (h : w.heap[b]? = some (.cells cs ty)) (j : Nat) : w.cell? ⟨b, j, none⟩ = cs[j]? := by simp [World.cell?, h]
theorem blk_frozen {w : World} {b : Nat} {cs : Array Value} {ty : TypeId} (h : w.heap[b]? = some (.cells cs ty)) (j : Nat) : w.frozen? ⟨b, j, none⟩ = false := by simp [World.frozen?, h]
theorem blk_apart {w : World} {b c : Nat} {cs ds : Array Value} {t u : TypeId} (h : w.heap[b]? = some (.cells cs t)) (k : w.heap[c]? = some (.cells ds u)) (htu : t ≠ u) : b ≠ c := by
  intro e
  subst e
  rw [h] at k
  injection k with k
  injection k with _ k2
  exact htu k2

theorem own_type {w : World} {base : Nat} {e t : TypeId} {size : Nat} {v : Value} {n : Nat} {xs : List Value} (h : w.ownsRow base e size v n xs) {b : Nat} {cs : Array Value} (hb : w.heap[b]? = some (.cells cs t)) (hte : t ≠ e) : v.ownBlock ≠ some b := by
  intro hv
  rcases h.2 with ⟨rfl, _⟩ | ⟨g, cap, cur, rfl, _, hg, _⟩
  · simp [Value.ownBlock] at hv
  · simp [Value.ownBlock] at hv
    subst hv
    rw [hg] at hb
    injection hb with hb
    injection hb with h1 h2
    exact hte h2.symm
theorem HrsOk.setOther {w : World} {base : Nat} {x : Hrs} (h : HrsOk w base x) {p : Addr} (n1 : Value.ownBlock (.slice x.ra x.rn x.rc) ≠ some p.block) (n2 : Value.ownBlock (.slice x.ha x.hn x.hc) ≠ some p.block) (u : Value) : HrsOk (w.setCell p u) base x := ⟨ownsRow_setCell_other h.own1 n1 u, ownsRow_setCell_other h.own2 n2 u, h.ok⟩

theorem hourSet_made {S k : Nat} {w0 w8 : World} {b c : Nat} {x : Hrs} {F T : Int} (hb : w8.heap[b]? = some (.cells #[.string ⟨#[]⟩, .int .i64 0, .slice none 0 0, .slice none 0 0] 29)) (hc : w8.heap[c]? = some (.cells #[.int .i64 0, .int .i64 0] 34)) (bS : S + 1 ≤ b) (cS : S + 1 ≤ c) (hok : HrsOk w8 (S + 1) x) (hkey : x.key = [104, 97]) (F0 : 0 ≤ F) (F1 : F ≤ 3600000) (T0 : 86400000 ≤ T) (T1 : T ≤ 432000000) (hk : Keeps S w0.drew w8) (hs : StreamOk w8 S k) (hz : w0.heap.size = S + 1 := by simp) :
    HourSet S k w0 ((((((w8.setCell ⟨b, 0, none⟩ (.string ⟨x.key.toArray⟩)).setCell ⟨b, 1, none⟩ (.int .i64 x.zone)).setCell ⟨b, 2, none⟩ (.slice x.ra x.rn x.rc)).setCell ⟨b, 3, none⟩ (.slice x.ha x.hn x.hc)).setCell ⟨c, 0, none⟩ (.int .i64 F)).setCell ⟨c, 1, none⟩ (.int .i64 T)) b c x F T := by
  have hbc := blk_apart hb hc (by decide)
  have bl : b < w8.heap.size := (Array.getElem?_eq_some_iff.1 hb).1
  have cl : c < w8.heap.size := (Array.getElem?_eq_some_iff.1 hc).1
  have q0 := (blk_cell hb 0).trans (show _ = some (.string ⟨#[]⟩) from rfl)
  have q1 := (blk_cell hb 1).trans (show _ = some (.int .i64 0) from rfl)
  have q2 := (blk_cell hb 2).trans (show _ = some (.slice none 0 0) from rfl)
  have q3 := (blk_cell hb 3).trans (show _ = some (.slice none 0 0) from rfl)
  have q4 := (blk_cell hc 0).trans (show _ = some (.int .i64 0) from rfl)
  have q5 := (blk_cell hc 1).trans (show _ = some (.int .i64 0) from rfl)
  have n1 := own_type hok.own1 hb (by decide)
  have n2 := own_type hok.own2 hb (by decide)
  have n3 := own_type hok.own1 hc (by decide)
  have n4 := own_type hok.own2 hc (by decide)
  have hkw : Keeps S w0 w8 := ⟨hk.os, hk.tape, hk.output, hk.size, hk.block⟩
  refine ⟨by go_simp, by go_simp, by go_simp, by go_simp, by go_simp, by go_simp, ?_, hkey, F0, F1, T0, T1, ?_, ?_, by omega, by omega, by simpa using bl, by simpa using cl⟩
  · exact (((((hok.setOther n1 n2 _).setOther n1 n2 _).setOther n1 n2 _).setOther n1 n2 _).setOther n3 n4 _).setOther n3 n4 _
  · exact (((((hkw.setCell_new (by rw [hz]; exact bS) _).setCell_new (by rw [hz]; exact bS) _).setCell_new (by rw [hz]; exact bS) _).setCell_new (by rw [hz]; exact bS) _).setCell_new (by rw [hz]; exact cS) _).setCell_new (by rw [hz]; exact cS) _
  · exact hs.upto ((((((Below.refl (S + 1) w8).setCell bS _).setCell bS _).setCell bS _).setCell bS _).setCell cS _ |>.setCell cS _)

set_option maxRecDepth 100000 in
set_option maxHeartbeats 8000000 in
theorem hours_true (w : World) (a : Option Addr) (len cap : Nat) (zs : List Int) (hr : ArgRow w a len cap zs) (ht : TabAt w) :
    Calls Tryd.prog 3 #[.slice a len cap] w fun e w' => e = .returned (.bool true) ∧ Below w.heap.size w w' := by
  have hst := stream_start hr
  have HT0 := Lib.hid ht
  have HS0 := Lib.hid hst
  clear hr ht hst
  go_enter Tryd.func3, Tryd.ntmps3
  go_upto_region 2 with (fail)
  go_cut [4, 5] (fun s4 s5 wx => ∃ (x : Hrs) (F T : Int) (b c : Nat), s4 = .pointer (some ⟨b, 0, none⟩) ∧ s5 = .pointer (some ⟨c, 0, none⟩) ∧ Hid (HourSet w.heap.size 120 (w.alloc (.cells #[.slice a len cap, .int .i64 0] 25)) wx b c x F T))
  case first =>
    refine region_late w.heap.size (0) 40 13 10 [.val (· = .pointer (some ⟨w.heap.size, 0, none⟩)), .mem (fun w9 v => ∃ l, HoursIn (w.heap.size + 1) w9 v l), .mem (fun w9 v => ∃ (x : Hrs) (b : Nat), HrsOk w9 (w.heap.size + 1) x ∧ x.key = [104, 97] ∧ v = .pointer (some ⟨b, 0, none⟩) ∧ b ≠ w.heap.size ∧ b < w9.heap.size ∧ ∀ j, j < 4 → w9.cell? ⟨b, j, none⟩ = x.cells[j]?), .mem (fun w9 v => ∃ x : Hrs, HrsOk w9 (w.heap.size + 1) x ∧ x.key = [104, 97] ∧ v = .agg x.cells.toArray), .val (· = .pointer (some ⟨w.heap.size, 0, none⟩)), .arr 3 (· = [.int .i64 0, .int .i64 1, .int .i64 3600000]), .val (fun x => ∃ r : Int, x = .int .i64 r ∧ (0 ≤ r ∧ r ≤ 3600000)), .val (· = .pointer (some ⟨w.heap.size, 0, none⟩)), .arr 2 (· = [.int .i64 86400000, .int .i64 432000000]), .val (fun x => ∃ r : Int, x = .int .i64 r ∧ (86400000 ≤ r ∧ r ≤ 432000000)), .val (fun v => ∃ F T : Int, (0 ≤ F ∧ F ≤ 3600000) ∧ (86400000 ≤ T ∧ T ≤ 432000000) ∧ v = .agg #[.int .i64 F, .int .i64 T]), .mem (fun (w9 : World) (v : Value) => ∃ b, v = .pointer (some ⟨b, 0, none⟩) ∧ w.heap.size + 1 ≤ b ∧ w9.heap[b]? = some (.cells #[.string ⟨#[]⟩, .int .i64 0, .slice none 0 0, .slice none 0 0] 29)), .mem (fun (w9 : World) (v : Value) => ∃ b, v = .pointer (some ⟨b, 0, none⟩) ∧ w.heap.size + 1 ≤ b ∧ w9.heap[b]? = some (.cells #[.int .i64 0, .int .i64 0] 34))] [1, 6, 9] [some 21, some 22, some 23, some 24, some 25, some 26, some 27, some 28, some 29, some 30, some 31, some 4, some 5] (by kernel_rfl) (by kernel_rfl) (by kernel_rfl) (by kernel_rfl) (by kernel_rfl) (by kernel_rfl) rfl (by kernel_rfl) rfl rfl (by kernel_rfl) HS0.out ⟨?_, ?_, ?_, ?_, ?_, ?_, ?_, ?_, ?_, ?_, ?_, ?_, ?_, trivial⟩ ?_ ?_
    · intro a w' c hk hst hc hfr hdp K hK
      have f : a.tmps[3]?.getD undef = .pointer (some ⟨w.heap.size, 0, none⟩) := slot_of (hfr 3 (by kernel_rfl))
      refine gen_pure (v := .pointer (some ⟨w.heap.size, 0, none⟩)) ?_ (hK _ _ rfl (Keeps.refl _ _) hst)
      go_simp
    · intro a w' c hk hst hc hfr hdp K hK
      have d1 : a.tmps[21]?.getD undef = .pointer (some ⟨w.heap.size, 0, none⟩) := slot_of (hdp 0 21 _ (by kernel_rfl) (by kernel_rfl) rfl)
      have hc2 : c + 1 ≤ 3 := hc
      refine gen_call 6 #[.pointer (some ⟨w.heap.size, 0, none⟩)] ?_ (rightHours_any w.heap.size _ w' hst (by omega)) ?_
      · clear hK; go_simp
      rintro e w'' ⟨v, l, rfl, hl2, hH⟩
      have hst2 := hH.stream
      have hkp := hH.keeps
      exact ⟨_, rfl, hK _ _ (fun w9 hk9 => ⟨l, (HoursAt.inn hH hl2 (by have := hk.size; simp at this; omega)).keeps hk9 (by omega)⟩) hkp (hst2.mono (by simp; omega))⟩
    · intro a w' c hk hst hc hfr hdp K hK
      have g1 := hdp 1 22 _ (by kernel_rfl) (by kernel_rfl) rfl
      obtain ⟨l, hl⟩ := g1 w' (Keeps.refl _ _)
      obtain ⟨x, b, cp, hv, hok, hkey, hb, hbl, hcell⟩ := hl.first
      have s1 := slot_of hv
      refine gen_pure (v := .pointer (some ⟨b, 0, none⟩)) ?_ (hK _ _ (fun w9 hk9 => ⟨x, b, hok.keeps hk9 (by omega), hkey, rfl, by omega, Nat.lt_of_lt_of_le hbl hk9.size, fun j hj => (hk9.cell (p := ⟨b, j, none⟩) hbl (by show b ≠ _; omega)).trans (hcell j hj)⟩) (Keeps.refl _ _) hst)
      clear g1 hK hl hcell hv hok
      go_simp
    · intro a w' c hk hst hc hfr hdp K hK
      have g1 := hdp 2 23 _ (by kernel_rfl) (by kernel_rfl) rfl
      obtain ⟨⟨xk, xz, xr, xrn, xrc, xh, xhn, xhc, xro, xho⟩, b, hok, hkey, hv, hb, hbl, hcell⟩ := g1 w' (Keeps.refl _ _)
      have s1 := slot_of hv
      have k0 := hcell 0 (by omega)
      have k1 := hcell 1 (by omega)
      have k2 := hcell 2 (by omega)
      have k3 := hcell 3 (by omega)
      simp only [Hrs.cells, List.getElem?_cons_zero, List.getElem?_cons_succ] at k0 k1 k2 k3
      refine gen_pure (v := .agg #[.string ⟨xk.toArray⟩, .int .i64 xz, .slice xr xrn xrc, .slice xh xhn xhc]) ?_ (hK _ _ (fun w9 hk9 => ⟨_, hok.keeps hk9 (by omega), hkey, rfl⟩) (Keeps.refl _ _) hst)
      clear g1 hK hcell hv hok hkey
      go_simp
    · intro a w' c hk hst hc hfr hdp K hK
      have f : a.tmps[3]?.getD undef = .pointer (some ⟨w.heap.size, 0, none⟩) := slot_of (hfr 3 (by kernel_rfl))
      refine gen_pure (v := .pointer (some ⟨w.heap.size, 0, none⟩)) ?_ (hK _ _ rfl (Keeps.refl _ _) hst)
      go_simp
    · intro a w' c hk hst hc hfr hdp K hK
      refine gen_alloc (p := (· = [.int .i64 0, .int .i64 1, .int .i64 3600000])) #[.int .i64 0, .int .i64 1, .int .i64 3600000] 3 ?_ rfl hst hK
      go_simp
    · intro a w' c hk hst hc hfr hdp K hK
      have d1 : a.tmps[25]?.getD undef = .pointer (some ⟨w.heap.size, 0, none⟩) := slot_of (hdp 4 25 _ (by kernel_rfl) (by kernel_rfl) rfl)
      have d2 := hdp 5 26 _ (by kernel_rfl) (by kernel_rfl) rfl
      generalize hv2 : a.eval (.tmp 26) = v2 at d2
      have d3 := slot_of hv2
      clear hv2
      have hc2 : c + 1 ≤ 3 := hc
      refine gen_call 7 #[.pointer (some ⟨w.heap.size, 0, none⟩), v2] ?_ (calls_pick w.heap.size _ v2 [0, 1, 3600000] (fun r => 0 ≤ r ∧ r ≤ 3600000) w' hst (by omega) d2 (by decide) (by decide) (by decide)) ?_
      · clear hK; go_simp
      rintro e w'' ⟨r, rfl, hr, hst2, hkp⟩
      exact ⟨_, rfl, hK _ _ ⟨r, rfl, hr⟩ hkp (hst2.mono (by simp; omega))⟩
    · intro a w' c hk hst hc hfr hdp K hK
      have f : a.tmps[3]?.getD undef = .pointer (some ⟨w.heap.size, 0, none⟩) := slot_of (hfr 3 (by kernel_rfl))
      refine gen_pure (v := .pointer (some ⟨w.heap.size, 0, none⟩)) ?_ (hK _ _ rfl (Keeps.refl _ _) hst)
      go_simp
    · intro a w' c hk hst hc hfr hdp K hK
      refine gen_alloc (p := (· = [.int .i64 86400000, .int .i64 432000000])) #[.int .i64 86400000, .int .i64 432000000] 3 ?_ rfl hst hK
      go_simp
    · intro a w' c hk hst hc hfr hdp K hK
      have d1 : a.tmps[28]?.getD undef = .pointer (some ⟨w.heap.size, 0, none⟩) := slot_of (hdp 7 28 _ (by kernel_rfl) (by kernel_rfl) rfl)
      have d2 := hdp 8 29 _ (by kernel_rfl) (by kernel_rfl) rfl
      generalize hv2 : a.eval (.tmp 29) = v2 at d2
      have d3 := slot_of hv2
      clear hv2
      have hc2 : c + 1 ≤ 3 := hc
      refine gen_call 7 #[.pointer (some ⟨w.heap.size, 0, none⟩), v2] ?_ (calls_pick w.heap.size _ v2 [86400000, 432000000] (fun r => 86400000 ≤ r ∧ r ≤ 432000000) w' hst (by omega) d2 (by decide) (by decide) (by decide)) ?_
      · clear hK; go_simp
      rintro e w'' ⟨r, rfl, hr, hst2, hkp⟩
      exact ⟨_, rfl, hK _ _ ⟨r, rfl, hr⟩ hkp (hst2.mono (by simp; omega))⟩
    · intro a w' c hk hst hc hfr hdp K hK
      obtain ⟨F, g1, hF⟩ := hdp 6 27 _ (by kernel_rfl) (by kernel_rfl) rfl
      obtain ⟨T, g2, hT⟩ := hdp 9 30 _ (by kernel_rfl) (by kernel_rfl) rfl
      have s1 := slot_of g1
      have s2 := slot_of g2
      refine gen_pure (v := .agg #[.int .i64 F, .int .i64 T]) ?_ (hK _ _ ⟨F, T, hF, hT, rfl⟩ (Keeps.refl _ _) hst)
      clear g1 g2 hK
      go_simp
    · intro a w' c hk hst hc hfr hdp K hK
      refine gen_box (p := (fun (w9 : World) (v : Value) => ∃ b, v = .pointer (some ⟨b, 0, none⟩) ∧ w.heap.size + 1 ≤ b ∧ w9.heap[b]? = some (.cells #[.string ⟨#[]⟩, .int .i64 0, .slice none 0 0, .slice none 0 0] 29))) #[.string ⟨#[]⟩, .int .i64 0, .slice none 0 0, .slice none 0 0] 29 ?_ (fun w9 hk9 => ⟨w'.heap.size, rfl, (by have := hk.size; simp at this ⊢; omega), (hk9.block w'.heap.size (by simp) (Nat.ne_of_gt hst.lt)).trans (heap_alloc_new _ _)⟩) hst hK
      go_simp
    · intro a w' c hk hst hc hfr hdp K hK
      refine gen_box (p := (fun (w9 : World) (v : Value) => ∃ b, v = .pointer (some ⟨b, 0, none⟩) ∧ w.heap.size + 1 ≤ b ∧ w9.heap[b]? = some (.cells #[.int .i64 0, .int .i64 0] 34))) #[.int .i64 0, .int .i64 0] 34 ?_ (fun w9 hk9 => ⟨w'.heap.size, rfl, (by have := hk.size; simp at this ⊢; omega), (hk9.block w'.heap.size (by simp) (Nat.ne_of_gt hst.lt)).trans (heap_alloc_new _ _)⟩) hst hK
      go_simp
    · intro w8 hk8 hst8
      rintro _ rfl _ - _ - _ hx _ rfl _ - _ - _ rfl _ - _ - _ ⟨F, T, ⟨F0, F1⟩, ⟨T0, T1⟩, rfl⟩ _ hb _ hc
      obtain ⟨⟨xk, xz, xr, xrn, xrc, xh, xhn, xhc, xro, xho⟩, hok, hkey, rfl⟩ := hx w8 (Keeps.refl _ _)
      obtain ⟨b, rfl, bS, hb⟩ := hb w8 (Keeps.refl _ _)
      obtain ⟨c, rfl, cS, hc⟩ := hc w8 (Keeps.refl _ _)
      simp only [ForVals, Act.put, List.setIfInBounds_toArray, List.set_cons_zero, List.set_cons_succ, List.drop_succ_cons, List.drop_zero, Hrs.cells]
      have hbc := blk_apart hb hc (by decide)
      have bl : b < w8.heap.size := (Array.getElem?_eq_some_iff.1 hb).1
      have cl : c < w8.heap.size := (Array.getElem?_eq_some_iff.1 hc).1
      have q0 := (blk_cell hb 0).trans (show _ = some (.string ⟨#[]⟩) from rfl)
      have q1 := (blk_cell hb 1).trans (show _ = some (.int .i64 0) from rfl)
      have q2 := (blk_cell hb 2).trans (show _ = some (.slice none 0 0) from rfl)
      have q3 := (blk_cell hb 3).trans (show _ = some (.slice none 0 0) from rfl)
      have q4 := (blk_cell hc 0).trans (show _ = some (.int .i64 0) from rfl)
      have q5 := (blk_cell hc 1).trans (show _ = some (.int .i64 0) from rfl)
      have r0 := blk_frozen hb 0
      have r1 := blk_frozen hb 1
      have r2 := blk_frozen hb 2
      have r3 := blk_frozen hb 3
      have r4 := blk_frozen hc 0
      have r5 := blk_frozen hc 1
      have HEND := Lib.hid (hourSet_made hb hc bS cS hok hkey F0 F1 T0 T1 hk8 hst8)
      clear hok hkey hk8 hst8 hb hc hx
      go_wp2_with fail
      go_meet
      exact ⟨⟨xk, xz, xr, xrn, xrc, xh, xhn, xhc, xro, xho⟩, F, T, b, c, rfl, rfl, HEND.out⟩
    · intro w8 hk8 hst8
      rintro _ rfl _ - _ - _ hx _ rfl _ - _ ⟨F, rfl, F0, F1⟩ _ rfl _ - _ ⟨T, rfl, T0, T1⟩ _ hb _ hc
      obtain ⟨⟨xk, xz, xr, xrn, xrc, xh, xhn, xhc, xro, xho⟩, hok, hkey, rfl⟩ := hx w8 (Keeps.refl _ _)
      obtain ⟨b, rfl, bS, hb⟩ := hb w8 (Keeps.refl _ _)
      obtain ⟨c, rfl, cS, hc⟩ := hc w8 (Keeps.refl _ _)
      simp only [ForVals, Act.put, List.setIfInBounds_toArray, List.set_cons_zero, List.set_cons_succ, List.drop_succ_cons, List.drop_zero, Hrs.cells]
      have hbc := blk_apart hb hc (by decide)
      have bl : b < w8.heap.size := (Array.getElem?_eq_some_iff.1 hb).1
      have cl : c < w8.heap.size := (Array.getElem?_eq_some_iff.1 hc).1
      have q0 := (blk_cell hb 0).trans (show _ = some (.string ⟨#[]⟩) from rfl)
      have q1 := (blk_cell hb 1).trans (show _ = some (.int .i64 0) from rfl)
      have q2 := (blk_cell hb 2).trans (show _ = some (.slice none 0 0) from rfl)
      have q3 := (blk_cell hb 3).trans (show _ = some (.slice none 0 0) from rfl)
      have q4 := (blk_cell hc 0).trans (show _ = some (.int .i64 0) from rfl)
      have q5 := (blk_cell hc 1).trans (show _ = some (.int .i64 0) from rfl)
      have r0 := blk_frozen hb 0
      have r1 := blk_frozen hb 1
      have r2 := blk_frozen hb 2
      have r3 := blk_frozen hb 3
      have r4 := blk_frozen hc 0
      have r5 := blk_frozen hc 1
      have HEND := Lib.hid (hourSet_made hb hc bS cS hok hkey F0 F1 T0 T1 hk8 hst8)
      clear hok hkey hk8 hst8 hb hc hx
      go_wp2_with fail
      go_meet
      exact ⟨⟨xk, xz, xr, xrn, xrc, xh, xhn, xhc, xro, xho⟩, F, T, b, c, rfl, rfl, HEND.out⟩
  case rest =>
    obtain ⟨⟨xk, xz, xr, xrn, xrc, xh, xhn, xhc, xro, xho⟩, F, T, b, c, rfl, rfl, HX⟩ := hcut
    obtain ⟨wx, rfl⟩ : ∃ wx : World, wx = wc := ⟨_, rfl⟩
    have h0 := HX.out.h0
    have h1 := HX.out.h1
    have h2 := HX.out.h2
    have h3 := HX.out.h3
    have c0 := HX.out.c0
    have c1 := HX.out.c1
    have f0 := HX.out.f0
    have f1 := HX.out.f1
    have t0 := HX.out.t0
    have t1 := HX.out.t1
    have bS := HX.out.bS
    have cS := HX.out.cS
    have bl := HX.out.bl
    have cl := HX.out.cl
    have HKB : Hid (isKeyB xk = true ∧ xk.length ≤ 1000) := by
      have e : xk = [104, 97] := HX.out.key
      subst e
      exact ⟨by decide, by decide⟩
    simp only at h0 h1 h2 h3
    go_wp2_with fail
    refine (turns_any _ xk xz xr xh xrn xrc xhn xhc xro xho F T HKB.out.1 HKB.out.2 HX.out.ok.tri.1 HX.out.ok.tri.2 HX.out.ok.ok (by omega) (by omega) (by omega) (by omega)).mono ?_
    rintro e w2 ⟨v, xs, te, was, rfl, hown, hinv, hte, hlt, hlen, hte2, hb2⟩
    obtain ⟨av, cpv, hv, hrow⟩ := IRow.of_own hown
    subst hv
    have HI := Lib.hid hinv
    have HLT := Lib.hid hlt
    have HR2 := Lib.hid hrow
    have HOWN := Lib.hid hown
    have HX2 := Lib.hid (HX.out.kept (Keeps.of_below hb2) (HX.out.stream.below hb2))
    have hlen2 : xs.length ≤ 500000000 := by omega
    clear hown hinv hlt hrow hb2 h0 h1 h2 h3 c0 c1 bl cl
    go_wp2_with fail
    refine (isSorted_up _ av xs.length cpv xs HR2.out (fun i hi => by have := HI.out.sorted i (i + 1) (by omega) hi; omega) (by omega)).mono ?_
    rintro e w3 ⟨rfl, hq⟩
    have hB3 : Below w2.heap.size w2 w3 := by obtain ⟨q, rfl⟩ := hq; exact ext_drewN (Below.refl _ _)
    have HX3 := Lib.hid (HX2.out.kept (Keeps.of_below hB3) (HX2.out.stream.below hB3))
    have HO3 := Lib.hid (HOWN.out.kept_below hB3)
    have C0 := Lib.hid HX3.out.c0
    have C1 := Lib.hid HX3.out.c1
    have HS3 := Lib.hid HX3.out.stream
    have cl := HX3.out.cl
    clear hB3 hq HX2 HR2
    go_wp2_with fail
    refine region_gen w.heap.size (120) 11 [.val (· = .pointer (some ⟨c, 0, none⟩)), .val (.int .i64 F = ·), .val (· = .pointer (some ⟨w.heap.size, 0, none⟩)), .val (· = .pointer (some ⟨c, 1, none⟩)), .val (.int .i64 T = ·), .val (· = .pointer (some ⟨c, 0, none⟩)), .val (.int .i64 F = ·), .val (.int .i64 (T - F) = ·), .val (.int .i64 (T - F - 1) = ·), .val (fun x => ∃ r : Int, x = .int .i64 r ∧ (0 ≤ r ∧ r ≤ T - F - 1)), .val (fun x => ∃ at_ : Int, x = .int .i64 at_ ∧ (F ≤ at_ ∧ at_ < T))] [9] [some 45, some 46, some 47, some 48, some 49, some 50, some 51, some 52, some 53, some 54, some 55] (by kernel_rfl) (by kernel_rfl) (by kernel_rfl) (by kernel_rfl) rfl (by kernel_rfl) HS3.out ⟨?_, ?_, ?_, ?_, ?_, ?_, ?_, ?_, ?_, ?_, ?_, trivial⟩ ?_
    · intro a w' cc hk hst hc hfr hdp K hK
      have f : a.tmps[5]?.getD undef = .pointer (some ⟨c, 0, none⟩) := slot_of (hfr 5 (by kernel_rfl))
      refine gen_pure (v := .pointer (some ⟨c, 0, none⟩)) ?_ (hK _ _ rfl (Keeps.refl _ _) hst)
      go_simp
    · intro a w' cc hk hst hc hfr hdp K hK
      have d : a.tmps[45]?.getD undef = .pointer (some ⟨c, 0, none⟩) := slot_of (hdp 0 45 _ (by kernel_rfl) (by kernel_rfl) rfl)
      have cl : w'.cell? ⟨c, 0, none⟩ = some (.int .i64 F) := (hk.cell (p := ⟨c, 0, none⟩) (by show c < w3.heap.size; omega) (by show c ≠ w.heap.size; omega)).trans C0.out
      refine gen_pure (v := .int .i64 F) ?_ (hK _ _ rfl (Keeps.refl _ _) hst)
      go_simp
    · intro a w' cc hk hst hc hfr hdp K hK
      have f : a.tmps[3]?.getD undef = .pointer (some ⟨w.heap.size, 0, none⟩) := slot_of (hfr 3 (by kernel_rfl))
      refine gen_pure (v := .pointer (some ⟨w.heap.size, 0, none⟩)) ?_ (hK _ _ rfl (Keeps.refl _ _) hst)
      go_simp
    · intro a w' cc hk hst hc hfr hdp K hK
      have f : a.tmps[5]?.getD undef = .pointer (some ⟨c, 0, none⟩) := slot_of (hfr 5 (by kernel_rfl))
      refine gen_pure (v := .pointer (some ⟨c, 1, none⟩)) ?_ (hK _ _ rfl (Keeps.refl _ _) hst)
      go_simp
    · intro a w' cc hk hst hc hfr hdp K hK
      have d : a.tmps[48]?.getD undef = .pointer (some ⟨c, 1, none⟩) := slot_of (hdp 3 48 _ (by kernel_rfl) (by kernel_rfl) rfl)
      have cl : w'.cell? ⟨c, 1, none⟩ = some (.int .i64 T) := (hk.cell (p := ⟨c, 1, none⟩) (by show c < w3.heap.size; omega) (by show c ≠ w.heap.size; omega)).trans C1.out
      refine gen_pure (v := .int .i64 T) ?_ (hK _ _ rfl (Keeps.refl _ _) hst)
      go_simp
    · intro a w' cc hk hst hc hfr hdp K hK
      have f : a.tmps[5]?.getD undef = .pointer (some ⟨c, 0, none⟩) := slot_of (hfr 5 (by kernel_rfl))
      refine gen_pure (v := .pointer (some ⟨c, 0, none⟩)) ?_ (hK _ _ rfl (Keeps.refl _ _) hst)
      go_simp
    · intro a w' cc hk hst hc hfr hdp K hK
      have d : a.tmps[50]?.getD undef = .pointer (some ⟨c, 0, none⟩) := slot_of (hdp 5 50 _ (by kernel_rfl) (by kernel_rfl) rfl)
      have cl : w'.cell? ⟨c, 0, none⟩ = some (.int .i64 F) := (hk.cell (p := ⟨c, 0, none⟩) (by show c < w3.heap.size; omega) (by show c ≠ w.heap.size; omega)).trans C0.out
      refine gen_pure (v := .int .i64 F) ?_ (hK _ _ rfl (Keeps.refl _ _) hst)
      go_simp
    · intro a w' cc hk hst hc hfr hdp K hK
      have d4 : a.tmps[49]?.getD undef = .int .i64 T := slot_of (Eq.symm (hdp 4 49 _ (by kernel_rfl) (by kernel_rfl) rfl))
      have d6 : a.tmps[51]?.getD undef = .int .i64 F := slot_of (Eq.symm (hdp 6 51 _ (by kernel_rfl) (by kernel_rfl) rfl))
      have hwr : IntKind.i64.wrap (T - F) = T - F := IntWalk.i64_in _ (by omega)
      refine gen_pure (v := .int .i64 (T - F)) ?_ (hK _ _ rfl (Keeps.refl _ _) hst)
      clear hK
      go_simp
    · intro a w' cc hk hst hc hfr hdp K hK
      have d7 : a.tmps[52]?.getD undef = .int .i64 (T - F) := slot_of (Eq.symm (hdp 7 52 _ (by kernel_rfl) (by kernel_rfl) rfl))
      have hwr : IntKind.i64.wrap (T - F - 1) = T - F - 1 := IntWalk.i64_in _ (by omega)
      refine gen_pure (v := .int .i64 (T - F - 1)) ?_ (hK _ _ rfl (Keeps.refl _ _) hst)
      clear hK
      go_simp
    · intro a w' cc hk hst hc hfr hdp K hK
      have d1 : a.tmps[47]?.getD undef = .pointer (some ⟨w.heap.size, 0, none⟩) := slot_of (hdp 2 47 _ (by kernel_rfl) (by kernel_rfl) rfl)
      have d8 : a.tmps[53]?.getD undef = .int .i64 (T - F - 1) := slot_of (Eq.symm (hdp 8 53 _ (by kernel_rfl) (by kernel_rfl) rfl))
      have hc2 : cc + 1 ≤ 1 := hc
      refine gen_call 10 #[.pointer (some ⟨w.heap.size, 0, none⟩), .int .i64 0, .int .i64 (T - F - 1)] ?_ (range_any w.heap.size _ 0 (T - F - 1) w' hst (by omega) (by omega) (by omega) (by omega)) ?_
      · clear hK; go_simp
      rintro e w'' ⟨r, rfl, r0, r1, hst2, hkp⟩
      exact ⟨_, rfl, hK _ _ ⟨r, rfl, r0, r1⟩ hkp hst2⟩
    · intro a w' cc hk hst hc hfr hdp K hK
      have d4 : a.tmps[46]?.getD undef = .int .i64 F := slot_of (Eq.symm (hdp 1 46 _ (by kernel_rfl) (by kernel_rfl) rfl))
      obtain ⟨r, g3, r0, r1⟩ := hdp 9 54 _ (by kernel_rfl) (by kernel_rfl) rfl
      have s3 := slot_of g3
      have hwr : IntKind.i64.wrap (F + r) = F + r := IntWalk.i64_in _ (by omega)
      refine gen_pure (v := .int .i64 (F + r)) ?_ (hK _ _ ⟨F + r, rfl, by omega, by omega⟩ (Keeps.refl _ _) hst)
      clear g3 hK
      go_simp
    intro w4 hk4 hst4
    rintro _ rfl _ rfl _ rfl _ rfl _ rfl _ rfl _ rfl _ rfl _ rfl _ - _ ⟨at_, rfl, a0, a1⟩
    simp only [ForVals, Act.put, List.setIfInBounds_toArray, List.set_cons_zero, List.set_cons_succ, List.drop_succ_cons, List.drop_zero]
    have kd : Keeps w.heap.size w3 w4 := Keeps.trans (by exact Keeps.of_below (ext_drew (Below.refl _ _))) hk4
    have HX4 := Lib.hid (HX3.out.kept kd hst4)
    have HO4 := Lib.hid (own_keeps HO3.out kd (by have := HX.out.keeps.size; simp at this; omega))
    have h0 := HX4.out.h0
    have h1 := HX4.out.h1
    have h2 := HX4.out.h2
    have h3 := HX4.out.h3
    simp only at h0 h1 h2 h3
    clear kd hk4 hst4 HX3 HO3 C0 C1 HS3
    go_wp2_with fail
    refine (open_any _ xk xz xr xh xrn xrc xhn xhc xro xho at_ HKB.out.1 HKB.out.2 HX4.out.ok.tri.1 HX4.out.ok.tri.2 HX4.out.ok.ok (by omega) (by omega)).mono ?_
    rintro e w5 ⟨rfl, hb5⟩
    have HX5 := Lib.hid (HX4.out.kept (Keeps.of_below hb5) (HX4.out.stream.below hb5))
    have HO5 := Lib.hid (HO4.out.kept_below hb5)
    have HTOLD : Hid (openI xz xro xho at_ = oddB (uptoN xs at_)) := HI.out.told at_ a0 (by omega)
    clear hb5 h0 h1 h2 h3 HO4 HX4
    generalize openI xz xro xho at_ = op at HTOLD
    go_wp2_with fail
    go_loopw [11, 64] (fun nv it wr => ∃ k : Nat, k ≤ xs.length ∧ it = .int .i64 k ∧ nv = .int .i64 (uptoN (xs.take k) at_) ∧ Hid (HourSet w.heap.size 121 (w.alloc (.cells #[.slice a len cap, .int .i64 0] 25)) wr b c ⟨xk, xz, xr, xrn, xrc, xh, xhn, xhc, xro, xho⟩ F T) ∧ Hid (wr.ownsRow wx.heap.size 3 1 (.slice av xs.length cpv) xs.length (xs.map (Value.int .i64)))) (fun _ it _ => xs.length - (intOf it).toNat)
    case atStart => exact ⟨0, Nat.zero_le _, rfl, rfl, HX5, HO5⟩
    case round =>
      obtain ⟨k, hk, rfl, rfl, HXr, HOr⟩ := hrel
      have hup : uptoN (xs.take k) at_ ≤ k := Nat.le_trans (List.countP_le_length) (List.length_take_le _ _)
      by_cases hlk : k < xs.length
      · obtain ⟨av', cpv', hvv, hrow⟩ := IRow.of_own HOr.out
        cases hvv
        rcases hrow.2 with hz | ⟨g, off, rfl, hg, hc⟩
        · omega
        have cx := hc k hlk
        have hmem := mem_getD hlk
        have hin := HI.out.inside _ hmem
        have hxT := HLT.out _ hmem
        have HTN : Hid (F < xs.getD k 0 → openI xz xro xho (xs.getD k 0) ≠ openI xz xro xho (xs.getD k 0 - 1)) := HI.out.turns _ hmem
        have HUP : Hid (uptoN (xs.take (k + 1)) at_ = uptoN (xs.take k) at_ + if xs.getD k 0 ≤ at_ then 1 else 0) := by
          show _ = _
          rw [List.take_succ_eq_append_getElem hlk, upto_snoc]
          simp [List.getD_eq_getElem?_getD, List.getElem?_eq_getElem hlk]
        have c0 := HXr.out.c0
        have h0 := HXr.out.h0
        have h1 := HXr.out.h1
        have h2 := HXr.out.h2
        have h3 := HXr.out.h3
        simp only at h0 h1 h2 h3
        clear hc hrow hmem
        generalize xs.getD k 0 = x at cx hin hxT HTN HUP
        generalize uptoN (xs.take k) at_ = u0 at HUP hup ⊢
        obtain ⟨hin0, hin1⟩ := hin
        by_cases hxa : x ≤ at_
        · have HU1 : Hid (uptoN (xs.take (k + 1)) at_ = u0 + 1) := by show _ = _; rw [HUP.out, if_pos hxa]
          by_cases hF : F < x
          · have HNE := Lib.hid (HTN.out hF)
            go_wp2_with fail
            refine (open_any _ xk xz xr xh xrn xrc xhn xhc xro xho x HKB.out.1 HKB.out.2 HXr.out.ok.tri.1 HXr.out.ok.tri.2 HXr.out.ok.ok (by omega) (by omega)).mono ?_
            rintro e w6 ⟨rfl, hb6⟩
            have HX6 := Lib.hid (HXr.out.kept (Keeps.of_below hb6) (HXr.out.stream.below hb6))
            have HO6 := Lib.hid (HOr.out.kept_below hb6)
            clear hb6 h0 h1 h2 h3 c0
            have h0 := HX6.out.h0
            have h1 := HX6.out.h1
            have h2 := HX6.out.h2
            have h3 := HX6.out.h3
            simp only at h0 h1 h2 h3
            generalize openI xz xro xho x = p1 at HNE
            go_wp2_with fail
            refine (open_any _ xk xz xr xh xrn xrc xhn xhc xro xho (x - 1) HKB.out.1 HKB.out.2 HX6.out.ok.tri.1 HX6.out.ok.tri.2 HX6.out.ok.ok (by omega) (by omega)).mono ?_
            rintro e w7 ⟨rfl, hb7⟩
            have HX7 := Lib.hid (HX6.out.kept (Keeps.of_below hb7) (HX6.out.stream.below hb7))
            have HO7 := Lib.hid (HO6.out.kept_below hb7)
            clear hb7 h0 h1 h2 h3
            generalize openI xz xro xho (x - 1) = p2 at HNE
            have hne : (p1 == p2) = false := by have := HNE.out; cases p1 <;> cases p2 <;> simp_all
            have HB8 : Hid (HourSet w.heap.size 121 (w.alloc (.cells #[.slice a len cap, .int .i64 0] 25)) (w7.alloc (.cells #[.int .i64 0, .int .i64 0] 35)) b c ⟨xk, xz, xr, xrn, xrc, xh, xhn, xhc, xro, xho⟩ F T) := HX7.out.kept (Keeps.of_below (ext_alloc (Below.refl _ _))) (HX7.out.stream.below (ext_alloc (Below.refl _ _)))
            have HO8 := Lib.hid (HO7.out.alloc (.cells #[.int .i64 0, .int .i64 0] 35))
            go_wp2_with (go_at_call 12; refine (errs_zero _ _ 2 2 (by omega) (fun i hi => by match i, hi with | 0, _ => go_simp | 1, _ => go_simp)).mono ?_; rintro e w' ⟨rfl, rfl⟩)
            go_roundw
            case rel => exact ⟨k + 1, by omega, by go_num, (by rw [HU1.out]; go_num), HB8, HO8⟩
            case measure => simp [intOf]; omega
          · skip
            go_wp2_with fail
            go_roundw
            case rel => exact ⟨k + 1, by omega, by go_num, (by rw [HU1.out]; go_num), HXr, HOr⟩
            case measure => simp [intOf]; omega
        · have HU1 : Hid (uptoN (xs.take (k + 1)) at_ = u0) := by show _ = _; rw [HUP.out, if_neg hxa]; rfl
          by_cases hF : F < x
          · have HNE := Lib.hid (HTN.out hF)
            go_wp2_with fail
            refine (open_any _ xk xz xr xh xrn xrc xhn xhc xro xho x HKB.out.1 HKB.out.2 HXr.out.ok.tri.1 HXr.out.ok.tri.2 HXr.out.ok.ok (by omega) (by omega)).mono ?_
            rintro e w6 ⟨rfl, hb6⟩
            have HX6 := Lib.hid (HXr.out.kept (Keeps.of_below hb6) (HXr.out.stream.below hb6))
            have HO6 := Lib.hid (HOr.out.kept_below hb6)
            clear hb6 h0 h1 h2 h3 c0
            have h0 := HX6.out.h0
            have h1 := HX6.out.h1
            have h2 := HX6.out.h2
            have h3 := HX6.out.h3
            simp only at h0 h1 h2 h3
            generalize openI xz xro xho x = p1 at HNE
            go_wp2_with fail
            refine (open_any _ xk xz xr xh xrn xrc xhn xhc xro xho (x - 1) HKB.out.1 HKB.out.2 HX6.out.ok.tri.1 HX6.out.ok.tri.2 HX6.out.ok.ok (by omega) (by omega)).mono ?_
            rintro e w7 ⟨rfl, hb7⟩
            have HX7 := Lib.hid (HX6.out.kept (Keeps.of_below hb7) (HX6.out.stream.below hb7))
            have HO7 := Lib.hid (HO6.out.kept_below hb7)
            clear hb7 h0 h1 h2 h3
            generalize openI xz xro xho (x - 1) = p2 at HNE
            have hne : (p1 == p2) = false := by have := HNE.out; cases p1 <;> cases p2 <;> simp_all
            have HB8 : Hid (HourSet w.heap.size 121 (w.alloc (.cells #[.slice a len cap, .int .i64 0] 25)) (w7.alloc (.cells #[.int .i64 0, .int .i64 0] 35)) b c ⟨xk, xz, xr, xrn, xrc, xh, xhn, xhc, xro, xho⟩ F T) := HX7.out.kept (Keeps.of_below (ext_alloc (Below.refl _ _))) (HX7.out.stream.below (ext_alloc (Below.refl _ _)))
            have HO8 := Lib.hid (HO7.out.alloc (.cells #[.int .i64 0, .int .i64 0] 35))
            go_wp2_with (go_at_call 12; refine (errs_zero _ _ 2 2 (by omega) (fun i hi => by match i, hi with | 0, _ => go_simp | 1, _ => go_simp)).mono ?_; rintro e w' ⟨rfl, rfl⟩)
            go_roundw
            case rel => exact ⟨k + 1, by omega, by go_num, (by rw [HU1.out]), HB8, HO8⟩
            case measure => simp [intOf]; omega
          · exfalso; omega
      · obtain rfl : k = xs.length := by omega
        rw [List.take_length]
        rw [List.take_length] at hup
        have HK9 := Lib.hid HXr.out.keeps
        have hod : Hid (op = decide (((uptoN xs at_ : Nat) : Int) % 2 = 1)) := by
          show _ = _
          rw [HTOLD.out]
          unfold oddB
          by_cases h : uptoN xs at_ % 2 = 1
          · rw [decide_eq_true h, decide_eq_true (by omega)]
          · rw [decide_eq_false h, decide_eq_false (by omega)]
        generalize uptoN xs at_ = u at hup hod ⊢
        have hop : (op == (((u : Int) % 2) == 1)) = true := by rw [hod.out]; simp; rw [Bool.eq_iff_iff]; simp
        have HT9 := Lib.hid ((HT0.out.below (ext_alloc (Below.refl _ _))).keeps HK9.out (by have := HT0.out.1; omega))
        go_wp2_with fail
        refine (ready_true _ HT9.out).mono ?_
        rintro e w9 ⟨rfl, hB9⟩
        go_wp2_with fail
        go_ret
        exact ⟨rfl, law_end (HK9.out.ext hB9)⟩
end Go.Proofs.YtkfflafhlgephaaDoor
