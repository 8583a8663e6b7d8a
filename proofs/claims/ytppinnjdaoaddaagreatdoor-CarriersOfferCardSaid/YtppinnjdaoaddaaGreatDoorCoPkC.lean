/- What is proved here: lemmas and contracts for the statement, put together out of smaller texts (CarrBack, CarrTurn, CarrRows, PlanDraw, PortLit, CarrBox, RefSmall, OrErr, SplitPost, Numbered, PortSmall, CarrSmall, CarrLaw). No condition beyond those stated. -/
import Derived.RangeFuncNested
import Derived.RangeFuncLeaves
import Derived.Shelf.Abstract
import Derived.OwnWalkIn
import Derived.TacticsInMore
import Derived.LoopNIn
import Derived.LoopIn
import Derived.Test.YtppinnjdaoaddaaGreatDoorCoPkB
import Derived.Test.YtppinnjdaoaddaaGreatDoorCoPkA
import Derived.Deep.MidRow
import Derived.Maps.AppendAt
import Derived.Lib.ConvBytes
import Derived.Test.YtppinnjdaoaddaaGreatDoorShelfPort
import Derived.Test.YtppinnjdaoaddaaGreatDoorShelfCarr
set_option linter.unusedVariables false
set_option linter.unusedSimpArgs false
namespace Go.Proofs.YtppinnjdaoaddaaGreatDoor
open Go.RowKit Go.Shelf

attribute [local go_sem] Oper.semAt_some

/-- The last of the first decks that holds at a moment. -/
def lastD (ds : List Deck) (t : Int) : Nat → Option Deck
  | 0 => none
  | k + 1 => if (ds.getD k noDeck).from_ ≤ t then some (ds.getD k noDeck) else lastD ds t k
def deckV (ds : List Deck) (t : Int) : Option Deck := lastD ds t ds.length
/-- What comes off the back: decks m - 1, m - 2, .. with their places. -/
def dbacks (ps : List Deck) (m k : Nat) : List (Int × Deck) := (List.range k).map fun (j : Nat) => ((m : Int) - 1 - (j : Int), ps.getD (m - 1 - j) noDeck)
theorem dbacks_succ (ps : List Deck) (m k : Nat) : dbacks ps m (k + 1) = dbacks ps m k ++ [((m : Int) - 1 - k, ps.getD (m - 1 - k) noDeck)] := by simp [dbacks, List.range_succ]
theorem dbacks_len (ps : List Deck) (m k : Nat) : (dbacks ps m k).length = k := by simp [dbacks]

set_option maxRecDepth 100000 in
set_option maxHeartbeats 2000000 in
theorem dback1_in (n : Nat) (hn : 1 ≤ n) (l Bs n₀ : Nat) (a : Option Addr) (m cap : Nat) (ps : List Deck) (hcap : m ≤ cap) (J Jx : List (Int × Deck) → World → Prop)
    (hY : ∀ pre x W, J pre W → pre.length < m → YieldAt Fence.wide (n - 1) Tryz.prog l #[.int .i64 x.1, .agg (Deck.cells x.2).toArray] W fun e W' =>
      (e = .returned (.bool true) ∧ J (pre ++ [x]) W' ∧ Below n₀ W W') ∨ (e = .returned (.bool false) ∧ Jx (pre ++ [x]) W'))
    (W : World) (hn0 : n₀ ≤ W.heap.size) (hBs : Bs < n₀) (hB0 : W.cell? ⟨Bs, 0, none⟩ = some (.slice a m cap)) (hp : ∀ w', Below n₀ W w' → DeckRow w' a m ps) (hb : ∀ b off, a = some ⟨b, off, none⟩ → 0 < m → b < n₀) (h0 : J [] W) :
    CallsIn Fence.wide n Tryz.prog 133 #[.func (.yield l) #[] #[], .pointer (some ⟨Bs, 0, none⟩)] W fun e W' => (∃ v, e = .returned v) ∧
      (J (dbacks ps m m) W' ∨ (∃ k, k ≤ m ∧ Jx (dbacks ps m k) W')) := by
  have hfew := (hp W (Below.refl _ _)).few
  refine callsIn_of_wp Tryz.func133 rfl trivial ?_ rfl
  simp only [Tryz.ntmps133, List.size_toArray, List.length_cons, List.length_nil, Nat.reduceAdd, Nat.reduceSub, Array.replicate_succ, Array.replicate_zero, List.push_toArray, List.append_toArray, List.nil_append, List.cons_append]
  gi_wp2
  gi_loopw [3] (fun i wr => ∃ k : Nat, k ≤ m ∧ i = .int .i64 ((m : Int) - 1 - k) ∧ J (dbacks ps m k) wr ∧ Below n₀ W wr)
    (fun i _ => ((intOf i) + 1).toNat)
  case atStart => exact ⟨0, Nat.zero_le _, by go_num, h0, Below.refl _ _⟩
  case round =>
    obtain ⟨k, hk, rfl, hJs, hnx⟩ := hrel
    have hcS : wr.cell? ⟨Bs, 0, none⟩ = some (.slice a m cap) := (hnx.cell (p := ⟨Bs, 0, none⟩) hBs).trans hB0
    by_cases hlt : k < m
    · obtain ⟨b, off, rfl, hbl, hc⟩ := (hp wr hnx).at (by omega)
      obtain ⟨e0, e1, e2, e3, e4⟩ := hc (m - 1 - k) (by omega)
      obtain ⟨fn, tmps, assign, body, hy, hR⟩ := hY _ ((m : Int) - 1 - k, ps.getD (m - 1 - k) noDeck) wr hJs (by rw [dbacks_len]; exact hlt)
      have hge : (0 : Int) ≤ (m : Int) - 1 - k := by omega
      have hidx : ((m : Int) - 1 - k).toNat = m - 1 - k := by omega
      have hlm : (m : Int) - 1 - k < m := by omega
      have hsub : IntKind.i64.wrap ((m : Int) - 1 - k - 1) = (m : Int) - 1 - k - 1 := IntWalk.i64_in _ (by omega)
      generalize hpx : ps.getD (m - 1 - k) noDeck = p at e0 e1 e2 e3 e4 hy hR
      have HPX := Lib.hid hpx
      clear hpx hc
      obtain ⟨df, ds, dl, dp, ra, rn, rc, rates⟩ := p
      dsimp only [Deck.cells] at e0 e1 e2 e3 e4 hy hR
      gi_wp2
      refine hR.mono ?_
      rintro e W3 (⟨rfl, hJ3, hk3⟩ | ⟨rfl, hJx3⟩)
      · gi_wp2
        go_roundw
        case rel => exact ⟨k + 1, by omega, by go_num, by rw [dbacks_succ, HPX.out]; exact hJ3, hnx.trans hk3⟩
        case measure => simp [intOf]; omega
      · gi_wp2
        refine bodyPost_ret (results_none rfl _ _ _) rfl ?_
        exact ⟨⟨_, rfl⟩, .inr ⟨k + 1, by omega, by rw [dbacks_succ, HPX.out]; exact hJx3⟩⟩
    · obtain rfl : k = m := by omega
      gi_wp2
      go_end0
      exact ⟨⟨_, rfl⟩, .inl hJs⟩

set_option maxHeartbeats 1000000 in
theorem dback_in (n : Nat) (a : Option Addr) (m cap : Nat) (w : World) :
    CallsIn Fence.wide n Tryz.prog 100 #[.slice a m cap] w fun e w' => e = .returned (.func (.func 133) #[] #[.pointer (some ⟨w.heap.size, 0, none⟩)]) ∧ w' = w.alloc (.cells #[.slice a m cap] 70) := by
  refine callsIn_of_wp Tryz.func100 rfl trivial ?_ rfl
  simp only [Tryz.ntmps100, List.size_toArray, List.length_cons, List.length_nil, Nat.reduceAdd, Nat.reduceSub, Array.replicate_succ, Array.replicate_zero, List.push_toArray, List.append_toArray, List.nil_append, List.cons_append]
  gi_wp2
  go_ret
  exact ⟨rfl, rfl⟩
theorem dback_stops (n : Nat) (hn : 1 ≤ n) (Bs : Nat) (a : Option Addr) (m cap : Nat) (ps : List Deck) (hcap : m ≤ cap) (w : World) (hBs : Bs < w.heap.size) (hB0 : w.cell? ⟨Bs, 0, none⟩ = some (.slice a m cap)) (hp : DeckRow w a m ps) :
    SeqStopsK Fence.wide n Tryz.prog 133 #[.pointer (some ⟨Bs, 0, none⟩)] (fun x : Int × Deck => #[.int .i64 x.1, .agg (Deck.cells x.2).toArray]) (Below w.heap.size) (fun ys => ys = dbacks ps m m) (fun pre => ∃ k, k ≤ m ∧ pre = dbacks ps m k) m w := fun l J Jx W hW _ _ hY h0 => by
  refine (dback1_in n hn l Bs w.heap.size a m cap ps hcap J Jx hY W hW.size hBs ((hW.cell (p := ⟨Bs, 0, none⟩) hBs).trans hB0) (fun w' h => hp.below (hW.trans h)) (fun b off ha hm => ?_) h0).mono ?_
  · obtain ⟨b', off', h1, h2, -⟩ := hp.at hm
    rw [ha] at h1
    cases h1
    exact h2
  · rintro e W' ⟨hv, h | ⟨k, hk, h⟩⟩
    · exact ⟨hv, .inl ⟨_, rfl, h⟩⟩
    · exact ⟨hv, .inr ⟨_, ⟨k, hk, rfl⟩, h⟩⟩


theorem lastD_less (ps : List Deck) (t : Int) (m : Nat) : ∀ k, k ≤ m → (∀ p ∈ dbacks ps m k, ¬ p.2.from_ ≤ t) → lastD ps t m = lastD ps t (m - k)
  | 0, _, _ => rfl
  | k + 1, hk, h => by
    rw [lastD_less ps t m k (by omega) (fun p hp => h p (by rw [dbacks_succ]; exact List.mem_append_left _ hp))]
    have h1 := h _ (by rw [dbacks_succ]; exact List.mem_append_right _ (List.mem_singleton.2 rfl))
    rw [show m - k = (m - (k + 1)) + 1 by omega, lastD, if_neg]
    rw [show m - 1 - k = m - (k + 1) by omega] at h1
    exact h1
theorem deck_back {ps : List Deck} {t : Int} {k : Nat} (hk : k < ps.length) (h : ∀ p ∈ dbacks ps ps.length k, ¬ p.2.from_ ≤ t) (h1 : (ps.getD (ps.length - 1 - k) noDeck).from_ ≤ t) : deckV ps t = some (ps.getD (ps.length - 1 - k) noDeck) := by
  unfold deckV
  rw [lastD_less ps t ps.length k (by omega) h, show ps.length - k = (ps.length - 1 - k) + 1 by omega, lastD, if_pos h1]
theorem deck_none {ps : List Deck} {t : Int} (h : ∀ p ∈ dbacks ps ps.length ps.length, ¬ p.2.from_ ≤ t) : deckV ps t = none := by
  unfold deckV
  rw [lastD_less ps t ps.length ps.length (Nat.le_refl _) h, Nat.sub_self]
  rfl
/-- A deck, or none, with whether it is there. -/
def DeckAns (o : Option Deck) (w : World) (e : Ending) (w' : World) : Prop := e = .returned (.tuple #[.agg #[.int .i64 (o.getD noDeck).from_, .int .i64 (o.getD noDeck).setup, .int .i64 (o.getD noDeck).least, .int .i64 (o.getD noDeck).step, .slice (o.getD noDeck).ra (o.getD noDeck).rn (o.getD noDeck).rc], .bool o.isSome]) ∧ Below w.heap.size w w'
theorem Blk.ownB {A B : World} {G : Nat} {cs : List Value} {ty : TypeId} {row : Option Nat} (h : Blk A G cs ty) (hg : A.grownBy B row) (hr : ∀ r, row = some r → ∃ o : Obj, A.heap[r]? = some o ∧ o.isCells = false) : Blk B G cs ty := h.grown hg (fun e => by
  obtain ⟨o, h1, h2⟩ := hr _ e
  rw [h.at_] at h1
  injection h1 with h1
  subst h1
  cases h2)
/-- The boxes of the call: the moment, the two results. -/
structure DBoxes (G : Nat) (t : Int) (d : Deck) (b : Bool) (W : World) : Prop where
  b1 : Blk W (G + 1) [.int .i64 t] 3
  b2 : Blk W (G + 1 + 1) (Deck.cells d) 63
  b3 : Blk W (G + 1 + 1 + 1) [.bool b] 4
theorem DBoxes.below {G : Nat} {t : Int} {d : Deck} {b : Bool} {W W' : World} (h : DBoxes G t d b W) (hb : Below W.heap.size W W') : DBoxes G t d b W' := ⟨h.b1.below hb, h.b2.below hb, h.b3.below hb⟩
theorem DBoxes.own {G : Nat} {t : Int} {d : Deck} {b : Bool} {A B : World} {row : Option Nat} (h : DBoxes G t d b A) (hg : A.grownBy B row) (hr : ∀ r, row = some r → ∃ o : Obj, A.heap[r]? = some o ∧ o.isCells = false) : DBoxes G t d b B := ⟨h.b1.ownB hg hr, h.b2.ownB hg hr, h.b3.ownB hg hr⟩
theorem DBoxes.store {G : Nat} {t : Int} {d : Deck} {b : Bool} {W : World} (h : DBoxes G t d b W) (df ds dl dp : Int) (ra : Option Addr) (rn rc : Nat) (rates : List Rate) (b' : Bool) :
    DBoxes G t ⟨df, ds, dl, dp, ra, rn, rc, rates⟩ b' ((((((W.setCell ⟨G + 1 + 1, 0, none⟩ (.int .i64 df)).setCell ⟨G + 1 + 1, 1, none⟩ (.int .i64 ds)).setCell ⟨G + 1 + 1, 2, none⟩ (.int .i64 dl)).setCell ⟨G + 1 + 1, 3, none⟩ (.int .i64 dp)).setCell ⟨G + 1 + 1, 4, none⟩ (.slice ra rn rc)).setCell ⟨G + 1 + 1 + 1, 0, none⟩ (.bool b')) := by
  have n1 : ∀ i, (⟨G + 1 + 1, i, none⟩ : Addr).block ≠ G + 1 := fun i => by show G + 1 + 1 ≠ G + 1; omega
  have n2 : ∀ i, (⟨G + 1 + 1, i, none⟩ : Addr).block ≠ G + 1 + 1 + 1 := fun i => by show G + 1 + 1 ≠ G + 1 + 1 + 1; omega
  refine ⟨?_, ?_, ?_⟩
  · exact ((((((h.b1.far (n1 _)).far (n1 _)).far (n1 _)).far (n1 _)).far (n1 _)).far (by show G + 1 + 1 + 1 ≠ G + 1; omega))
  · exact ((((((h.b2.put 0 _).put 1 _).put 2 _).put 3 _).put 4 _).far (by show G + 1 + 1 + 1 ≠ G + 1 + 1; omega))
  · exact ((((((h.b3.far (n2 _)).far (n2 _)).far (n2 _)).far (n2 _)).far (n2 _)).put 0 _)
theorem DBoxes.lt {G : Nat} {t : Int} {d : Deck} {b : Bool} {W : World} (h : DBoxes G t d b W) : G + 3 < W.heap.size := h.b3.lt
theorem deckAt_results (W : World) (tmps : Array Value) (G H : Nat) (f0 s0 l0 p0 : Int) (ra : Option Addr) (rn rc : Nat) (b : Bool) (h4 : tmps.getD 4 undef = .pointer (some ⟨G, 0, none⟩)) (h5 : tmps.getD 5 undef = .pointer (some ⟨H, 0, none⟩)) (h2 : Blk W G [.int .i64 f0, .int .i64 s0, .int .i64 l0, .int .i64 p0, .slice ra rn rc] 63) (h3 : Blk W H [.bool b] 4) :
    (results Tryz.f70 tmps).run Tryz.prog W = .ok (.tuple #[.agg #[.int .i64 f0, .int .i64 s0, .int .i64 l0, .int .i64 p0, .slice ra rn rc], .bool b]) W := by
  have r0 := h2.cell 0 rfl
  have r1 := h2.cell 1 rfl
  have r2 := h2.cell 2 rfl
  have r3 := h2.cell 3 rfl
  have r4 := h2.cell 4 rfl
  have r5 := h3.cell 0 rfl
  have g4 : tmps[4]?.getD undef = .pointer (some ⟨G, 0, none⟩) := by simpa using h4
  have g5 : tmps[5]?.getD undef = .pointer (some ⟨H, 0, none⟩) := by simpa using h5
  simp [results, Tryz.f70, go_sem, r0, r1, r2, r3, r4, r5, g4, g5]
def NoDk (t : Int) (pre : List (Int × Deck)) : Prop := ∀ p ∈ pre, ¬ p.2.from_ ≤ t
def DkAt (G : Nat) (t : Int) (pre : List (Int × Deck)) (W : World) : Prop := ∃ ini last, pre = ini ++ [last] ∧ NoDk t ini ∧ last.2.from_ ≤ t ∧ DBoxes G t last.2 true W
theorem six_below {w W : World} (h : Below w.heap.size w W) (u0 u1 u2 u3 u4 u5 : Value) : Below w.heap.size w ((((((W.setCell ⟨w.heap.size + 1 + 1, 0, none⟩ u0).setCell ⟨w.heap.size + 1 + 1, 1, none⟩ u1).setCell ⟨w.heap.size + 1 + 1, 2, none⟩ u2).setCell ⟨w.heap.size + 1 + 1, 3, none⟩ u3).setCell ⟨w.heap.size + 1 + 1, 4, none⟩ u4).setCell ⟨w.heap.size + 1 + 1 + 1, 0, none⟩ u5) := by
  have n1 : ∀ i, w.heap.size ≤ (⟨w.heap.size + 1 + 1, i, none⟩ : Addr).block := fun i => by show w.heap.size ≤ w.heap.size + 1 + 1; omega
  exact (((((h.setCell (n1 _) u0).setCell (n1 _) u1).setCell (n1 _) u2).setCell (n1 _) u3).setCell (n1 _) u4).setCell (p := ⟨w.heap.size + 1 + 1 + 1, 0, none⟩) (show w.heap.size ≤ w.heap.size + 1 + 1 + 1 by omega) u5

set_option maxRecDepth 100000 in
set_option maxHeartbeats 4000000 in
theorem deckAt_in (w : World) (ky : List UInt8) (ln : Int) (a : Option Addr) (m cap : Nat) (ps : List Deck) (hp : DeckRow w a m ps) (hcap : m ≤ cap) (t : Int) :
    CallsIn Fence.wide 6 Tryz.prog 70 #[.agg #[.string ⟨ky.toArray⟩, .int .i64 ln, .slice a m cap], .int .i64 t] w (DeckAns (deckV ps t) w) := by
  have HP := Lib.hid hp
  have HLEN := Lib.hid hp.len
  have HEND : Hid (∀ w' (X : Option Deck), X = deckV ps t → Below w.heap.size w w' → DeckAns (deckV ps t) w (.returned (.tuple #[.agg #[.int .i64 (X.getD noDeck).from_, .int .i64 (X.getD noDeck).setup, .int .i64 (X.getD noDeck).least, .int .i64 (X.getD noDeck).step, .slice (X.getD noDeck).ra (X.getD noDeck).rn (X.getD noDeck).rc], .bool X.isSome])) w') := by
    rintro w' X rfl h
    exact ⟨rfl, h⟩
  clear hp
  refine callsIn_of_wp_marks Tryz.func70 rfl trivial ?_ rfl
  simp only [Tryz.ntmps70, List.size_toArray, List.length_cons, List.length_nil, Nat.reduceAdd, Nat.reduceSub, Array.replicate_succ, Array.replicate_zero, List.push_toArray, List.append_toArray, List.nil_append, List.cons_append]
  refine wpIn_wide.2 ?_
  go_upto_region 1 with (fail)
  have HF0 : Hid (DBoxes w.heap.size t noDeck false ((((w.alloc (.cells #[.string ⟨ky.toArray⟩, .int .i64 ln, .slice a m cap] 72)).alloc (.cells #[.int .i64 t] 3)).alloc (.cells #[.int .i64 0, .int .i64 0, .int .i64 0, .int .i64 0, .slice none 0 0] 63)).alloc (.cells #[.bool false] 4))) := by
    have h1 := Blk.new (w.alloc (.cells #[.string ⟨ky.toArray⟩, .int .i64 ln, .slice a m cap] 72)) [.int .i64 t] 3
    have h2 := Blk.new ((w.alloc (.cells #[.string ⟨ky.toArray⟩, .int .i64 ln, .slice a m cap] 72)).alloc (.cells #[.int .i64 t] 3)) [.int .i64 0, .int .i64 0, .int .i64 0, .int .i64 0, .slice none 0 0] 63
    have h3 := Blk.new (((w.alloc (.cells #[.string ⟨ky.toArray⟩, .int .i64 ln, .slice a m cap] 72)).alloc (.cells #[.int .i64 t] 3)).alloc (.cells #[.int .i64 0, .int .i64 0, .int .i64 0, .int .i64 0, .slice none 0 0] 63)) [.bool false] 4
    simp only [World.size_alloc] at h1 h2 h3
    exact ⟨(h1.alloc _).alloc _, h2.alloc _, h3⟩
  have HC0 : Hid (Blk ((((w.alloc (.cells #[.string ⟨ky.toArray⟩, .int .i64 ln, .slice a m cap] 72)).alloc (.cells #[.int .i64 t] 3)).alloc (.cells #[.int .i64 0, .int .i64 0, .int .i64 0, .int .i64 0, .slice none 0 0] 63)).alloc (.cells #[.bool false] 4)) w.heap.size [.string ⟨ky.toArray⟩, .int .i64 ln, .slice a m cap] 72) := (((Blk.new w [.string ⟨ky.toArray⟩, .int .i64 ln, .slice a m cap] 72).alloc _).alloc _).alloc _
  have HB0 : Hid (Below w.heap.size w ((((w.alloc (.cells #[.string ⟨ky.toArray⟩, .int .i64 ln, .slice a m cap] 72)).alloc (.cells #[.int .i64 t] 3)).alloc (.cells #[.int .i64 0, .int .i64 0, .int .i64 0, .int .i64 0, .slice none 0 0] 63)).alloc (.cells #[.bool false] 4))) := ext_alloc (ext_alloc (ext_alloc (ext_alloc (Below.refl _ _))))
  generalize (((w.alloc (.cells #[.string ⟨ky.toArray⟩, .int .i64 ln, .slice a m cap] 72)).alloc (.cells #[.int .i64 t] 3)).alloc (.cells #[.int .i64 0, .int .i64 0, .int .i64 0, .int .i64 0, .slice none 0 0] 63)).alloc (.cells #[.bool false] 4) = w0 at HF0 HB0 HC0 ⊢
  have c2 := HC0.out.cell 2 rfl
  clear HC0
  as_aux_lemma =>
    go_wp2_with fail
    refine ((callsIn_wide (n := 5)).1 (dback_in 5 a m cap _)).mono ?_
    rintro e w4 ⟨rfl, rfl⟩
    have HF4 : Hid (DBoxes w.heap.size t noDeck false (w0.alloc (.cells #[.slice a m cap] 70))) := HF0.out.below (ext_alloc (Below.refl _ _))
    have HB4 : Hid (Below w.heap.size w (w0.alloc (.cells #[.slice a m cap] 70))) := ext_alloc HB0.out
    have hBs : w0.heap.size < (w0.alloc (.cells #[.slice a m cap] 70)).heap.size := by simp
    have hB0 : (w0.alloc (.cells #[.slice a m cap] 70)).cell? ⟨w0.heap.size, 0, none⟩ = some (.slice a m cap) := by go_simp
    generalize w0.alloc (.cells #[.slice a m cap] 70) = W0 at HF4 HB4 hBs hB0 ⊢
    have hz2 : w.heap.size + 4 ≤ w0.heap.size := HF0.out.lt
    generalize w0.heap.size = Bs at hz2 hBs hB0 ⊢
    clear HF0 HB0 c2
    as_aux_lemma =>
      go_wp2_with fail
      refine (wpIn_wide (n := 6)).1 ?_
      have hz4 : w.heap.size + 4 ≤ W0.heap.size := by omega
      refine wpIn_rangeFunc_ownH (F := Fence.wide) (n := 6) rfl (by decide) (gf := 133) (lb := #[.pointer (some ⟨Bs, 0, none⟩)]) rfl trivial (enters_of Tryz.func133 (by kernel_rfl) rfl)
        (dback_stops 5 (by decide) Bs a m cap ps hcap W0 hBs hB0 (HP.out.below HB4.out)) belowK_t (belowK_b (Nat.le_refl _)) (Below.refl _ _) (fun _ => rfl)
        (fun pre W => (NoDk t pre ∧ DBoxes w.heap.size t noDeck false W) ∧ Below W0.heap.size W0 W)
        (fun c pre W => (c = .ret ∧ DkAt w.heap.size t pre W) ∧ Below w.heap.size w W)
        (OwnFrom.and (Own.from (fun s A B row hs hg hr => ⟨hs.1, hs.2.own hg hr⟩) _) (ownFrom_below (Nat.le_refl _) (Nat.le_refl _)))
        (fun c => OwnFrom.and (Own.from (fun s A B row hs hg hr => by obtain ⟨hc, ini, last, e1, e2, e3, e4⟩ := hs; exact ⟨hc, ini, last, e1, e2, e3, e4.own hg hr⟩) _) (ownFrom_below (Nat.le_refl _) (by omega)))
        ⟨⟨(fun p hp => by cases hp), HF4.out⟩, Below.refl _ _⟩
        (fun x a' W => ∃ Bx, w.heap.size + 3 < Bx ∧ Blk W Bx (Deck.cells x.2) 63 ∧ a' = { tmps := #[.agg #[.string ⟨ky.toArray⟩, .int .i64 ln, .slice a m cap], .int .i64 t, .pointer (some ⟨w.heap.size, 0, none⟩), .pointer (some ⟨w.heap.size + 1, 0, none⟩), .pointer (some ⟨w.heap.size + 1 + 1, 0, none⟩), .pointer (some ⟨w.heap.size + 1 + 1 + 1, 0, none⟩), undef, .pointer (some ⟨Bx, 0, none⟩), .pointer (some ⟨w.heap.size, 2, none⟩), .slice a m cap, .func (.func 133) #[] #[.pointer (some ⟨Bs, 0, none⟩)], .int .i64 x.1, .agg #[.int .i64 x.2.from_, .int .i64 x.2.setup, .int .i64 x.2.least, .int .i64 x.2.step, .slice x.2.ra x.2.rn x.2.rc], undef, undef, undef, undef, undef, undef], defers := [] })
        (fun x a' _ X Y row hs hg hr => by obtain ⟨Bx, h1, h2, h3⟩ := hs; exact ⟨Bx, h1, h2.ownB hg (fun r e => (hr r e).2), h3⟩)
        ?assign ?body ?done ?stop
      case assign =>
        rintro l pre ⟨xi, xd⟩ W K ⟨⟨hp1, hf1⟩, hB1⟩ hK
        obtain ⟨df, ds, dl, dp, ra, rn, rc, rates⟩ := xd
        dsimp only [Deck.cells] at hK ⊢
        have hW1 : w.heap.size + 3 < W.heap.size := hf1.lt
        have hbn := Blk.new W [.int .i64 df, .int .i64 ds, .int .i64 dl, .int .i64 dp, .slice ra rn rc] 63
        gi_wp2
        exact hK _ _ ((KeepsOthers.alloc _ _).from _) ((Below.refl _ W).alloc hB1.size _) ⟨⟨hp1, hf1.below (ext_alloc (Below.refl _ _))⟩, hB1.alloc hB1.size _⟩ ⟨W.heap.size, hW1, hbn, rfl⟩
      case body =>
        rintro l pre x a' W hl ⟨r, hr⟩ ⟨⟨hp1, hf1⟩, hB1⟩ ⟨Bx, hBx, hbx, rfl⟩ hlt
        obtain ⟨xi, df, ds, dl, dp, ra, rn, rc, rates⟩ := x
        have t0 := hf1.b1.cell 0 rfl
        have d0 := hf1.b2.cell 0 rfl
        have d1 := hf1.b2.cell 1 rfl
        have d2 := hf1.b2.cell 2 rfl
        have d3 := hf1.b2.cell 3 rfl
        have d4 := hf1.b2.cell 4 rfl
        have dF := hf1.b2.fr
        have q0 := hf1.b3.cell 0 rfl
        have qF := hf1.b3.fr
        have x0 := hbx.cell 0 rfl
        have x1 := hbx.cell 1 rfl
        have x2 := hbx.cell 2 rfl
        have x3 := hbx.cell 3 rfl
        have x4 := hbx.cell 4 rfl
        simp only at x0 x1 x2 x3 x4 ⊢
        by_cases hm : df ≤ t
        · gi_wp2
          exact ⟨((KeepsOthers.setCell _ _ _).trans ((KeepsOthers.setCell _ _ _).trans ((KeepsOthers.setCell _ _ _).trans ((KeepsOthers.setCell _ _ _).trans ((KeepsOthers.setCell _ _ _).trans (KeepsOthers.setCell _ _ _)))))).from _, ⟨rfl, pre, (xi, ⟨df, ds, dl, dp, ra, rn, rc, rates⟩), rfl, hp1, hm, hf1.store df ds dl dp ra rn rc rates true⟩, six_below (ext_trans HB4.out hB1) _ _ _ _ _ _⟩
        · have hend : NoDk t (pre ++ [(xi, Deck.mk df ds dl dp ra rn rc rates)]) := fun p hp' => (List.mem_append.1 hp').elim (hp1 p) (fun h => by rw [List.mem_singleton.1 h]; exact hm)
          gi_wp2
          exact ⟨KeepsFrom.refl _ _, Below.refl _ _, ⟨⟨hend, hf1⟩, hB1⟩⟩
      case done =>
        rintro D ys W hD rfl ⟨⟨hne, hf⟩, hB⟩ hK
        have HFW := Lib.hid hf
        have HBW := Lib.hid (ext_trans HB4.out hB)
        have HK9 := Lib.hid hK
        have HC : Hid (deckV ps t = none) := by
          have hl := HLEN.out
          subst hl
          exact deck_none hne
        have d0 := hf.b2.cell 0 rfl
        have d1 := hf.b2.cell 1 rfl
        have d2 := hf.b2.cell 2 rfl
        have d3 := hf.b2.cell 3 rfl
        have d4 := hf.b2.cell 4 rfl
        have dF := hf.b2.fr
        have q0 := hf.b3.cell 0 rfl
        have qF := hf.b3.fr
        clear hne hf hB hK HB4 HF4
        as_aux_lemma =>
          go_wp2_with fail
          have HF9 := Lib.hid (HFW.out.store 0 0 0 0 none 0 0 [] false)
          have HB9 := Lib.hid (six_below HBW.out (.int .i64 0) (.int .i64 0) (.int .i64 0) (.int .i64 0) (.slice none 0 0) (.bool false))
          have hK9 := (((KeepsOthers.setCell W ⟨w.heap.size + 1 + 1, 0, none⟩ (.int .i64 0)).trans ((KeepsOthers.setCell (W.setCell ⟨w.heap.size + 1 + 1, 0, none⟩ (.int .i64 0)) ⟨w.heap.size + 1 + 1, 1, none⟩ (.int .i64 0)).trans ((KeepsOthers.setCell ((W.setCell ⟨w.heap.size + 1 + 1, 0, none⟩ (.int .i64 0)).setCell ⟨w.heap.size + 1 + 1, 1, none⟩ (.int .i64 0)) ⟨w.heap.size + 1 + 1, 2, none⟩ (.int .i64 0)).trans ((KeepsOthers.setCell (((W.setCell ⟨w.heap.size + 1 + 1, 0, none⟩ (.int .i64 0)).setCell ⟨w.heap.size + 1 + 1, 1, none⟩ (.int .i64 0)).setCell ⟨w.heap.size + 1 + 1, 2, none⟩ (.int .i64 0)) ⟨w.heap.size + 1 + 1, 3, none⟩ (.int .i64 0)).trans ((KeepsOthers.setCell ((((W.setCell ⟨w.heap.size + 1 + 1, 0, none⟩ (.int .i64 0)).setCell ⟨w.heap.size + 1 + 1, 1, none⟩ (.int .i64 0)).setCell ⟨w.heap.size + 1 + 1, 2, none⟩ (.int .i64 0)).setCell ⟨w.heap.size + 1 + 1, 3, none⟩ (.int .i64 0)) ⟨w.heap.size + 1 + 1, 4, none⟩ (.slice none 0 0)).trans (KeepsOthers.setCell (((((W.setCell ⟨w.heap.size + 1 + 1, 0, none⟩ (.int .i64 0)).setCell ⟨w.heap.size + 1 + 1, 1, none⟩ (.int .i64 0)).setCell ⟨w.heap.size + 1 + 1, 2, none⟩ (.int .i64 0)).setCell ⟨w.heap.size + 1 + 1, 3, none⟩ (.int .i64 0)).setCell ⟨w.heap.size + 1 + 1, 4, none⟩ (.slice none 0 0)) ⟨w.heap.size + 1 + 1 + 1, 0, none⟩ (.bool false)))))))).same D _ HK9.out rfl
          generalize ((((((W.setCell ⟨w.heap.size + 1 + 1, 0, none⟩ (.int .i64 0)).setCell ⟨w.heap.size + 1 + 1, 1, none⟩ (.int .i64 0)).setCell ⟨w.heap.size + 1 + 1, 2, none⟩ (.int .i64 0)).setCell ⟨w.heap.size + 1 + 1, 3, none⟩ (.int .i64 0)).setCell ⟨w.heap.size + 1 + 1, 4, none⟩ (.slice none 0 0)).setCell ⟨w.heap.size + 1 + 1 + 1, 0, none⟩ (.bool false)) = W9 at HF9 HB9 hK9 ⊢
          refine ⟨by simp, .inl ⟨_, _, rfl, run_takeDeferred hK9, ?_⟩⟩
          have h9 := HF9.out.own (grownBy_putObj' _ D (.deferred none)) (fun r e => by cases e; exact ⟨_, hK9, rfl⟩)
          refine ⟨.tuple #[.agg #[.int .i64 0, .int .i64 0, .int .i64 0, .int .i64 0, .slice none 0 0], .bool false], ?_, HEND.out _ none HC.out.symm (HB9.out.trans (belowK_b (w := w) (Nat.le_refl _) _ D _ _ (by omega) hK9 rfl rfl))⟩
          exact deckAt_results _ _ (w.heap.size + 1 + 1) (w.heap.size + 1 + 1 + 1) 0 0 0 0 none 0 0 false rfl rfl h9.b2 h9.b3
      case stop =>
        rintro D c pre W hD ⟨k, hk, rfl⟩ ⟨⟨rfl, ini, last, e1, e2, e3, hf⟩, hB⟩ hK
        obtain ⟨k', rfl⟩ : ∃ k', k = k' + 1 := by
          cases k with
          | zero => simp [dbacks] at e1
          | succ k' => exact ⟨k', rfl⟩
        rw [dbacks_succ] at e1
        obtain ⟨rfl, e5⟩ := List.append_inj' e1 rfl
        obtain rfl : ((m : Int) - 1 - k', ps.getD (m - 1 - k') noDeck) = last := by simpa using e5
        have HC : Hid (deckV ps t = some (ps.getD (m - 1 - k') noDeck)) := by
          have hl := HLEN.out
          subst hl
          exact deck_back (by omega) e2 e3
        simp only at hf
        have HF9 := Lib.hid hf
        clear e1 e2 e3 e5 hf
        generalize ps.getD (m - 1 - k') noDeck = xd at HC HF9
        gi_wp2
        refine ⟨by simp, .inl ⟨_, _, rfl, run_takeDeferred hK, ?_⟩⟩
        have h9 := HF9.out.own (grownBy_putObj' _ D (.deferred none)) (fun r e => by cases e; exact ⟨_, hK, rfl⟩)
        refine ⟨_, ?_, HEND.out _ (some xd) HC.out.symm (hB.trans (belowK_b (w := w) (Nat.le_refl _) _ D _ _ (by omega) hK rfl rfl))⟩
        exact deckAt_results _ _ (w.heap.size + 1 + 1) (w.heap.size + 1 + 1 + 1) _ _ _ _ _ _ _ true rfl rfl h9.b2 h9.b3
theorem deckAt_any (w : World) (ky : List UInt8) (ln : Int) (a : Option Addr) (m cap : Nat) (ps : List Deck) (hp : DeckRow w a m ps) (hcap : m ≤ cap) (t : Int) :
    Calls Tryz.prog 70 #[.agg #[.string ⟨ky.toArray⟩, .int .i64 ln, .slice a m cap], .int .i64 t] w (DeckAns (deckV ps t) w) := (callsIn_wide (n := 6)).1 (deckAt_in w ky ln a m cap ps hp hcap t)
end Go.Proofs.YtppinnjdaoaddaaGreatDoor

set_option linter.unusedVariables false
set_option linter.unusedSimpArgs false
namespace Go.Proofs.YtppinnjdaoaddaaGreatDoor
open Go.RowKit

structure Shr where
  c : List UInt8
  part : Int
def noShr : Shr := ⟨[], 0⟩
def Shr.cells (s : Shr) : List Value := [.string ⟨s.c.toArray⟩, .int .i64 s.part]
def hasC (l : List Carr) (k : List UInt8) : Bool := l.any fun c => decide (c.key = k)
def shareErr (l : List Carr) (s : List Shr) (i : Nat) : Int :=
  if hasC l (s.getD i noShr).c = false then 8
  else if 0 < i ∧ Op.bytesLess (s.getD (i - 1) noShr).c (s.getD i noShr).c = false then 7
  else if inB (s.getD i noShr).part 1 1000 = false then 1
  else 0
def partSum (s : List Shr) : Nat → Int
  | 0 => 0
  | k + 1 => partSum s k + (s.getD k noShr).part
def sharesErr (l : List Carr) (s : List Shr) : Int :=
  if 50 < s.length then 2 else if firstErr (shareErr l s) s.length ≠ 0 then firstErr (shareErr l s) s.length else if partSum s s.length ≠ 1000 then 16 else 0
def sentErr (s : List Shr) (sent : List Int) : Int :=
  if s.length ≠ sent.length then 3 else if sent.any (fun n => !(inB n 0 1000000000000)) = true then 1 else 0
/-- The error of CheckShares; of Turn. -/
def shrE (l : List Carr) (s : List Shr) : Int := if carrsErr l ≠ 0 then carrsErr l else sharesErr l s
def turnE (l : List Carr) (s : List Shr) (sent : List Int) : Int :=
  if carrsErr l ≠ 0 then carrsErr l else if s.length ≠ 0 ∧ sharesErr l s ≠ 0 then sharesErr l s else sentErr s sent
def sumTo (l : List Int) : Nat → Int
  | 0 => 0
  | k + 1 => sumTo l k + l.getD k 0
def behind (s : List Shr) (sent : List Int) (i : Nat) : Int := (s.getD i noShr).part * (sumTo sent s.length + 1) - 1000 * sent.getD i 0
def turnTo (s : List Shr) (sent : List Int) : Nat → List UInt8 × Int
  | 0 => ([], 0)
  | k + 1 => if k = 0 ∨ (turnTo s sent k).2 < behind s sent k then ((s.getD k noShr).c, behind s sent k) else turnTo s sent k
def turnK (s : List Shr) (sent : List Int) : List UInt8 := (turnTo s sent s.length).1
theorem turn_some {s : List Shr} {sent : List Int} (h : ∀ i, i < s.length → (s.getD i noShr).c ≠ []) : ∀ k, k ≤ s.length → ((turnTo s sent k).1 = [] ↔ k = 0)
  | 0, _ => by simp [turnTo]
  | k + 1, hk => by
    have ih := turn_some (sent := sent) h k (by omega)
    unfold turnTo
    split
    · exact ⟨fun e => absurd e (h k (by omega)), fun e => by omega⟩
    · rename_i h1
      rw [ih]
      exact ⟨fun e => absurd (Or.inl e) h1, fun e => by omega⟩
theorem sum_bound {l : List Int} (h : ∀ i, i < l.length → 0 ≤ l.getD i 0 ∧ l.getD i 0 ≤ 1000000000000) : ∀ k, k ≤ l.length → 0 ≤ sumTo l k ∧ sumTo l k ≤ 1000000000000 * k
  | 0, _ => by simp [sumTo]
  | k + 1, hk => by
    have h1 := sum_bound h k (by omega)
    have h2 := h k (by omega)
    unfold sumTo
    omega

structure Rcd where
  id : List UInt8
  fr : List UInt8
  to_ : List UInt8
  at_ : Int
  ring : Int
  talk : Int
  how : Int
  carrier : List UInt8
def noRcd : Rcd := ⟨[], [], [], 0, 0, 0, 0, []⟩
def Rcd.cells (r : Rcd) : List Value := [.string ⟨r.id.toArray⟩, .string ⟨r.fr.toArray⟩, .string ⟨r.to_.toArray⟩, .int .i64 r.at_, .int .i64 r.ring, .int .i64 r.talk, .int .i64 r.how, .string ⟨r.carrier.toArray⟩]
def recErr (l : List Carr) (rs : List Rcd) (i : Nat) : Int :=
  if isMomB (rs.getD i noRcd).at_ = false ∨ inB (rs.getD i noRcd).talk 0 86400000 = false then 1
  else if inB (rs.getD i noRcd).how 1 4 = false then 4
  else if (rs.getD i noRcd).carrier ≠ [] ∧ hasC l (rs.getD i noRcd).carrier = false then 8
  else 0
def winErr (f t : Int) : Int := if 0 ≤ f ∧ f ≤ t ∧ t ≤ 345686400000 then 0 else 1
def recsErr (l : List Carr) (rs : List Rcd) (f t : Int) : Int :=
  if 3000 < rs.length then 2 else if firstErr (recErr l rs) rs.length ≠ 0 then firstErr (recErr l rs) rs.length else winErr f t
def measE (l : List Carr) (rs : List Rcd) (f t : Int) : Int := if carrsErr l ≠ 0 then carrsErr l else recsErr l rs f t
/-- Calls, good ones, and how long these were talked, of a carrier among the first records. -/
structure Cnt where
  calls : Int
  good : Int
  talk : Int
def inWin (key : List UInt8) (f t : Int) (r : Rcd) : Prop := r.carrier = key ∧ f ≤ r.at_ ∧ r.at_ < t
instance (key : List UInt8) (f t : Int) (r : Rcd) : Decidable (inWin key f t r) := by unfold inWin; exact inferInstance
def cntTo (rs : List Rcd) (key : List UInt8) (f t : Int) : Nat → Cnt
  | 0 => ⟨0, 0, 0⟩
  | k + 1 =>
    let c := cntTo rs key f t k
    let r := rs.getD k noRcd
    if inWin key f t r then (if r.how = 1 then ⟨c.calls + 1, c.good + 1, c.talk + r.talk⟩ else ⟨c.calls + 1, c.good, c.talk⟩) else c
theorem cnt_bound {rs : List Rcd} {key : List UInt8} {f t : Int} (h : ∀ i, i < rs.length → 0 ≤ (rs.getD i noRcd).talk ∧ (rs.getD i noRcd).talk ≤ 86400000) : ∀ k, k ≤ rs.length →
    0 ≤ (cntTo rs key f t k).good ∧ (cntTo rs key f t k).good ≤ (cntTo rs key f t k).calls ∧ (cntTo rs key f t k).calls ≤ k ∧ 0 ≤ (cntTo rs key f t k).talk ∧ (cntTo rs key f t k).talk ≤ 86400000 * (cntTo rs key f t k).good
  | 0, _ => by simp [cntTo]
  | k + 1, hk => by
    have h1 := cnt_bound (key := key) (f := f) (t := t) h k (by omega)
    have h2 := h k (by omega)
    unfold cntTo
    simp only
    split
    · split
      · simp only; omega
      · simp only; omega
    · omega
structure Qual where
  c : List UInt8
  calls : Int
  good : Int
  num : Int
  den : Int
def Qual.cells (q : Qual) : List Value := [.string ⟨q.c.toArray⟩, .int .i64 q.calls, .int .i64 q.good, .int .i64 q.num, .int .i64 q.den]
/-- A fraction in lowest terms (b above 0). -/
def lowF (a b : Int) : Int × Int := (((a.toNat / Nat.gcd a.toNat b.toNat : Nat) : Int), ((b.toNat / Nat.gcd a.toNat b.toNat : Nat) : Int))
def qual (rs : List Rcd) (key : List UInt8) (f t : Int) : Option Qual :=
  let c := cntTo rs key f t rs.length
  if c.calls = 0 then none else some ⟨key, c.calls, 1000 * c.good / c.calls, (lowF c.talk (max c.good 1)).1, (lowF c.talk (max c.good 1)).2⟩
def quals (l : List Carr) (rs : List Rcd) (f t : Int) (k : Nat) : List Qual := (List.range k).filterMap fun i => qual rs (l.getD i noCarr).key f t
theorem quals_succ (l : List Carr) (rs : List Rcd) (f t : Int) (k : Nat) : quals l rs f t (k + 1) = quals l rs f t k ++ (qual rs (l.getD k noCarr).key f t).toList := by
  unfold quals
  rw [List.range_succ, List.filterMap_append]
  congr 1
end Go.Proofs.YtppinnjdaoaddaaGreatDoor

set_option linter.unusedVariables false
set_option linter.unusedSimpArgs false
namespace Go.Proofs.YtppinnjdaoaddaaGreatDoor
open Go.RowKit

structure ShrRow (w : World) (a : Option Addr) (n : Nat) (l : List Shr) : Prop where
  cells : Cells w 2 a n (l.map Shr.cells)
  few : n ≤ 50
  each : ∀ i, i < l.length → (l.getD i noShr).c.length ≤ 100 ∧ -2000000000000 ≤ (l.getD i noShr).part ∧ (l.getD i noShr).part ≤ 2000000000000
theorem ShrRow.below {w w' : World} {a : Option Addr} {n : Nat} {l : List Shr} (h : ShrRow w a n l) (hb : Below w.heap.size w w') : ShrRow w' a n l := ⟨h.cells.below hb, h.few, h.each⟩
theorem ShrRow.len {w : World} {a : Option Addr} {n : Nat} {l : List Shr} (h : ShrRow w a n l) : n = l.length := by have := h.cells.len; simpa using this
theorem ShrRow.at {w : World} {a : Option Addr} {n : Nat} {l : List Shr} (h : ShrRow w a n l) (hn : 0 < n) : ∃ b off, a = some ⟨b, off, none⟩ ∧ b < w.heap.size ∧ ∀ i, i < n → w.cell? ⟨b, off + i * 2, none⟩ = some (.string ⟨(l.getD i noShr).c.toArray⟩) ∧ w.cell? ⟨b, off + i * 2 + 1, none⟩ = some (.int .i64 (l.getD i noShr).part) := by
  have hl := h.len
  rcases h.cells.row with h0 | ⟨b, off, ha, hb, hc⟩
  · omega
  · refine ⟨b, off, ha, hb, fun i hi => ?_⟩
    have k0 := hc i hi 0 (by omega)
    have k1 := hc i hi 1 (by omega)
    rw [getD_map Shr.cells l i noShr [] (by omega)] at k0 k1
    exact ⟨k0, k1⟩
theorem ShrRow.of_own {w : World} {base : Nat} {e : TypeId} {v : Value} {n : Nat} {l : List Shr} (h : w.ownsRow base e 2 v n ((l.map Shr.cells).flatten)) (hf : n ≤ 50) (he : ∀ i, i < l.length → (l.getD i noShr).c.length ≤ 100 ∧ -2000000000000 ≤ (l.getD i noShr).part ∧ (l.getD i noShr).part ≤ 2000000000000) : ∃ a c, v = .slice a n c ∧ n ≤ c ∧ ShrRow w a n l := by
  obtain ⟨a, c, rfl, hcs⟩ := Cells.of_own h (fun x hx => by obtain ⟨y, _, rfl⟩ := List.mem_map.1 hx; rfl) (by decide)
  exact ⟨a, c, rfl, (own_caps h).2, ⟨hcs, hf, he⟩⟩
structure RcdRow (w : World) (a : Option Addr) (n : Nat) (l : List Rcd) : Prop where
  cells : Cells w 8 a n (l.map Rcd.cells)
  few : n ≤ 100
  each : ∀ i, i < l.length → (l.getD i noRcd).id.length ≤ 100 ∧ (l.getD i noRcd).fr.length ≤ 100 ∧ (l.getD i noRcd).to_.length ≤ 100 ∧ (l.getD i noRcd).carrier.length ≤ 100 ∧ (-2000000000000 ≤ (l.getD i noRcd).at_ ∧ (l.getD i noRcd).at_ ≤ 2000000000000) ∧ (-2000000000000 ≤ (l.getD i noRcd).ring ∧ (l.getD i noRcd).ring ≤ 2000000000000) ∧ (-2000000000000 ≤ (l.getD i noRcd).talk ∧ (l.getD i noRcd).talk ≤ 2000000000000) ∧ (-2000000000000 ≤ (l.getD i noRcd).how ∧ (l.getD i noRcd).how ≤ 2000000000000)
theorem RcdRow.below {w w' : World} {a : Option Addr} {n : Nat} {l : List Rcd} (h : RcdRow w a n l) (hb : Below w.heap.size w w') : RcdRow w' a n l := ⟨h.cells.below hb, h.few, h.each⟩
theorem RcdRow.len {w : World} {a : Option Addr} {n : Nat} {l : List Rcd} (h : RcdRow w a n l) : n = l.length := by have := h.cells.len; simpa using this
theorem RcdRow.at {w : World} {a : Option Addr} {n : Nat} {l : List Rcd} (h : RcdRow w a n l) (hn : 0 < n) : ∃ b off, a = some ⟨b, off, none⟩ ∧ b < w.heap.size ∧ ∀ i, i < n → w.cell? ⟨b, off + i * 8, none⟩ = some (.string ⟨(l.getD i noRcd).id.toArray⟩) ∧ w.cell? ⟨b, off + i * 8 + 1, none⟩ = some (.string ⟨(l.getD i noRcd).fr.toArray⟩) ∧ w.cell? ⟨b, off + i * 8 + 2, none⟩ = some (.string ⟨(l.getD i noRcd).to_.toArray⟩) ∧ w.cell? ⟨b, off + i * 8 + 3, none⟩ = some (.int .i64 (l.getD i noRcd).at_) ∧ w.cell? ⟨b, off + i * 8 + 4, none⟩ = some (.int .i64 (l.getD i noRcd).ring) ∧ w.cell? ⟨b, off + i * 8 + 5, none⟩ = some (.int .i64 (l.getD i noRcd).talk) ∧ w.cell? ⟨b, off + i * 8 + 6, none⟩ = some (.int .i64 (l.getD i noRcd).how) ∧ w.cell? ⟨b, off + i * 8 + 7, none⟩ = some (.string ⟨(l.getD i noRcd).carrier.toArray⟩) := by
  have hl := h.len
  rcases h.cells.row with h0 | ⟨b, off, ha, hb, hc⟩
  · omega
  · refine ⟨b, off, ha, hb, fun i hi => ?_⟩
    have k0 := hc i hi 0 (by omega)
    have k1 := hc i hi 1 (by omega)
    have k2 := hc i hi 2 (by omega)
    have k3 := hc i hi 3 (by omega)
    have k4 := hc i hi 4 (by omega)
    have k5 := hc i hi 5 (by omega)
    have k6 := hc i hi 6 (by omega)
    have k7 := hc i hi 7 (by omega)
    rw [getD_map Rcd.cells l i noRcd [] (by omega)] at k0 k1 k2 k3 k4 k5 k6 k7
    exact ⟨k0, k1, k2, k3, k4, k5, k6, k7⟩
theorem RcdRow.of_own {w : World} {base : Nat} {e : TypeId} {v : Value} {n : Nat} {l : List Rcd} (h : w.ownsRow base e 8 v n ((l.map Rcd.cells).flatten)) (hf : n ≤ 100) (he : ∀ i, i < l.length → (l.getD i noRcd).id.length ≤ 100 ∧ (l.getD i noRcd).fr.length ≤ 100 ∧ (l.getD i noRcd).to_.length ≤ 100 ∧ (l.getD i noRcd).carrier.length ≤ 100 ∧ (-2000000000000 ≤ (l.getD i noRcd).at_ ∧ (l.getD i noRcd).at_ ≤ 2000000000000) ∧ (-2000000000000 ≤ (l.getD i noRcd).ring ∧ (l.getD i noRcd).ring ≤ 2000000000000) ∧ (-2000000000000 ≤ (l.getD i noRcd).talk ∧ (l.getD i noRcd).talk ≤ 2000000000000) ∧ (-2000000000000 ≤ (l.getD i noRcd).how ∧ (l.getD i noRcd).how ≤ 2000000000000)) : ∃ a c, v = .slice a n c ∧ n ≤ c ∧ RcdRow w a n l := by
  obtain ⟨a, c, rfl, hcs⟩ := Cells.of_own h (fun x hx => by obtain ⟨y, _, rfl⟩ := List.mem_map.1 hx; rfl) (by decide)
  exact ⟨a, c, rfl, (own_caps h).2, ⟨hcs, hf, he⟩⟩
end Go.Proofs.YtppinnjdaoaddaaGreatDoor

set_option linter.unusedVariables false
set_option linter.unusedSimpArgs false
namespace Go.Proofs.YtppinnjdaoaddaaGreatDoor
open Go.RowKit

theorem range_gen (S k : Nat) (lo hi : Int) (w : World) (h : StreamOk w S k) (hk : k ≤ 1000000000) (h2 : -4611686018427387904 ≤ lo) (h3 : hi ≤ 4611686018427387000) :
    Calls Tryz.prog 8 #[.pointer (some ⟨S, 0, none⟩), .int .i64 lo, .int .i64 hi] w (PickPost S (k + 1) (fun r => lo ≤ r ∧ (r ≤ lo ∨ r ≤ hi)) w) := by
  by_cases hlt : hi < lo
  · have HS := Lib.hid (h.mono (Nat.le_succ _))
    clear h
    go_enter Tryz.func8, Tryz.ntmps8
    go_wp2_with fail
    go_ret
    exact ⟨lo, rfl, ⟨Int.le_refl _, Or.inl (Int.le_refl _)⟩, HS.out, Keeps.refl _ _⟩
  · refine (range_any S k lo hi w h hk (by omega) h2 h3).mono ?_
    rintro e w' ⟨r, rfl, r0, r1, hst, hkp⟩
    exact ⟨r, rfl, ⟨r0, Or.inr r1⟩, hst, hkp⟩

set_option maxRecDepth 100000 in
theorem odd_any (S k : Nat) (lo hi : Int) (w : World) (h : StreamOk w S k) (hk : k ≤ 100000000) (h0 : 0 ≤ lo) (h1 : lo ≤ hi) (h2 : hi ≤ 400000000000) :
    Calls Tryz.prog 51 #[.pointer (some ⟨S, 0, none⟩), .int .i64 lo, .int .i64 hi] w (PickPost S (k + 2) (fun r => -1099511627776 ≤ r ∧ r ≤ 1099511627776) w) := by
  have HS := Lib.hid h
  have hlt := h.lt
  clear h
  go_enter Tryz.func51, Tryz.ntmps51
  go_wp2_with fail
  refine (flip_any S k 12 _ HS.out (by omega) (by decide) (by decide)).mono ?_
  rintro e w1 ⟨r, rfl, hst, hkp⟩
  have HS1 := Lib.hid hst
  have HK1 := Lib.hid hkp
  have hl1 := hst.lt
  clear hst hkp
  cases r
  · go_wp2_with fail
    refine (range_any S (k + 1) lo hi _ HS1.out (by omega) h1 (by omega) (by omega)).mono ?_
    rintro e w2 ⟨r, rfl, r0, r1, hst2, hkp2⟩
    have HK2 := Lib.hid (HK1.out.trans hkp2)
    have HS2 := Lib.hid hst2
    clear hst2 hkp2
    go_wp2_with fail
    go_ret
    exact ⟨r, rfl, ⟨by omega, by omega⟩, HS2.out, HK2.out⟩
  · go_wp2_with fail
    refine (pick_any S (k + 1) w1.heap.size 6 6 [lo - 1, hi + 1, lo, hi, -1099511627776, 1099511627776] (fun r => -1099511627776 ≤ r ∧ r ≤ 1099511627776) _ (HS1.out.below (ext_alloc (Below.refl _ _))) (by omega) (by simp) (by omega) (by omega) (by omega) (fun i h9 => by match i, h9 with | 0, _ | 1, _ | 2, _ | 3, _ | 4, _ | 5, _ => go_simp) (fun i h9 => by match i, h9 with | 0, _ => exact ⟨by show _ ≤ lo - 1; omega, by show lo - 1 ≤ _; omega⟩ | 1, _ => exact ⟨by show _ ≤ hi + 1; omega, by show hi + 1 ≤ _; omega⟩ | 2, _ => exact ⟨by show _ ≤ lo; omega, by show lo ≤ _; omega⟩ | 3, _ => exact ⟨by show _ ≤ hi; omega, by show hi ≤ _; omega⟩ | 4, _ => exact ⟨by show (-1099511627776 : Int) ≤ -1099511627776; decide, by show (-1099511627776 : Int) ≤ 1099511627776; decide⟩ | 5, _ => exact ⟨by show (-1099511627776 : Int) ≤ 1099511627776; decide, by show (1099511627776 : Int) ≤ 1099511627776; decide⟩)).mono ?_
    rintro e w2 ⟨r, rfl, hr, hst2, hkp2⟩
    have HK2 := Lib.hid ((HK1.out.alloc _).trans hkp2)
    have HS2 := Lib.hid hst2
    have HR := Lib.hid hr
    clear hst2 hkp2 hr
    go_wp2_with fail
    go_ret
    exact ⟨r, rfl, HR.out, HS2.out, HK2.out⟩

/-! ### Plans in memory that may be written -/
/-- Country i of a plan in block P, with its areas in a block of their own. -/
structure CtryAt (S P : Nat) (base : Nat) (w : World) (i : Nat) (c : Ctry) (b : Nat) : Prop where
  cells : ∀ j, j < 4 → w.cell? ⟨P, i * 4 + j, none⟩ = c.cells[j]?
  fine : CtryFine w c
  some : 1 ≤ c.an
  at_ : c.aa = Option.some ⟨b, 0, none⟩
  off : b ≠ S
  offP : b ≠ P
  lt : b < w.heap.size
  new : base ≤ b
  fro : ∀ j, w.frozen? ⟨b, j, none⟩ = false
structure PlanAt (S P : Nat) (base : Nat) (w : World) (l : List Ctry) (bs : List Nat) : Prop where
  len : l.length = 3
  each : ∀ i, i < 3 → CtryAt S P base w i (l.getD i noCtry) (bs.getD i 0)
  offS : P ≠ S
  lt : P < w.heap.size
  new : base ≤ P
  fro : ∀ j, w.frozen? ⟨P, j, none⟩ = false

def areaCells (l : List Area) : List Value := l.flatMap Area.cells
/-- A plan that a stream has handed out. -/
def PlanPost (S k : Nat) (w : World) (e : Ending) (w' : World) : Prop :=
  ∃ (P : Nat) (l : List Ctry), e = .returned (.slice (some ⟨P, 0, none⟩) 3 3) ∧ (∀ w9, Keeps S w' w9 → CtryRow w9 (some ⟨P, 0, none⟩) 3 l) ∧ (∀ i, i < l.length → 1 ≤ (l.getD i noCtry).an) ∧ StreamOk w' S k ∧ Keeps S w w'

theorem AreaRow.keeps {S : Nat} {w w' : World} {b n : Nat} {l : List Area} (h : AreaRow w (some ⟨b, 0, none⟩) n l) (hb : b ≠ S) (hk : Keeps S w w') : AreaRow w' (some ⟨b, 0, none⟩) n l := by
  refine ⟨h.len, h.row.imp id ?_⟩
  rintro ⟨b9, off, ha, hl, hc⟩
  injection ha with ha
  injection ha with e1 e2
  subst e1 e2
  exact ⟨b, 0, rfl, Nat.lt_of_lt_of_le hl hk.size, fun i hi j hj => (hk.cell (p := ⟨b, 0 + i * 3 + j, none⟩) hl hb).trans (hc i hi j hj)⟩
theorem CtryAt.keeps {S P base : Nat} {w w' : World} {i : Nat} {c : Ctry} {b : Nat} (h : CtryAt S P base w i c b) (hP : P < w.heap.size) (hS : P ≠ S) (hk : Keeps S w w') : CtryAt S P base w' i c b :=
  ⟨fun j hj => (hk.cell (p := ⟨P, i * 4 + j, none⟩) hP hS).trans (h.cells j hj), ⟨h.fine.code, h.fine.abroad, h.fine.trunk, h.fine.many, by have := h.fine.row; rw [h.at_] at this ⊢; exact this.keeps h.off hk, h.fine.each⟩, h.some, h.at_, h.off, h.offP, Nat.lt_of_lt_of_le h.lt hk.size, h.new, fun j => (hk.frozen (p := ⟨b, j, none⟩) h.lt h.off).trans (h.fro j)⟩
theorem PlanAt.keeps {S P base : Nat} {w w' : World} {l : List Ctry} {bs : List Nat} (h : PlanAt S P base w l bs) (hk : Keeps S w w') : PlanAt S P base w' l bs :=
  ⟨h.len, fun i hi => (h.each i hi).keeps h.lt h.offS hk, h.offS, Nat.lt_of_lt_of_le h.lt hk.size, h.new, fun j => (hk.frozen (p := ⟨P, j, none⟩) h.lt h.offS).trans (h.fro j)⟩
theorem PlanAt.row {S P base : Nat} {w : World} {l : List Ctry} {bs : List Nat} (h : PlanAt S P base w l bs) : CtryRow w (some ⟨P, 0, none⟩) 3 l :=
  ⟨h.len.symm, by omega, Or.inr ⟨P, 0, rfl, h.lt, fun i hi j hj => by rw [Nat.zero_add]; exact (h.each i hi).cells j hj⟩, fun i hi => (h.each i (by rw [h.len] at hi; exact hi)).fine⟩
theorem PlanAt.post {S P k : Nat} {w w' : World} {l : List Ctry} {bs : List Nat} {base : Nat} (h : PlanAt S P base w' l bs) (hs : StreamOk w' S k) (hk : Keeps S w w') : PlanPost S k w (.returned (.slice (some ⟨P, 0, none⟩) 3 3)) w' :=
  ⟨P, l, rfl, fun w9 h9 => (h.keeps h9).row, fun i hi => (h.each i (by rw [h.len] at hi; exact hi)).some, hs, hk⟩

/-- One area, written out. -/
def ar (p : List UInt8) (lo hi : Int) : Area := ⟨p, lo, hi⟩
theorem area_row2 {w : World} {b : Nat} {x y : Area} (hb : b < w.heap.size) (h : ∀ j v, ((x.cells ++ y.cells) : List Value)[j]? = some v → w.cell? ⟨b, j, none⟩ = some v) : AreaRow w (some ⟨b, 0, none⟩) 2 [x, y] := by
  refine ⟨rfl, Or.inr ⟨b, 0, rfl, hb, fun i hi j hj => ?_⟩⟩
  match i, hi, j, hj with
  | 0, _, 0, _ => exact h 0 _ rfl
  | 0, _, 1, _ => exact h 1 _ rfl
  | 0, _, 2, _ => exact h 2 _ rfl
  | 1, _, 0, _ => exact h 3 _ rfl
  | 1, _, 1, _ => exact h 4 _ rfl
  | 1, _, 2, _ => exact h 5 _ rfl
theorem area_row3 {w : World} {b : Nat} {x y z : Area} (hb : b < w.heap.size) (h : ∀ j v, ((x.cells ++ y.cells ++ z.cells) : List Value)[j]? = some v → w.cell? ⟨b, j, none⟩ = some v) : AreaRow w (some ⟨b, 0, none⟩) 3 [x, y, z] := by
  refine ⟨rfl, Or.inr ⟨b, 0, rfl, hb, fun i hi j hj => ?_⟩⟩
  match i, hi, j, hj with
  | 0, _, 0, _ => exact h 0 _ rfl
  | 0, _, 1, _ => exact h 1 _ rfl
  | 0, _, 2, _ => exact h 2 _ rfl
  | 1, _, 0, _ => exact h 3 _ rfl
  | 1, _, 1, _ => exact h 4 _ rfl
  | 1, _, 2, _ => exact h 5 _ rfl
  | 2, _, 0, _ => exact h 6 _ rfl
  | 2, _, 1, _ => exact h 7 _ rfl
  | 2, _, 2, _ => exact h 8 _ rfl

theorem heap_new (w : World) (o : Obj) : (w.alloc o).heap[w.heap.size]? = some o := by unfold World.alloc; simp
theorem block_cell {w : World} {b : Nat} {cs : Array Value} {t : TypeId} (h : w.heap[b]? = some (.cells cs t)) (j : Nat) : w.cell? ⟨b, j, none⟩ = cs[j]? := by simp [World.cell?, h]
theorem block_fro {w : World} {b : Nat} {cs : Array Value} {t : TypeId} (h : w.heap[b]? = some (.cells cs t)) (j : Nat) : w.frozen? ⟨b, j, none⟩ = false := by simp [World.frozen?, h]

end Go.Proofs.YtppinnjdaoaddaaGreatDoor

set_option linter.unusedVariables false
set_option linter.unusedSimpArgs false
namespace Go.Proofs.YtppinnjdaoaddaaGreatDoor
open Go.RowKit

theorem pick_lit (S k : Nat) (vals : List Int) (P : Int → Prop) (w : World) (cs : Array Value) (n : Nat) (h : StreamOk w S k) (hk : k ≤ 1000000000) (hcs : cs.toList = vals.map (Value.int .i64)) (hn : n = vals.length) (h1 : 1 ≤ vals.length) (h2 : vals.length ≤ 1000) (hP : ∀ x ∈ vals, P x) :
    Calls Tryz.prog 11 #[.pointer (some ⟨S, 0, none⟩), .slice (some ⟨w.heap.size, 0, none⟩) n n] (w.alloc (.cells cs 3)) (PickPost S (k + 1) P w) := by
  have hl := h.lt
  subst hn
  have hcs' : cs = (vals.map (Value.int .i64)).toArray := by rw [← hcs]
  subst hcs'
  refine (pick_any S k w.heap.size vals.length vals.length vals P _ (h.below (ext_alloc (Below.refl _ _))) hk (by simp) (by omega) h1 h2 (fun i hi => ?_) (fun i hi => ?_)).mono ?_
  · exact (new_cell w _ 3 (0, 0) i).trans (by simp [hi])
  · rw [show vals.getD i _ = vals[i] by simp [hi]]
    exact hP _ (List.getElem_mem hi)
  · rintro e w' ⟨r, rfl, hr, hst, hkp⟩
    exact ⟨r, rfl, hr, hst, (Keeps.of_below (ext_alloc (Below.refl _ _))).trans hkp⟩
theorem some_lit (S k : Nat) (vals : List (List UInt8)) (P : List UInt8 → Prop) (w : World) (cs : Array Value) (n : Nat) (h : StreamOk w S k) (hk : k ≤ 1000000000) (hcs : cs.toList = vals.map fun s => Value.string ⟨s.toArray⟩) (hn : n = vals.length) (h1 : 1 ≤ vals.length) (h2 : vals.length ≤ 1000) (hP : ∀ x ∈ vals, P x) :
    Calls Tryz.prog 26 #[.pointer (some ⟨S, 0, none⟩), .slice (some ⟨w.heap.size, 0, none⟩) n n] (w.alloc (.cells cs 9)) (SomePost S (k + 1) P w) := by
  have hl := h.lt
  subst hn
  have hcs' : cs = (vals.map fun s => Value.string ⟨s.toArray⟩).toArray := by rw [← hcs]
  subst hcs'
  refine (some_any S k w.heap.size vals.length vals.length vals P _ (h.below (ext_alloc (Below.refl _ _))) hk (by simp) (by omega) h1 h2 (fun i hi => ?_) (fun i hi => ?_)).mono ?_
  · exact (new_cell w _ 9 (0, 0) i).trans (by simp [hi])
  · rw [show vals.getD i _ = vals[i] by simp [hi]]
    exact hP _ (List.getElem_mem hi)
  · rintro e w' ⟨r, rfl, hr, hst, hkp⟩
    exact ⟨r, rfl, hr, hst, (Keeps.of_below (ext_alloc (Below.refl _ _))).trans hkp⟩

theorem bs_p6 (e : Operand → Value) (he : ∀ v, e (.const v) = v) (o : Oper) (w : World) (ho : o.op = .buildSlice 22 6 #[(0, .const (.int .i64 0)), (1, .const (.int .i64 0)), (2, .const (.int .i64 1)), (3, .const (.int .i64 9)), (4, .const (.int .i64 99)), (5, .const (.int .i64 300))]) :
   (execOp e o).run Tryz.prog w = .ok (.value (.slice (some ⟨w.heap.size, 0, none⟩) 6 6)) (w.alloc (.cells #[.int .i64 0, .int .i64 0, .int .i64 1, .int .i64 9, .int .i64 99, .int .i64 300] 3)) := by
  unfold execOp
  rw [ho]
  simp only [List.map_toArray, List.map_cons, List.map_nil, he]
  kernel_rfl
theorem bs_p5 (e : Operand → Value) (he : ∀ v, e (.const v) = v) (o : Oper) (w : World) (ho : o.op = .buildSlice 22 5 #[(0, .const (.int .i64 2)), (1, .const (.int .i64 2)), (2, .const (.int .i64 3)), (3, .const (.int .i64 10)), (4, .const (.int .i64 50))]) :
   (execOp e o).run Tryz.prog w = .ok (.value (.slice (some ⟨w.heap.size, 0, none⟩) 5 5)) (w.alloc (.cells #[.int .i64 2, .int .i64 2, .int .i64 3, .int .i64 10, .int .i64 50] 3)) := by
  unfold execOp
  rw [ho]
  simp only [List.map_toArray, List.map_cons, List.map_nil, he]
  kernel_rfl
theorem bs_p3 (e : Operand → Value) (he : ∀ v, e (.const v) = v) (o : Oper) (w : World) (ho : o.op = .buildSlice 22 3 #[(0, .const (.int .i64 1)), (1, .const (.int .i64 10)), (2, .const (.int .i64 50))]) :
   (execOp e o).run Tryz.prog w = .ok (.value (.slice (some ⟨w.heap.size, 0, none⟩) 3 3)) (w.alloc (.cells #[.int .i64 1, .int .i64 10, .int .i64 50] 3)) := by
  unfold execOp
  rw [ho]
  simp only [List.map_toArray, List.map_cons, List.map_nil, he]
  kernel_rfl
theorem bs_inst (e : Operand → Value) (he : ∀ v, e (.const v) = v) (o : Oper) (w : World) (i8 i9 i10 : Nat) (z8 z9 z10 : Int) (ho : o.op = .buildSlice 22 11 #[(0, .const (.int .i64 0)), (1, .const (.int .i64 5)), (2, .const (.int .i64 10)), (3, .const (.int .i64 20)), (4, .const (.int .i64 30)), (5, .const (.int .i64 40)), (6, .const (.int .i64 60)), (7, .const (.int .i64 100)), (8, .tmp i8), (9, .tmp i9), (10, .tmp i10)]) (h8 : e (.tmp i8) = .int .i64 z8) (h9 : e (.tmp i9) = .int .i64 z9) (h10 : e (.tmp i10) = .int .i64 z10) :
   (execOp e o).run Tryz.prog w = .ok (.value (.slice (some ⟨w.heap.size, 0, none⟩) 11 11)) (w.alloc (.cells #[.int .i64 0, .int .i64 5, .int .i64 10, .int .i64 20, .int .i64 30, .int .i64 40, .int .i64 60, .int .i64 100, .int .i64 z8, .int .i64 z9, .int .i64 z10] 3)) := by
  unfold execOp
  rw [ho]
  simp only [List.map_toArray, List.map_cons, List.map_nil, he, h8, h9, h10]
  kernel_rfl

set_option maxRecDepth 100000 in
set_option maxHeartbeats 1000000 in
theorem instant_any (S k : Nat) (w : World) (h : StreamOk w S k) (hk : k ≤ 10000000) : Calls Tryz.prog 27 #[.pointer (some ⟨S, 0, none⟩)] w (PickPost S (k + 4) (fun _ => True) w) := by
  have HS := Lib.hid h
  clear h
  go_enter Tryz.func27, Tryz.ntmps27
  go_wp2_with fail
  refine (next_any S k 200 _ HS.out (by omega) (by decide) (by decide)).mono ?_
  rintro e w1 ⟨r1, rfl, a0, a1, hst1, hk1⟩
  have HS1 := Lib.hid hst1
  have HK1 := Lib.hid hk1
  clear hst1 hk1 HS
  as_aux_lemma =>
    go_wp2_with fail
    refine (next_any S (k + 1) 200 _ HS1.out (by omega) (by decide) (by decide)).mono ?_
    rintro e w2 ⟨r2, rfl, b0, b1, hst2, hk2⟩
    have HS2 := Lib.hid hst2
    have HK2 := Lib.hid (HK1.out.trans hk2)
    clear hst2 hk2 HS1 HK1
    as_aux_lemma =>
      go_wp2_with fail
      refine (pick_lit S (k + 1 + 1) [345686399999, -1, 345686400000] (fun _ => True) _ _ _ HS2.out (by omega) rfl rfl (by decide) (by decide) (fun _ _ => trivial)).mono ?_
      rintro e w3 ⟨r3, rfl, -, hst3, hk3⟩
      have HS3 := Lib.hid hst3
      have HK3 := Lib.hid (HK2.out.trans hk3)
      clear hst3 hk3 HS2 HK2
      as_aux_lemma =>
        go_wp2_with (first | (refine wpList_val rfl (bs_inst _ (fun _ => rfl) _ _ _ _ _ _ _ _ rfl rfl rfl rfl) ?_))
        refine (pick_lit S (k + 1 + 1 + 1) [0, 5, 10, 20, 30, 40, 60, 100, r1, r2, r3] (fun _ => True) _ _ _ HS3.out (by omega) rfl rfl (by simp) (by simp) (fun _ _ => trivial)).mono ?_
        rintro e w4 ⟨r4, rfl, -, hst4, hk4⟩
        have HS4 := Lib.hid hst4
        have HK4 := Lib.hid (HK3.out.trans hk4)
        clear hst4 hk4 HS3 HK3
        go_wp2_with fail
        go_ret
        exact ⟨r4, rfl, trivial, HS4.out, HK4.out⟩
end Go.Proofs.YtppinnjdaoaddaaGreatDoor

set_option linter.unusedVariables false
set_option linter.unusedSimpArgs false
namespace Go.Proofs.YtppinnjdaoaddaaGreatDoor
open Go.RowKit

theorem own_set {w : World} {base : Nat} {e : TypeId} {size : Nat} {v : Value} {n : Nat} {xs : List Value} (h : w.ownsRow base e size v n xs) {p : Addr} {u : Value} (hp : v.ownBlock ≠ some p.block) : (w.setCell p u).ownsRow base e size v n xs :=
  own_if h (KeepsIf.set (p := fun b => v.ownBlock = some b) (fun b e e' => hp (by rw [e']; exact e))) (fun b e => e)
theorem ne_off {B i j : Nat} (h : i ≠ j) : (⟨B, i, none⟩ : Addr) ≠ ⟨B, j, none⟩ := by intro e; injection e with _ e2 _; exact h e2
theorem ne_blk {B C i j : Nat} (h : B ≠ C) : (⟨B, i, none⟩ : Addr) ≠ ⟨C, j, none⟩ := by intro e; injection e with e1 _ _; exact h e1
theorem box_th {w : World} {B : Nat} {vs : Array Value} {ty : TypeId} (h : w.heap[B]? = some (.cells vs ty (0, 0))) : w.there B 0 vs.size := fun j hj => by
  refine ⟨?_, ?_⟩
  · simp [World.cell?, h, hj]
  · simp [World.frozen?, h]
/-- A place of n cells that can be written. -/
structure Room (w : World) (F n : Nat) : Prop where
  lt : F < w.heap.size
  th : w.there F 0 n
theorem Room.keeps {w w' : World} {F n S : Nat} (h : Room w F n) (hk : Keeps S w w') (hn : F ≠ S) : Room w' F n :=
  ⟨Nat.lt_of_lt_of_le h.lt hk.size, fun j hj => by
    obtain ⟨h1, h2⟩ := h.th j hj
    exact ⟨by rw [hk.cell (p := ⟨F, 0 + j, none⟩) h.lt hn]; exact h1, by rw [hk.frozen (p := ⟨F, 0 + j, none⟩) h.lt hn]; exact h2⟩⟩
theorem Room.below {w w' : World} {F n : Nat} (h : Room w F n) (hb : Below w.heap.size w w') : Room w' F n :=
  ⟨Nat.lt_of_lt_of_le h.lt hb.size, fun j hj => by
    obtain ⟨h1, h2⟩ := h.th j hj
    exact ⟨by rw [hb.cell (p := ⟨F, 0 + j, none⟩) h.lt]; exact h1, by rw [hb.frozen (p := ⟨F, 0 + j, none⟩) h.lt]; exact h2⟩⟩
theorem Room.grown {w w' : World} {F n : Nat} {row : Option Nat} (h : Room w F n) (hg : w.grownBy w' row) (hn : row ≠ some F) : Room w' F n :=
  ⟨Nat.lt_of_lt_of_le h.lt hg.size, fun j hj => by
    obtain ⟨h1, h2⟩ := h.th j hj
    have hb := hg.block F h.lt (fun e => hn e.symm)
    exact ⟨by rw [World.cell?_of_block (a := ⟨F, 0 + j, none⟩) hb]; exact h1, by rw [World.frozen?_of_block (a := ⟨F, 0 + j, none⟩) hb]; exact h2⟩⟩
theorem Room.set {w : World} {F n : Nat} (h : Room w F n) (B o : Nat) (u : Value) : Room (w.setCell ⟨B, o, none⟩ u) F n :=
  ⟨by simpa using h.lt, World.there_setCells h.th B o [u]⟩
theorem below_setCells {S F : Nat} (hS : S ≤ F) : ∀ (vs : List Value) (w : World) (k : Nat), Below S w (w.setCells F k vs)
  | [], w, k => Below.refl _ _
  | v :: vs, w, k => ((Below.refl S w).setCell (p := ⟨F, k, none⟩) hS v).trans (below_setCells hS vs (w.setCell ⟨F, k, none⟩ v) (k + 1))
theorem keeps_setCells {S F : Nat} {a : World} (hF : a.heap.size ≤ F) : ∀ (vs : List Value) (w : World) (k : Nat), Keeps S a w → Keeps S a (w.setCells F k vs)
  | [], w, k, h => h
  | v :: vs, w, k, h => keeps_setCells hF vs (w.setCell ⟨F, k, none⟩ v) (k + 1) (h.setCell_new hF v)
/-- Names in a row. -/
structure Names (w : World) (A n : Nat) (names : List (List UInt8)) : Prop where
  lt : A < w.heap.size
  at_ : ∀ i, i < n → w.cell? ⟨A, i, none⟩ = some (.string ⟨(names.getD i []).toArray⟩)
theorem Names.keeps {w w' : World} {A n S : Nat} {names : List (List UInt8)} (h : Names w A n names) (hk : Keeps S w w') (hn : A ≠ S) : Names w' A n names :=
  ⟨Nat.lt_of_lt_of_le h.lt hk.size, fun i hi => (hk.cell (p := ⟨A, i, none⟩) h.lt hn).trans (h.at_ i hi)⟩
theorem Names.grown {w w' : World} {A n : Nat} {names : List (List UInt8)} {row : Option Nat} (h : Names w A n names) (hg : w.grownBy w' row) (hn : row ≠ some A) : Names w' A n names :=
  ⟨Nat.lt_of_lt_of_le h.lt hg.size, fun i hi => (World.cell?_of_block (a := ⟨A, i, none⟩) (hg.block A h.lt (fun e => hn e.symm))).trans (h.at_ i hi)⟩
theorem Names.set {w : World} {A n : Nat} {names : List (List UInt8)} (h : Names w A n names) {B o : Nat} (hn : B ≠ A) (u : Value) : Names (w.setCell ⟨B, o, none⟩ u) A n names :=
  ⟨by simpa using h.lt, fun i hi => (World.cell?_setCell_other _ _ _ _ (ne_blk hn)).trans (h.at_ i hi)⟩
theorem names_new (W : World) (names : List (List UInt8)) (cs : Array Value) (hcs : cs.toList = names.map fun s => Value.string ⟨s.toArray⟩) (n : Nat) (hn : n = names.length) : Names (W.alloc (.cells cs 9)) W.heap.size n names := by
  subst hn
  have hcs' : cs = (names.map fun s => Value.string ⟨s.toArray⟩).toArray := by rw [← hcs]
  subst hcs'
  exact ⟨by simp, fun i hi => (new_cell W _ 9 (0, 0) i).trans (by simp [hi])⟩
theorem wp_skip {P : Program} {o : Oper} {a : Act} {w w' : World} {K : Act → World → Prop} {Q : Exit → Act → World → Prop} (h : (execOp a.eval o).run P w = .ok .skip w') (hK : K (a.put o.dst undef) w') : o.wp P a w K Q := by
  unfold Oper.wp
  rw [h]
  exact hK
theorem wp_append_own_at {P : Program} {w : World} {o : Oper} {a : Act} {K : Act → World → Prop} {Q : Exit → Act → World → Prop} (s x : Operand) (t : TypeId)
    (ho : o.op = .call { callee := .builtin .append, args := #[s, x], argTypes := #[t, t] })
    (base : Nat) (e : TypeId) (i : TypeInfo) (z : Value) (size bytes : Nat) (ht : P.underlying t = some (.slice e)) (hi : P.info? e = some i) (hz : i.zero = some z)
    (hsize : i.size = size) (hby : i.bytes = bytes) (hzs : z.cells.size = size) (hsz : 0 < size)
    (v : Value) (n : Nat) (xs : List Value) (hs : a.eval s = v) (hown : w.ownsRow base e size v n xs)
    (ad : Addr) (m c : Nat) (news : List Value) (hx : a.eval x = .slice (some ad) m c) (hl : news.length = m * size) (hnews : ∀ j u, news[j]? = some u → w.cell? (ad.add j) = some u) (h1 : ∀ u ∈ news, u.oneCell' = true)
    (h63 : n + m ≤ maxLen) (hbytes : (n + m) * bytes ≤ 140737488355328) (hbase : base ≤ w.heap.size)
    (h : ∀ v' w', w'.ownsRow base e size v' (n + m) (xs ++ news) → w.grownBy w' v.ownBlock → (v'.ownBlock = v.ownBlock ∨ v'.ownBlock = some w.heap.size) → K (a.put o.dst v') w') : o.wp P a w K Q := by
  obtain ⟨v', w', hr, k1, k2, _, k3⟩ := run_append_own_at (P := P) w base t o.type e i z size bytes ht hi hz hsize hby hzs hsz v n xs hown ad m c news hl hnews h1 h63 hbytes hbase
  unfold Oper.wp execOp
  simp only [ho, resolve, invoke, builtin, Sem.run_bind, Sem.run_pure, Result.andThen_ok, List.map_toArray, List.map_cons, List.map_nil, hs, hx, hr]
  exact h v' w' k1 k2 k3
/-- A deck in a box of its own. -/
structure DBox (w : World) (D : Nat) (f s l st : Int) (v : Value) : Prop where
  lt : D < w.heap.size
  c0 : w.cell? ⟨D, 0, none⟩ = some (.int .i64 f)
  c1 : w.cell? ⟨D, 1, none⟩ = some (.int .i64 s)
  c2 : w.cell? ⟨D, 2, none⟩ = some (.int .i64 l)
  c3 : w.cell? ⟨D, 3, none⟩ = some (.int .i64 st)
  c4 : w.cell? ⟨D, 4, none⟩ = some v
  fr : ∀ j, w.frozen? ⟨D, j, none⟩ = false
theorem DBox.keeps {w w' : World} {D S : Nat} {f s l st : Int} {v : Value} (h : DBox w D f s l st v) (hk : Keeps S w w') (hn : D ≠ S) : DBox w' D f s l st v :=
  ⟨Nat.lt_of_lt_of_le h.lt hk.size, (hk.cell (p := ⟨D, 0, none⟩) h.lt hn).trans h.c0, (hk.cell (p := ⟨D, 1, none⟩) h.lt hn).trans h.c1, (hk.cell (p := ⟨D, 2, none⟩) h.lt hn).trans h.c2, (hk.cell (p := ⟨D, 3, none⟩) h.lt hn).trans h.c3, (hk.cell (p := ⟨D, 4, none⟩) h.lt hn).trans h.c4, fun j => (hk.frozen (p := ⟨D, j, none⟩) h.lt hn).trans (h.fr j)⟩
theorem DBox.grown {w w' : World} {D : Nat} {f s l st : Int} {v : Value} {row : Option Nat} (h : DBox w D f s l st v) (hg : w.grownBy w' row) (hn : row ≠ some D) : DBox w' D f s l st v := by
  have hb := hg.block D h.lt (fun e => hn e.symm)
  exact ⟨Nat.lt_of_lt_of_le h.lt hg.size, (World.cell?_of_block (a := ⟨D, 0, none⟩) hb).trans h.c0, (World.cell?_of_block (a := ⟨D, 1, none⟩) hb).trans h.c1, (World.cell?_of_block (a := ⟨D, 2, none⟩) hb).trans h.c2, (World.cell?_of_block (a := ⟨D, 3, none⟩) hb).trans h.c3, (World.cell?_of_block (a := ⟨D, 4, none⟩) hb).trans h.c4, fun j => (World.frozen?_of_block (a := ⟨D, j, none⟩) hb).trans (h.fr j)⟩
theorem DBox.far {w : World} {D : Nat} {f s l st : Int} {v : Value} (h : DBox w D f s l st v) {B o : Nat} (hn : B ≠ D) (u : Value) : DBox (w.setCell ⟨B, o, none⟩ u) D f s l st v :=
  ⟨by simpa using h.lt, (World.cell?_setCell_other _ _ _ _ (ne_blk hn)).trans h.c0, (World.cell?_setCell_other _ _ _ _ (ne_blk hn)).trans h.c1, (World.cell?_setCell_other _ _ _ _ (ne_blk hn)).trans h.c2, (World.cell?_setCell_other _ _ _ _ (ne_blk hn)).trans h.c3, (World.cell?_setCell_other _ _ _ _ (ne_blk hn)).trans h.c4, fun j => (World.frozen?_setCell _ _ _ _).trans (h.fr j)⟩
theorem DBox.s0 {w : World} {D : Nat} {f s l st : Int} {v : Value} (h : DBox w D f s l st v) (z : Int) : DBox (w.setCell ⟨D, 0, none⟩ (.int .i64 z)) D z s l st v :=
  ⟨by simpa using h.lt, World.cell?_setCell_same _ _ _ h.c0, (World.cell?_setCell_other _ _ _ _ (ne_off (by decide))).trans h.c1, (World.cell?_setCell_other _ _ _ _ (ne_off (by decide))).trans h.c2, (World.cell?_setCell_other _ _ _ _ (ne_off (by decide))).trans h.c3, (World.cell?_setCell_other _ _ _ _ (ne_off (by decide))).trans h.c4, fun j => (World.frozen?_setCell _ _ _ _).trans (h.fr j)⟩
theorem DBox.s1 {w : World} {D : Nat} {f s l st : Int} {v : Value} (h : DBox w D f s l st v) (z : Int) : DBox (w.setCell ⟨D, 1, none⟩ (.int .i64 z)) D f z l st v :=
  ⟨by simpa using h.lt, (World.cell?_setCell_other _ _ _ _ (ne_off (by decide))).trans h.c0, World.cell?_setCell_same _ _ _ h.c1, (World.cell?_setCell_other _ _ _ _ (ne_off (by decide))).trans h.c2, (World.cell?_setCell_other _ _ _ _ (ne_off (by decide))).trans h.c3, (World.cell?_setCell_other _ _ _ _ (ne_off (by decide))).trans h.c4, fun j => (World.frozen?_setCell _ _ _ _).trans (h.fr j)⟩
theorem DBox.s2 {w : World} {D : Nat} {f s l st : Int} {v : Value} (h : DBox w D f s l st v) (z : Int) : DBox (w.setCell ⟨D, 2, none⟩ (.int .i64 z)) D f s z st v :=
  ⟨by simpa using h.lt, (World.cell?_setCell_other _ _ _ _ (ne_off (by decide))).trans h.c0, (World.cell?_setCell_other _ _ _ _ (ne_off (by decide))).trans h.c1, World.cell?_setCell_same _ _ _ h.c2, (World.cell?_setCell_other _ _ _ _ (ne_off (by decide))).trans h.c3, (World.cell?_setCell_other _ _ _ _ (ne_off (by decide))).trans h.c4, fun j => (World.frozen?_setCell _ _ _ _).trans (h.fr j)⟩
theorem DBox.s3 {w : World} {D : Nat} {f s l st : Int} {v : Value} (h : DBox w D f s l st v) (z : Int) : DBox (w.setCell ⟨D, 3, none⟩ (.int .i64 z)) D f s l z v :=
  ⟨by simpa using h.lt, (World.cell?_setCell_other _ _ _ _ (ne_off (by decide))).trans h.c0, (World.cell?_setCell_other _ _ _ _ (ne_off (by decide))).trans h.c1, (World.cell?_setCell_other _ _ _ _ (ne_off (by decide))).trans h.c2, World.cell?_setCell_same _ _ _ h.c3, (World.cell?_setCell_other _ _ _ _ (ne_off (by decide))).trans h.c4, fun j => (World.frozen?_setCell _ _ _ _).trans (h.fr j)⟩
theorem DBox.s4 {w : World} {D : Nat} {f s l st : Int} {v : Value} (h : DBox w D f s l st v) (u : Value) : DBox (w.setCell ⟨D, 4, none⟩ u) D f s l st u :=
  ⟨by simpa using h.lt, (World.cell?_setCell_other _ _ _ _ (ne_off (by decide))).trans h.c0, (World.cell?_setCell_other _ _ _ _ (ne_off (by decide))).trans h.c1, (World.cell?_setCell_other _ _ _ _ (ne_off (by decide))).trans h.c2, (World.cell?_setCell_other _ _ _ _ (ne_off (by decide))).trans h.c3, World.cell?_setCell_same _ _ _ h.c4, fun j => (World.frozen?_setCell _ _ _ _).trans (h.fr j)⟩
theorem rcells_snoc (l : List Rate) (r : Rate) : ((l ++ [r]).map Rate.cells).flatten = (l.map Rate.cells).flatten ++ Rate.cells r := by simp
def RatesIn (l : List Rate) : Prop := ∀ r ∈ l, r.p.length ≤ 100 ∧ -2000000000000 ≤ r.price ∧ r.price ≤ 2000000000000
theorem rates_snoc {l : List Rate} {r : Rate} (h : RatesIn l) (h1 : r.p.length ≤ 100) (h2 : -2000000000000 ≤ r.price) (h3 : r.price ≤ 2000000000000) : RatesIn (l ++ [r]) := fun x hx => by
  rcases List.mem_append.1 hx with hx | hx
  · exact h x hx
  · rw [List.mem_singleton.1 hx]; exact ⟨h1, h2, h3⟩
theorem Tryz.infoRate : (Tryz.prog.info? 120).map (fun i => (i.zero, i.size, i.bytes)) = some (some (.agg #[.string ⟨#[]⟩, .int .i64 0, .bool false]), 3, 32) := by kernel_rfl
theorem Tryz.deckSize : (Tryz.prog.info? 63).map (·.size) = some 5 := by kernel_rfl
/-- What a right deck of a stream comes to. -/
def RDeckPost (S k : Nat) (w : World) (e : Ending) (w' : World) : Prop :=
  ∃ d : Deck, e = .returned (.agg d.cells.toArray) ∧ DeckOwn w.heap.size w' d ∧ d.rates.length ≤ 13 ∧ StreamOk w' S k ∧ Keeps S w w'
theorem bs_r1 (e : Operand → Value) (o : Oper) (w : World) (i0 : Nat) (p : ByteArray) (z : Int) (b : Bool) (ho : o.op = .buildSlice 61 1 #[(0, .tmp i0)]) (h0 : e (.tmp i0) = .agg #[.string p, .int .i64 z, .bool b]) :
   (execOp e o).run Tryz.prog w = .ok (.value (.slice (some ⟨w.heap.size, 0, none⟩) 1 1)) (w.alloc (.cells #[.string p, .int .i64 z, .bool b] 120)) := by
  unfold execOp
  rw [ho]
  simp only [List.map_toArray, List.map_cons, List.map_nil, h0]
  kernel_rfl
theorem bs_i4 (e : Operand → Value) (he : ∀ v, e (.const v) = v) (o : Oper) (w : World) (z0 z1 z2 z3 : Int) (ho : o.op = .buildSlice 22 4 #[(0, .const (.int .i64 z0)), (1, .const (.int .i64 z1)), (2, .const (.int .i64 z2)), (3, .const (.int .i64 z3))]) :
   (execOp e o).run Tryz.prog w = .ok (.value (.slice (some ⟨w.heap.size, 0, none⟩) 4 4)) (w.alloc (.cells #[.int .i64 z0, .int .i64 z1, .int .i64 z2, .int .i64 z3] 3)) := by
  unfold execOp
  rw [ho]
  simp only [List.map_toArray, List.map_cons, List.map_nil, he]
  kernel_rfl
theorem bs_i3 (e : Operand → Value) (he : ∀ v, e (.const v) = v) (o : Oper) (w : World) (z0 z1 z2 : Int) (ho : o.op = .buildSlice 22 3 #[(0, .const (.int .i64 z0)), (1, .const (.int .i64 z1)), (2, .const (.int .i64 z2))]) :
   (execOp e o).run Tryz.prog w = .ok (.value (.slice (some ⟨w.heap.size, 0, none⟩) 3 3)) (w.alloc (.cells #[.int .i64 z0, .int .i64 z1, .int .i64 z2] 3)) := by
  unfold execOp
  rw [ho]
  simp only [List.map_toArray, List.map_cons, List.map_nil, he]
  kernel_rfl
theorem bs_i5 (e : Operand → Value) (he : ∀ v, e (.const v) = v) (o : Oper) (w : World) (z0 z1 z2 z3 z4 : Int) (ho : o.op = .buildSlice 22 5 #[(0, .const (.int .i64 z0)), (1, .const (.int .i64 z1)), (2, .const (.int .i64 z2)), (3, .const (.int .i64 z3)), (4, .const (.int .i64 z4))]) :
   (execOp e o).run Tryz.prog w = .ok (.value (.slice (some ⟨w.heap.size, 0, none⟩) 5 5)) (w.alloc (.cells #[.int .i64 z0, .int .i64 z1, .int .i64 z2, .int .i64 z3, .int .i64 z4] 3)) := by
  unfold execOp
  rw [ho]
  simp only [List.map_toArray, List.map_cons, List.map_nil, he]
  kernel_rfl
theorem bs_i2 (e : Operand → Value) (he : ∀ v, e (.const v) = v) (o : Oper) (w : World) (z0 z1 : Int) (ho : o.op = .buildSlice 22 2 #[(0, .const (.int .i64 z0)), (1, .const (.int .i64 z1))]) :
   (execOp e o).run Tryz.prog w = .ok (.value (.slice (some ⟨w.heap.size, 0, none⟩) 2 2)) (w.alloc (.cells #[.int .i64 z0, .int .i64 z1] 3)) := by
  unfold execOp
  rw [ho]
  simp only [List.map_toArray, List.map_cons, List.map_nil, he]
  kernel_rfl
theorem bs_s13 (e : Operand → Value) (he : ∀ v, e (.const v) = v) (o : Oper) (w : World)  (p0 p1 p2 p3 p4 p5 p6 p7 p8 p9 p10 p11 p12 : ByteArray) (ho : o.op = .buildSlice 121 13 #[(0, .const (.string p0)), (1, .const (.string p1)), (2, .const (.string p2)), (3, .const (.string p3)), (4, .const (.string p4)), (5, .const (.string p5)), (6, .const (.string p6)), (7, .const (.string p7)), (8, .const (.string p8)), (9, .const (.string p9)), (10, .const (.string p10)), (11, .const (.string p11)), (12, .const (.string p12))])  :
   (execOp e o).run Tryz.prog w = .ok (.value (.slice (some ⟨w.heap.size, 0, none⟩) 13 13)) (w.alloc (.cells #[.string p0, .string p1, .string p2, .string p3, .string p4, .string p5, .string p6, .string p7, .string p8, .string p9, .string p10, .string p11, .string p12] 9)) := by
  unfold execOp
  rw [ho]
  simp only [List.map_toArray, List.map_cons, List.map_nil, he]
  kernel_rfl
theorem bs_s12 (e : Operand → Value) (he : ∀ v, e (.const v) = v) (o : Oper) (w : World)  (p0 p1 p2 p3 p4 p5 p6 p7 p8 p9 p10 p11 : ByteArray) (ho : o.op = .buildSlice 121 12 #[(0, .const (.string p0)), (1, .const (.string p1)), (2, .const (.string p2)), (3, .const (.string p3)), (4, .const (.string p4)), (5, .const (.string p5)), (6, .const (.string p6)), (7, .const (.string p7)), (8, .const (.string p8)), (9, .const (.string p9)), (10, .const (.string p10)), (11, .const (.string p11))])  :
   (execOp e o).run Tryz.prog w = .ok (.value (.slice (some ⟨w.heap.size, 0, none⟩) 12 12)) (w.alloc (.cells #[.string p0, .string p1, .string p2, .string p3, .string p4, .string p5, .string p6, .string p7, .string p8, .string p9, .string p10, .string p11] 9)) := by
  unfold execOp
  rw [ho]
  simp only [List.map_toArray, List.map_cons, List.map_nil, he]
  kernel_rfl
theorem bs_s5r (e : Operand → Value) (he : ∀ v, e (.const v) = v) (o : Oper) (w : World) (i4 : Nat) (p0 p1 p2 p3 p4 : ByteArray) (ho : o.op = .buildSlice 121 5 #[(0, .const (.string p0)), (1, .const (.string p1)), (2, .const (.string p2)), (3, .const (.string p3)), (4, .tmp i4)]) (h4 : e (.tmp i4) = .string p4) :
   (execOp e o).run Tryz.prog w = .ok (.value (.slice (some ⟨w.heap.size, 0, none⟩) 5 5)) (w.alloc (.cells #[.string p0, .string p1, .string p2, .string p3, .string p4] 9)) := by
  unfold execOp
  rw [ho]
  simp only [List.map_toArray, List.map_cons, List.map_nil, he, h4]
  kernel_rfl
end Go.Proofs.YtppinnjdaoaddaaGreatDoor

set_option linter.unusedVariables false
set_option linter.unusedSimpArgs false
namespace Go.Proofs.YtppinnjdaoaddaaGreatDoor
open Go.RowKit

theorem in_any (n lo hi : Int) (w : World) : Calls Tryz.prog 56 #[.int .i64 n, .int .i64 lo, .int .i64 hi] w fun e w' => e = .returned (.bool (decide (lo ≤ n) && decide (n ≤ hi))) ∧ w = w' := by
  by_cases h1 : lo ≤ n
  · go_enter Tryz.func56, Tryz.ntmps56
    go_wp2
    go_ret
    exact ⟨by rw [decide_eq_true h1]; rfl, rfl⟩
  · go_enter Tryz.func56, Tryz.ntmps56
    go_wp2
    go_ret
    exact ⟨by rw [decide_eq_false (show ¬ lo ≤ n by omega)]; rfl, rfl⟩

theorem digital_l (s : List UInt8) (lo hi : Int) (w : World) (hs : s.length ≤ 1000000) : Calls Tryz.prog 94 #[.string ⟨s.toArray⟩, .int .i64 lo, .int .i64 hi] w fun e w' => e = .returned (.bool (digitsB s lo hi)) ∧ Below w.heap.size w w' := by
  have hcon := trim_digits ⟨s.toArray⟩
  have hd : Hid (digitsB s lo hi = ((decide (lo ≤ (s.length : Int)) && decide ((s.length : Int) ≤ hi)) && (Lib.trimS s digitSet).isEmpty)) := by show _ = _; rw [Bool.and_assoc]; rfl
  have hcon : ∀ w, Calls Tryz.prog 92 #[.string ⟨s.toArray⟩, .string ⟨#[48, 49, 50, 51, 52, 53, 54, 55, 56, 57]⟩] w fun e w' => e = .returned (.string ⟨(Lib.trimS s digitSet).toArray⟩) ∧ Below w.heap.size w w' := fun w => hcon w (by show s.length ≤ _; omega)
  generalize Lib.trimS s digitSet = r at hcon hd
  generalize hg : (decide (lo ≤ (s.length : Int)) && decide ((s.length : Int) ≤ hi)) = g at hd
  have HG := Lib.hid hg
  have HCON := Lib.hid hcon
  clear hg hcon
  go_enter Tryz.func94, Tryz.ntmps94
  go_wp2_with fail
  refine (in_any _ lo hi _).mono ?_
  rintro e w1 ⟨rfl, rfl⟩
  rw [HG.out]
  cases g
  · go_wp2_with fail
    go_ret
    exact ⟨by rw [hd.out]; rfl, Below.refl _ _⟩
  · go_wp2_with fail
    refine (HCON.out _).mono ?_
    rintro e w2 ⟨rfl, hb⟩
    go_wp2_with fail
    go_ret
    exact ⟨by rw [hd.out]; cases r <;> rfl, hb⟩

theorem isNumB_eq (s : List UInt8) : isNumB s = (Lib.hasPrefix s [43] && (digitsB (s.drop 1) 4 15 && ((s.drop 1).headD 0 != 48))) := by
  unfold isNumB Lib.trimPrefix
  cases h : Lib.hasPrefix s [43] with
  | false => rfl
  | true => rfl

theorem form_l (s : List UInt8) (w : World) (hs : s.length ≤ 1000) : Calls Tryz.prog 77 #[.string ⟨s.toArray⟩] w fun e w' => e = .returned (.bool (isNumB s)) ∧ Below w.heap.size w w' := by
  have HD := Lib.hid (isNumB_eq s)
  have HPL : Hid (Lib.hasPrefix s [43] = true → 1 ≤ s.length) := fun h => pre_len h
  have HDL : Hid (digitsB (s.drop 1) 4 15 = true → ∃ c d, s.drop 1 = c :: d) := fun h => by
    unfold digitsB at h
    simp only [Bool.and_eq_true, decide_eq_true_eq] at h
    cases h9 : s.drop 1 with
    | nil => rw [h9] at h; simp at h
    | cons c d => exact ⟨c, d, rfl⟩
  have hcon := fun w => hasPrefix_l s [43] w
  generalize Lib.hasPrefix s [43] = g at HD HPL hcon
  have hcon2 := fun w => digital_l (s.drop 1) 4 15 w (by rw [List.length_drop]; omega)
  generalize hg2 : digitsB (s.drop 1) 4 15 = g2 at HD HDL hcon2
  generalize isNumB s = R at HD ⊢
  go_enter Tryz.func77, Tryz.ntmps77
  go_wp2_with fail
  refine (hcon _).mono ?_
  rintro e w1 ⟨rfl, rfl⟩
  cases g
  · have HF : Hid (R = false) := HD.out
    go_wp2_with fail
    go_ret
    exact ⟨by rw [HF.out]; rfl, Below.refl _ _⟩
  · have h1 := HPL.out rfl
    go_wp2_with fail
    rw [extract_drop]
    refine (hcon2 _).mono ?_
    rintro e w2 ⟨rfl, hb⟩
    have HB := Lib.hid hb
    clear hb
    cases g2
    · have HF : Hid (R = false) := HD.out
      go_wp2_with fail
      go_ret
      exact ⟨by rw [HF.out]; rfl, HB.out⟩
    · obtain ⟨c, d, hcd⟩ := HDL.out rfl
      have HF : Hid (R = (c != 48)) := by show _ = _; rw [HD.out, hcd]; rfl
      obtain ⟨x, rfl⟩ : ∃ x, s = x :: c :: d := by
        cases s with
        | nil => cases hcd
        | cons x t => exact ⟨x, by simpa using hcd⟩
      clear hcd HD hcon hcon2 hg2 HDL HPL
      go_wp2_with fail
      go_ret
      exact ⟨by rw [HF.out, ← byte_bne48]; rfl, HB.out⟩

end Go.Proofs.YtppinnjdaoaddaaGreatDoor

set_option linter.unusedVariables false
set_option linter.unusedSimpArgs false
namespace Go.Proofs.YtppinnjdaoaddaaGreatDoor
open Go.RowKit

def firstE (a b : Int) : Int := if a ≠ 0 then a else b
set_option maxRecDepth 100000 in
theorem or_any (a b : Int) (B : Nat) (w : World) (hB : B < w.heap.size) (h0 : w.cell? ⟨B, 0, none⟩ = some (.int .i64 a)) (h1 : w.cell? ⟨B, 1, none⟩ = some (.int .i64 b)) : Calls Tryz.prog 14 #[.slice (some ⟨B, 0, none⟩) 2 2] w fun r w' => r = .returned (.int .i64 (firstE a b)) ∧ w = w' := by
  by_cases ha : a = 0
  · subst ha
    by_cases hb : b = 0
    · subst hb
      go_enter Tryz.func14, Tryz.ntmps14
      go_wp2_with fail
      go_loopw [8] (fun i wr => ∃ k : Nat, k ≤ 2 ∧ i = .int .i64 k ∧ wr = w) (fun i _ => 2 - (intOf i).toNat)
      case atStart => exact ⟨0, by omega, rfl, rfl⟩
      case round =>
        obtain ⟨k, hk, rfl, rfl⟩ := hrel
        have hkc : k = 0 ∨ k = 1 ∨ k = 2 := by omega
        rcases hkc with rfl | rfl | rfl
        · go_wp2_with fail
          go_roundw
          case rel => exact ⟨1, by omega, by go_num, trivial⟩
          case measure => simp [intOf]
        · go_wp2_with fail
          go_roundw
          case rel => exact ⟨2, by omega, by go_num, trivial⟩
          case measure => simp [intOf]
        · go_wp2_with fail
          go_ret
          exact ⟨rfl, rfl⟩
    · have hbb : (b == 0) = false := by simpa using hb
      go_enter Tryz.func14, Tryz.ntmps14
      go_wp2_with fail
      go_loopw [8] (fun i wr => ∃ k : Nat, k ≤ 1 ∧ i = .int .i64 k ∧ wr = w) (fun i _ => 2 - (intOf i).toNat)
      case atStart => exact ⟨0, by omega, rfl, rfl⟩
      case round =>
        obtain ⟨k, hk, rfl, rfl⟩ := hrel
        have hkc : k = 0 ∨ k = 1 := by omega
        rcases hkc with rfl | rfl
        · go_wp2_with fail
          go_roundw
          case rel => exact ⟨1, by omega, by go_num, trivial⟩
          case measure => simp [intOf]
        · go_wp2_with fail
          go_ret
          exact ⟨rfl, rfl⟩
  · have hab : (a == 0) = false := by simpa using ha
    have HF : Hid (firstE a b = a) := by show _ = _; unfold firstE; rw [if_pos ha]
    go_enter Tryz.func14, Tryz.ntmps14
    go_wp2_with fail
    go_loopw [8] (fun i wr => i = .int .i64 0 ∧ wr = w) (fun i _ => 0)
    case atStart => exact ⟨rfl, rfl⟩
    case round =>
      obtain ⟨rfl, rfl⟩ := hrel
      go_wp2_with fail
      go_ret
      exact ⟨by rw [HF.out]; rfl, rfl⟩

end Go.Proofs.YtppinnjdaoaddaaGreatDoor

set_option linter.unusedVariables false
set_option linter.unusedSimpArgs false
namespace Go.Proofs.YtppinnjdaoaddaaGreatDoor
open Go.RowKit

def PartsPost (x : Spl) (w : World) (e : Ending) (w' : World) : Prop := e = .returned (.tuple #[.agg #[.string ⟨x.code.toArray⟩, .string ⟨x.area.toArray⟩, .string ⟨x.rest.toArray⟩], .int .i64 x.err]) ∧ Below w.heap.size w w'
theorem row3 (w : World) (B : Nat) (v0 v1 v2 : Value) : ((w.setCell ⟨B, 0, none⟩ v0).setCell ⟨B, 1, none⟩ v1).setCell ⟨B, 2, none⟩ v2 = w.setCells B 0 [v0, v1, v2] := rfl
theorem there3 {w : World} {B : Nat} {v0 v1 v2 : Value} (h0 : w.cell? ⟨B, 0, none⟩ = some v0) (h1 : w.cell? ⟨B, 1, none⟩ = some v1) (h2 : w.cell? ⟨B, 2, none⟩ = some v2) (hf : ∀ j, w.frozen? ⟨B, j, none⟩ = false) : w.there B 0 3 := fun j hj => by
  match j, hj with
  | 0, _ => exact ⟨by rw [h0]; rfl, hf _⟩
  | 1, _ => exact ⟨by rw [h1]; rfl, hf _⟩
  | 2, _ => exact ⟨by rw [h2]; rfl, hf _⟩

end Go.Proofs.YtppinnjdaoaddaaGreatDoor

set_option linter.unusedVariables false
set_option linter.unusedSimpArgs false
namespace Go.Proofs.YtppinnjdaoaddaaGreatDoor
open Go.RowKit

def r0S : List UInt8 := [43, 49, 48, 48, 48]
def r1S : List UInt8 := [43, 49, 48, 48, 57]
end Go.Proofs.YtppinnjdaoaddaaGreatDoor

set_option linter.unusedVariables false
set_option linter.unusedSimpArgs false
namespace Go.Proofs.YtppinnjdaoaddaaGreatDoor
open Go.RowKit

set_option maxRecDepth 100000 in
theorem orI_any (a b : Int) (B : Nat) (w : World) (hB : B < w.heap.size) (h0 : w.cell? ⟨B, 0, none⟩ = some (.int .i64 a)) (h1 : w.cell? ⟨B, 1, none⟩ = some (.int .i64 b)) : Calls Tryz.prog 81 #[.slice (some ⟨B, 0, none⟩) 2 2] w fun r w' => r = .returned (.int .i64 (firstE a b)) ∧ w = w' := by
  by_cases ha : a = 0
  · subst ha
    by_cases hb : b = 0
    · subst hb
      go_enter Tryz.func81, Tryz.ntmps81
      go_wp2_with fail
      go_loopw [8] (fun i wr => ∃ k : Nat, k ≤ 2 ∧ i = .int .i64 k ∧ wr = w) (fun i _ => 2 - (intOf i).toNat)
      case atStart => exact ⟨0, by omega, rfl, rfl⟩
      case round =>
        obtain ⟨k, hk, rfl, rfl⟩ := hrel
        have hkc : k = 0 ∨ k = 1 ∨ k = 2 := by omega
        rcases hkc with rfl | rfl | rfl
        · go_wp2_with fail
          go_roundw
          case rel => exact ⟨1, by omega, by go_num, trivial⟩
          case measure => simp [intOf]
        · go_wp2_with fail
          go_roundw
          case rel => exact ⟨2, by omega, by go_num, trivial⟩
          case measure => simp [intOf]
        · go_wp2_with fail
          go_ret
          exact ⟨rfl, rfl⟩
    · have hbb : (b == 0) = false := by simpa using hb
      have HF : Hid (firstE 0 b = b) := by show _ = _; unfold firstE; rw [if_neg (by simp)]
      go_enter Tryz.func81, Tryz.ntmps81
      go_wp2_with fail
      go_loopw [8] (fun i wr => ∃ k : Nat, k ≤ 1 ∧ i = .int .i64 k ∧ wr = w) (fun i _ => 2 - (intOf i).toNat)
      case atStart => exact ⟨0, by omega, rfl, rfl⟩
      case round =>
        obtain ⟨k, hk, rfl, rfl⟩ := hrel
        have hkc : k = 0 ∨ k = 1 := by omega
        rcases hkc with rfl | rfl
        · go_wp2_with fail
          go_roundw
          case rel => exact ⟨1, by omega, by go_num, trivial⟩
          case measure => simp [intOf]
        · go_wp2_with fail
          go_ret
          exact ⟨by rw [HF.out]; rfl, rfl⟩
  · have hab : (a == 0) = false := by simpa using ha
    have HF : Hid (firstE a b = a) := by show _ = _; unfold firstE; rw [if_pos ha]
    go_enter Tryz.func81, Tryz.ntmps81
    go_wp2_with fail
    go_loopw [8] (fun i wr => i = .int .i64 0 ∧ wr = w) (fun i _ => 0)
    case atStart => exact ⟨rfl, rfl⟩
    case round =>
      obtain ⟨rfl, rfl⟩ := hrel
      go_wp2_with fail
      go_ret
      exact ⟨by rw [HF.out]; rfl, rfl⟩

/-- The sign says how two things stand. -/
def SignPost (lt eq : Prop) (w : World) (e : Ending) (w' : World) : Prop := ∃ r : Int, e = .returned (.int .i64 r) ∧ (r < 0 ↔ lt) ∧ (r = 0 ↔ eq) ∧ w' = w
theorem cmpI_any (x y : Int) (w : World) : Calls Tryz.prog 82 #[.int .i64 x, .int .i64 y] w (SignPost (x < y) (x = y) w) := by
  refine (Tryz.cmp_Compare x y w).mono ?_
  rintro e w' ⟨rfl, rfl⟩
  refine ⟨_, rfl, ?_, ?_, rfl⟩ <;> unfold Lib.compareInt <;> split <;> first | omega | (split <;> omega)
theorem cmpB_any (x y : List UInt8) (w : World) : Calls Tryz.prog 83 #[.string ⟨x.toArray⟩, .string ⟨y.toArray⟩] w (SignPost (Op.bytesLess x y = true) (x = y) w) := by
  refine (Tryz.strings_Compare ⟨x.toArray⟩ ⟨y.toArray⟩ w).mono ?_
  rintro e w' ⟨rfl, rfl⟩
  exact ⟨_, rfl, cmp_neg x y, cmp_zero x y, rfl⟩
theorem less_asym {x y : List UInt8} (h : Op.bytesLess x y = true) : Op.bytesLess y x = false ∧ x ≠ y := by
  refine ⟨?_, ?_⟩
  · cases h2 : Op.bytesLess y x with
    | false => rfl
    | true => rw [← less_irrefl x, ← less_trans h h2]
  · rintro rfl
    rw [less_irrefl] at h
    cases h
theorem first_sign {a b : Int} {P Q R : Prop} (h1 : a < 0 ↔ P) (h2 : a = 0 ↔ Q) (h3 : b < 0 ↔ R) : firstE a b < 0 ↔ (P ∨ Q ∧ R) := by
  unfold firstE
  rw [← h1, ← h2, ← h3]
  split <;> omega

theorem idxS (n : Nat) (hn : n < 256) : Lib.indexByte [97, 98, 99, 100, 101, 102, 103, 104, 105, 106, 107, 108, 109, 110, 111, 112, 113, 114, 115, 116, 117, 118, 119, 120, 121, 122] ((n : Int).toNat.toUInt8) = if 97 ≤ n ∧ n ≤ 122 then ((n - 97 : Nat) : Int) else -1 := by
  have : ∀ i : Fin 256, Lib.indexByte [97, 98, 99, 100, 101, 102, 103, 104, 105, 106, 107, 108, 109, 110, 111, 112, 113, 114, 115, 116, 117, 118, 119, 120, 121, 122] ((i.val : Int).toNat.toUInt8) = if 97 ≤ i.val ∧ i.val ≤ 122 then ((i.val - 97 : Nat) : Int) else -1 := by decide +kernel
  exact this ⟨n, hn⟩
theorem smallS (n : Nat) (hn : n < 256) (w : World) : Calls Tryz.prog 93 #[.string ⟨#[97, 98, 99, 100, 101, 102, 103, 104, 105, 106, 107, 108, 109, 110, 111, 112, 113, 114, 115, 116, 117, 118, 119, 120, 121, 122]⟩, .int .u8 n] w fun e w' => e = .returned (.int .i64 (if 97 ≤ n ∧ n ≤ 122 then ((n - 97 : Nat) : Int) else -1)) ∧ w' = w := by
  rw [← idxS n hn]
  exact Tryz.strings_IndexByte _ _ w
set_option maxRecDepth 100000 in
theorem keyR_any (l : List UInt8) (w : World) (hs : l.length ≤ 1000000) : Calls Tryz.prog 55 #[.string ⟨l.toArray⟩] w fun e w' => e = .returned (.bool (isKeyB l)) ∧ Below w.heap.size w w' := by
  have hcon := fun w => trim_keys ⟨l.toArray⟩ w (by show l.length ≤ _; omega)
  have hd : Hid (isKeyB l = ((decide ((1 : Int) ≤ (l.length : Int)) && decide ((l.length : Int) ≤ 40)) && ((Lib.trimS l keySet).isEmpty && (decide (97 ≤ (l.headD 0).toNat) && decide ((l.headD 0).toNat ≤ 122))))) := by
    show isKeyB l = _
    have e : isKeyB l = (decide (1 ≤ l.length) && (decide (l.length ≤ 40) && (decide (97 ≤ (l.headD 0).toNat) && (decide ((l.headD 0).toNat ≤ 122) && (Lib.trimS l keySet).isEmpty)))) := rfl
    rw [e, show decide ((1 : Int) ≤ (l.length : Int)) = decide (1 ≤ l.length) from by congr 1; exact propext (by omega), show decide ((l.length : Int) ≤ 40) = decide (l.length ≤ 40) from by congr 1; exact propext (by omega)]
    cases (Lib.trimS l keySet).isEmpty <;> simp [Bool.and_assoc]
  have hcon : ∀ w, Calls Tryz.prog 92 #[.string ⟨l.toArray⟩, .string ⟨#[97, 98, 99, 100, 101, 102, 103, 104, 105, 106, 107, 108, 109, 110, 111, 112, 113, 114, 115, 116, 117, 118, 119, 120, 121, 122, 48, 49, 50, 51, 52, 53, 54, 55, 56, 57, 45, 95]⟩] w fun e w' => e = .returned (.string ⟨(Lib.trimS l keySet).toArray⟩) ∧ Below w.heap.size w w' := hcon
  have HCON := Lib.hid hcon
  have HNE : Hid ((decide ((1 : Int) ≤ (l.length : Int)) && decide ((l.length : Int) ≤ 40)) = true → 1 ≤ l.length) := fun h => by simp at h; omega
  clear hcon
  generalize Lib.trimS l keySet = r at HCON hd
  generalize hg : (decide ((1 : Int) ≤ (l.length : Int)) && decide ((l.length : Int) ≤ 40)) = g at hd HNE
  have HG := Lib.hid hg
  clear hg
  generalize isKeyB l = R at hd ⊢
  go_enter Tryz.func55, Tryz.ntmps55
  go_wp2_with fail
  refine (in_any _ 1 40 _).mono ?_
  rintro e w1 ⟨rfl, rfl⟩
  rw [HG.out]
  cases g
  · go_wp2_with fail
    go_ret
    exact ⟨by rw [hd.out]; rfl, Below.refl _ _⟩
  · obtain ⟨c, l', rfl⟩ : ∃ c l', l = c :: l' := by
      have := HNE.out rfl
      cases l with
      | nil => simp at this
      | cons c l' => exact ⟨c, l', rfl⟩
    clear HNE HG
    go_wp2_with fail
    refine (HCON.out _).mono ?_
    rintro e w2 ⟨rfl, hb2⟩
    have HB2 := Lib.hid hb2
    clear hb2 HCON
    cases r with
    | cons x r' =>
      go_wp2_with fail
      go_ret
      exact ⟨by rw [hd.out]; rfl, HB2.out⟩
    | nil =>
      have hc : c.toNat < 256 := UInt8.toNat_lt c
      have hd2 : Hid (R = (decide (97 ≤ c.toNat) && decide (c.toNat ≤ 122))) := by show _ = _; rw [hd.out]; rfl
      have HIX := Lib.hid (fun w => smallS c.toNat hc w)
      clear hd
      generalize hcn : c.toNat = n at hd2 HIX hc
      go_wp2_with fail
      rw [show ∀ h, ((⟨(c :: l').toArray⟩ : ByteArray)[0]'h).toNat = n from fun _ => hcn]
      refine (HIX.out _).mono ?_
      rintro e w3 ⟨rfl, rfl⟩
      by_cases hin : 97 ≤ n ∧ n ≤ 122
      · rw [if_pos hin]
        have hd3 : Hid (R = true) := by show _ = _; rw [hd2.out]; simp [hin.1, hin.2]
        clear hd2 HIX hcn
        go_wp2_with fail
        go_ret
        exact ⟨by rw [hd3.out]; rfl, HB2.out⟩
      · rw [if_neg hin]
        have hd3 : Hid (R = false) := by show _ = _; rw [hd2.out]; simp; omega
        clear hd2 HIX hcn hin
        go_wp2_with fail
        go_ret
        exact ⟨by rw [hd3.out]; rfl, HB2.out⟩
theorem formFault_any (l : List UInt8) (w : World) (hs : l.length ≤ 1000) : Calls Tryz.prog 35 #[.string ⟨l.toArray⟩] w (ErrPost (if isNumB l = true then 0 else 3) w) := by
  have HD := Lib.hid (fun W => form_l l W hs)
  generalize isNumB l = g at HD ⊢
  cases g <;>
  · go_enter Tryz.func35, Tryz.ntmps35
    go_wp2_with fail
    refine (HD.out _).mono ?_
    rintro e w1 ⟨rfl, hb1⟩
    have HB := Lib.hid hb1
    clear hb1
    go_wp2_with fail
    go_ret
    exact ⟨rfl, HB.out⟩
theorem momentFault_any (n : Int) (w : World) : Calls Tryz.prog 31 #[.int .i64 n] w (ErrPost (if isMomB n = true then 0 else 1) w) := by
  have HG : Hid ((decide (0 ≤ n) && decide (n ≤ 345686399999)) = isMomB n) := by
    show _ = _
    unfold isMomB
    congr 1
    congr 1
    exact propext (by omega)
  generalize isMomB n = g at HG ⊢
  cases g <;>
  · go_enter Tryz.func31, Tryz.ntmps31
    go_wp2_with fail
    refine (in_any _ 0 345686399999 _).mono ?_
    rintro e w1 ⟨rfl, rfl⟩
    rw [HG.out]
    go_wp2_with fail
    go_ret
    exact ⟨rfl, Below.refl _ _⟩
end Go.Proofs.YtppinnjdaoaddaaGreatDoor

set_option linter.unusedVariables false
set_option linter.unusedSimpArgs false
namespace Go.Proofs.YtppinnjdaoaddaaGreatDoor
open Go.RowKit

theorem within_c (n lo hi : Int) (w : World) : Calls Tryz.prog 59 #[.int .i64 n, .int .i64 lo, .int .i64 hi] w fun e w' => e = .returned (.bool (inB n lo hi)) ∧ w = w' := by
  unfold inB
  by_cases h1 : lo ≤ n
  · go_enter Tryz.func59, Tryz.ntmps59
    go_wp2
    go_ret
    exact ⟨by rw [decide_eq_true h1]; rfl, rfl⟩
  · go_enter Tryz.func59, Tryz.ntmps59
    go_wp2
    go_ret
    exact ⟨by rw [decide_eq_false (show ¬ lo ≤ n by omega)]; rfl, rfl⟩
instance : Inhabited Carr := ⟨noCarr⟩
def idxC (l : List Carr) (key : List UInt8) : Int := Lib.idxBy (fun _ (y : Carr) => decide (y.key = key)) l default
theorem idxC_has (l : List Carr) (key : List UInt8) : decide (0 ≤ idxC l key) = hasC l key := Lib.idxBy_nonneg_iff (fun _ (y : Carr) => decide (y.key = key)) l default
theorem idxC_neg {l : List Carr} {key : List UInt8} : idxC l key < 0 ↔ hasC l key = false := by
  rw [← idxC_has]
  simp
theorem find_pred (key : List UInt8) (B : Nat) (w : World) (hB : B < w.heap.size) (c0 : w.cell? ⟨B, 0, none⟩ = some (.string ⟨key.toArray⟩)) :
    PredBelow Tryz.prog 96 #[.pointer (some ⟨B, 0, none⟩)] (fun x : Carr => .agg (Carr.cells x).toArray) (fun x => decide (x.key = key)) w := fun W x hb => by
  have k0 := (hb.cell (p := ⟨B, 0, none⟩) hB).trans c0
  have hBW : B < W.heap.size := Nat.lt_of_lt_of_le hB hb.size
  have hne : B ≠ W.heap.size := by omega
  obtain ⟨ky, ln, da, dn, dc, dk⟩ := x
  show Calls Tryz.prog 96 #[.agg #[.string ⟨ky.toArray⟩, .int .i64 ln, .slice da dn dc], .pointer (some ⟨B, 0, none⟩)] W _
  simp only
  have HB := Lib.hid hb
  clear hb c0 hB
  by_cases h : ky = key
  · subst h
    go_enter Tryz.func96, Tryz.ntmps96
    go_wp2_with fail
    go_ret
    exact ⟨by simp, by first | exact ext_alloc HB.out | exact HB.out | exact ext_drew (ext_alloc HB.out)⟩
  · go_enter Tryz.func96, Tryz.ntmps96
    go_wp2_with fail
    go_ret
    exact ⟨by simp [h], by first | exact ext_alloc HB.out | exact HB.out | exact ext_drew (ext_alloc HB.out)⟩
theorem pre48 (c : UInt8) (s : List UInt8) : Lib.hasPrefix (c :: s) [48] = (c == 48) := by
  by_cases h : c = 48
  · subst h; rfl
  · rw [beq_eq_false_iff_ne.2 h]
    have h2 : ((48 : UInt8) == c) = false := beq_eq_false_iff_ne.2 (Ne.symm h)
    show ((48 : UInt8) == c && List.isPrefixOf [] s) = false
    rw [h2]; rfl
theorem isPrefix_c (s : List UInt8) (w : World) (hs : s.length ≤ 1000000) : Calls Tryz.prog 99 #[.string ⟨s.toArray⟩] w fun e w' => e = .returned (.bool (preB s)) ∧ Below w.heap.size w w' := by
  have hcon := fun w => trim_digits ⟨s.toArray⟩ w (by show s.length ≤ _; omega)
  have hd : Hid (preB s = (decide ((s.length : Int) ≤ 15) && ((Lib.trimS s digitSet).isEmpty && !(Lib.hasPrefix s [48])))) := by
    show preB s = _
    have h0 : decide ((0 : Int) ≤ (s.length : Int)) = true := by simp
    unfold preB digitsB allIn
    rw [h0, Bool.true_and, Bool.and_assoc]
  have hcon : ∀ w, Calls Tryz.prog 92 #[.string ⟨s.toArray⟩, .string ⟨#[48, 49, 50, 51, 52, 53, 54, 55, 56, 57]⟩] w fun e w' => e = .returned (.string ⟨(Lib.trimS s digitSet).toArray⟩) ∧ Below w.heap.size w w' := hcon
  have HCON := Lib.hid hcon
  clear hcon
  generalize Lib.trimS s digitSet = r at HCON hd
  generalize preB s = R at hd ⊢
  by_cases hl : (s.length : Int) ≤ 15
  case neg =>
    have HF : Hid (R = false) := by show _ = _; rw [hd.out, decide_eq_false hl]; rfl
    clear hd
    go_enter Tryz.func99, Tryz.ntmps99
    go_wp2_with fail
    go_ret
    exact ⟨by rw [HF.out]; rfl, Below.refl _ _⟩
  rw [decide_eq_true hl, Bool.true_and] at hd
  cases r with
  | cons x r' =>
    have HF : Hid (R = false) := hd.out
    clear hd
    go_enter Tryz.func99, Tryz.ntmps99
    go_wp2_with (go_at_call 92; refine (HCON.out _).mono ?_; rintro e w2 ⟨rfl, hb2⟩)
    go_ret
    exact ⟨by rw [HF.out]; rfl, hb2⟩
  | nil =>
    cases s with
    | nil =>
      have HF : Hid (R = true) := hd.out
      clear hd
      go_enter Tryz.func99, Tryz.ntmps99
      go_wp2_with (go_at_call 92; refine (HCON.out _).mono ?_; rintro e w2 ⟨rfl, hb2⟩)
      go_ret
      exact ⟨by rw [HF.out]; rfl, hb2⟩
    | cons c l' =>
      have HF : Hid (R = (c != 48)) := by show _ = _; rw [hd.out, pre48]; rfl
      clear hd
      go_enter Tryz.func99, Tryz.ntmps99
      go_wp2_with (go_at_call 92; refine (HCON.out _).mono ?_; rintro e w2 ⟨rfl, hb2⟩)
      go_ret
      exact ⟨by rw [HF.out, ← byte_bne48]; rfl, hb2⟩
theorem cat_pred (key : List UInt8) (B : Nat) (w : World) (hB : B < w.heap.size) (c0 : w.cell? ⟨B, 0, none⟩ = some (.string ⟨key.toArray⟩)) :
    PredBelow Tryz.prog 73 #[.pointer (some ⟨B, 0, none⟩)] (fun x : Carr => .agg (Carr.cells x).toArray) (fun x => decide (x.key = key)) w := fun W x hb => by
  have k0 := (hb.cell (p := ⟨B, 0, none⟩) hB).trans c0
  have hBW : B < W.heap.size := Nat.lt_of_lt_of_le hB hb.size
  have hne : B ≠ W.heap.size := by omega
  obtain ⟨ky, ln, da, dn, dc, dk⟩ := x
  show Calls Tryz.prog 73 #[.agg #[.string ⟨ky.toArray⟩, .int .i64 ln, .slice da dn dc], .pointer (some ⟨B, 0, none⟩)] W _
  simp only
  have HB := Lib.hid hb
  clear hb c0 hB
  by_cases h : ky = key
  · subst h
    go_enter Tryz.func73, Tryz.ntmps73
    go_wp2_with fail
    go_ret
    exact ⟨by simp, by first | exact ext_alloc HB.out | exact HB.out | exact ext_drew (ext_alloc HB.out)⟩
  · go_enter Tryz.func73, Tryz.ntmps73
    go_wp2_with fail
    go_ret
    exact ⟨by simp [h], by first | exact ext_alloc HB.out | exact HB.out | exact ext_drew (ext_alloc HB.out)⟩
theorem idx_nil (a : Option Addr) (c : Nat) (fv : Value) (w : World) : Calls Tryz.prog 72 #[.slice a 0 c, fv] w fun e w' => e = .returned (.int .i64 (-1)) ∧ w = w' := by
  go_enter Tryz.func72, Tryz.ntmps72
  go_wp2_with fail
  go_loopw [8] (fun i wr => i = .int .i64 0 ∧ wr = w) (fun i _ => 0)
  case atStart => exact ⟨rfl, rfl⟩
  case round =>
    obtain ⟨rfl, rfl⟩ := hrel
    go_wp2_with fail
    go_ret
    exact ⟨rfl, rfl⟩
/-- Where a carrier is, by the number of the closure. -/
theorem idx_any (g : Nat) (eg : ∀ args w, (callFunc g args).run Tryz.prog w = .ok (.enter g args) w) (w : World) (a : Option Addr) (n cap : Nat) (l : List Carr) (hl : CarrRow w a n l) (key : List UInt8) (B : Nat)
    (hp : PredBelow Tryz.prog g #[.pointer (some ⟨B, 0, none⟩)] (fun x : Carr => .agg (Carr.cells x).toArray) (fun x => decide (x.key = key)) w) :
    Calls Tryz.prog 72 #[.slice a n cap, .func (.func g) #[] #[.pointer (some ⟨B, 0, none⟩)]] w fun e w' => e = .returned (.int .i64 (idxC l key)) ∧ Below w.heap.size w w' := by
  have hlen := hl.len
  have hfew := hl.few
  by_cases h0 : n = 0
  · subst h0
    obtain rfl : l = [] := List.length_eq_zero_iff.1 hlen.symm
    refine (idx_nil a cap _ w).mono ?_
    rintro e w' ⟨rfl, rfl⟩
    exact ⟨rfl, Below.refl _ _⟩
  · rcases hl.cells.row with h1 | ⟨b, off, rfl, hb, hc⟩
    · exact absurd h1 h0
    have ht : l.take n = l := by rw [hlen, List.take_length]
    have := Tryz.slices_idxK Carr.cells (fun _ => rfl) (fun x => decide (x.key = key)) g #[.pointer (some ⟨B, 0, none⟩)] eg b off n cap l w hp (by omega) (by omega) hb (fun j hj i v hv => by
      rw [getElem!_pos l j hj] at hv
      have hi : i < 3 := by
        rcases Nat.lt_or_ge i 3 with h | h
        · exact h
        · rw [List.getElem?_eq_none (by show 3 ≤ i; exact h)] at hv; cases hv
      rw [hc j (by omega) i hi, getD_map Carr.cells l j noCarr [] hj, List.getD_eq_getElem?_getD, List.getElem?_eq_getElem hj]
      exact hv)
    rw [ht] at this
    exact this
set_option maxRecDepth 100000 in
theorem find_any (w : World) (a : Option Addr) (n cap : Nat) (l : List Carr) (hl : CarrRow w a n l) (key : List UInt8) :
    Calls Tryz.prog 58 #[.slice a n cap, .string ⟨key.toArray⟩] w fun e w' => e = .returned (.int .i64 (idxC l key)) ∧ Below w.heap.size w w' := by
  have HI := Lib.hid (idx_any 96 (by intro args w; rfl) (w.alloc (.cells #[.string ⟨key.toArray⟩] 9)) a n cap l (hl.below (ext_alloc (Below.refl _ _))) key w.heap.size (find_pred key w.heap.size _ (by simp) (by go_simp)))
  clear hl
  go_enter Tryz.func58, Tryz.ntmps58
  go_wp2_with fail
  refine HI.out.mono ?_
  rintro e w1 ⟨rfl, hb1⟩
  have HB : Hid (Below w.heap.size w w1) := (ext_alloc (Below.refl _ _)).trans (hb1.mono (by simp))
  clear hb1 HI
  go_wp2_with fail
  go_ret
  exact ⟨rfl, HB.out⟩
set_option maxRecDepth 100000 in
theorem carrAt_any (w : World) (a : Option Addr) (n cap : Nat) (l : List Carr) (hl : CarrRow w a n l) (key : List UInt8) :
    Calls Tryz.prog 30 #[.slice a n cap, .string ⟨key.toArray⟩] w fun e w' => e = .returned (.int .i64 (idxC l key)) ∧ Below w.heap.size w w' := by
  have HI := Lib.hid (idx_any 73 (by intro args w; rfl) (w.alloc (.cells #[.string ⟨key.toArray⟩] 9)) a n cap l (hl.below (ext_alloc (Below.refl _ _))) key w.heap.size (cat_pred key w.heap.size _ (by simp) (by go_simp)))
  clear hl
  go_enter Tryz.func30, Tryz.ntmps30
  go_wp2_with fail
  refine HI.out.mono ?_
  rintro e w1 ⟨rfl, hb1⟩
  have HB : Hid (Below w.heap.size w w1) := (ext_alloc (Below.refl _ _)).trans (hb1.mono (by simp))
  clear hb1 HI
  go_wp2_with fail
  go_ret
  exact ⟨rfl, HB.out⟩
theorem in_same (n lo hi : Int) (w : World) : Calls Tryz.prog 56 #[.int .i64 n, .int .i64 lo, .int .i64 hi] w fun e w' => e = .returned (.bool (inB n lo hi)) ∧ w = w' := in_any n lo hi w
theorem momF_same (n : Int) (w : World) : Calls Tryz.prog 31 #[.int .i64 n] w fun e w' => e = .returned (.int .i64 (if isMomB n = true then 0 else 1)) ∧ w = w' := by
  have HG : Hid ((decide (0 ≤ n) && decide (n ≤ 345686399999)) = isMomB n) := by
    show _ = _
    unfold isMomB
    congr 1
    congr 1
    exact propext (by omega)
  generalize isMomB n = g at HG ⊢
  cases g <;>
  · go_enter Tryz.func31, Tryz.ntmps31
    go_wp2_with fail
    refine (in_any _ 0 345686399999 _).mono ?_
    rintro e w1 ⟨rfl, rfl⟩
    rw [HG.out]
    go_wp2_with fail
    go_ret
    exact ⟨rfl, rfl⟩
theorem winF_any (f t : Int) (w : World) : Calls Tryz.prog 64 #[.agg #[.int .i64 f, .int .i64 t]] w (ErrPost (winErr f t) w) := by
  have HD : Hid (winErr f t = if inB f 0 t = true then (if t ≤ 345686400000 then 0 else 1) else 1) := by
    show _ = _
    unfold winErr inB
    by_cases h1 : 0 ≤ f
    · by_cases h2 : f ≤ t
      · by_cases h3 : t ≤ 345686400000 <;> simp [h1, h2, h3]
      · simp [h2]
    · simp [h1]
  generalize winErr f t = R at HD ⊢
  by_cases h3 : t ≤ 345686400000
  · have h3' : ¬ (345686400000 : Int) < t := by omega
    go_enter Tryz.func64, Tryz.ntmps64
    go_wp2_with fail
    refine (in_same f 0 t _).mono ?_
    rintro e w1 ⟨rfl, rfl⟩
    generalize inB f 0 t = g at HD ⊢
    cases g
    · obtain rfl : R = 1 := HD.out
      go_wp2_with fail
      go_ret
      exact ⟨rfl, ext_alloc (Below.refl _ _)⟩
    · obtain rfl : R = 0 := by rw [HD.out, if_pos rfl, if_pos h3]
      go_wp2_with fail
      go_ret
      exact ⟨rfl, ext_alloc (Below.refl _ _)⟩
  · have h3' : (345686400000 : Int) < t := by omega
    obtain rfl : R = 1 := by rw [HD.out, if_neg h3]; split <;> rfl
    go_enter Tryz.func64, Tryz.ntmps64
    go_wp2_with fail
    refine (in_same f 0 t _).mono ?_
    rintro e w1 ⟨rfl, rfl⟩
    clear HD
    generalize inB f 0 t = g
    cases g
    · go_wp2_with fail
      go_ret
      exact ⟨rfl, ext_alloc (Below.refl _ _)⟩
    · go_wp2_with fail
      go_ret
      exact ⟨rfl, ext_alloc (Below.refl _ _)⟩
end Go.Proofs.YtppinnjdaoaddaaGreatDoor

set_option linter.unusedVariables false
set_option linter.unusedSimpArgs false
namespace Go.Proofs.YtppinnjdaoaddaaGreatDoor
open Go.RowKit

theorem deck_cases (d : Deck) (h : d.rates.length ≤ 5000) : (deckNum d = false → deckErr d = 1) ∧ (deckNum d = true →
    (∀ k, k < d.rates.length → (∀ j, j < k → rateErr d.rates j = 0) → rateErr d.rates k ≠ 0 → deckErr d = rateErr d.rates k) ∧ ((∀ j, j < d.rates.length → rateErr d.rates j = 0) → deckErr d = 0)) := by
  unfold deckErr
  refine ⟨fun h1 => by rw [if_pos h1], fun h1 => ⟨fun k k1 k2 k3 => ?_, fun k1 => ?_⟩⟩
  · rw [if_neg (by rw [h1]; decide), if_neg (by omega), first_some k2 k1 k3]
  · rw [if_neg (by rw [h1]; decide), if_neg (by omega), first_none k1]
theorem carrs_cases (l : List Carr) (h : l.length ≤ 50) :
    (∀ k, k < l.length → (∀ j, j < k → carrErr l j = 0) → carrErr l k ≠ 0 → carrsErr l = carrErr l k) ∧ ((∀ j, j < l.length → carrErr l j = 0) → carrsErr l = 0) := by
  unfold carrsErr
  refine ⟨fun k k1 k2 k3 => ?_, fun k1 => ?_⟩
  · rw [if_neg (by omega), first_some k2 k1 k3]
  · rw [if_neg (by omega), first_none k1]
theorem shares_cases (l : List Carr) (s : List Shr) :
    (50 < s.length → sharesErr l s = 2) ∧ (s.length ≤ 50 →
    (∀ k, k < s.length → (∀ j, j < k → shareErr l s j = 0) → shareErr l s k ≠ 0 → sharesErr l s = shareErr l s k) ∧ ((∀ j, j < s.length → shareErr l s j = 0) → sharesErr l s = if partSum s s.length ≠ 1000 then 16 else 0)) := by
  unfold sharesErr
  refine ⟨fun h => by rw [if_pos h], fun h => ⟨fun k k1 k2 k3 => ?_, fun k1 => ?_⟩⟩
  · rw [if_neg (by omega), first_some k2 k1 k3, if_pos k3]
  · rw [if_neg (by omega), first_none k1, if_neg (by simp)]
theorem recs_cases (l : List Carr) (rs : List Rcd) (f t : Int) (h : rs.length ≤ 3000) :
    (∀ k, k < rs.length → (∀ j, j < k → recErr l rs j = 0) → recErr l rs k ≠ 0 → recsErr l rs f t = recErr l rs k) ∧ ((∀ j, j < rs.length → recErr l rs j = 0) → recsErr l rs f t = winErr f t) := by
  unfold recsErr
  refine ⟨fun k k1 k2 k3 => ?_, fun k1 => ?_⟩
  · rw [if_neg (by omega), first_some k2 k1 k3, if_pos k3]
  · rw [if_neg (by omega), first_none k1, if_neg (by simp)]
/-- Parts of the first shares are right, so is their sum. -/
theorem part_bound {l : List Carr} {s : List Shr} : ∀ k, (∀ j, j < k → shareErr l s j = 0) → 0 ≤ partSum s k ∧ partSum s k ≤ 1000 * k
  | 0, _ => by simp [partSum]
  | k + 1, h => by
    have h1 := part_bound k (fun j hj => h j (by omega))
    have h2 := h k (by omega)
    unfold shareErr at h2
    have h3 : inB (s.getD k noShr).part 1 1000 = true := by
      cases h9 : inB (s.getD k noShr).part 1 1000 with
      | true => rfl
      | false => exact absurd h2 (by rw [h9]; split; decide; split; decide; decide)
    unfold inB at h3
    simp only [Bool.and_eq_true, decide_eq_true_eq] at h3
    unfold partSum
    omega
/-- A share of right ones has a right part and a carrier that is there. -/
theorem share_zero {l : List Carr} {s : List Shr} {k : Nat} (h2 : shareErr l s k = 0) : hasC l (s.getD k noShr).c = true ∧ 1 ≤ (s.getD k noShr).part ∧ (s.getD k noShr).part ≤ 1000 := by
  unfold shareErr at h2
  have h4 : hasC l (s.getD k noShr).c = true := by
    cases h9 : hasC l (s.getD k noShr).c with
    | true => rfl
    | false => rw [h9] at h2; simp at h2
  have h3 : inB (s.getD k noShr).part 1 1000 = true := by
    cases h9 : inB (s.getD k noShr).part 1 1000 with
    | true => rfl
    | false => exact absurd h2 (by rw [h9]; split; decide; split; decide; decide)
  unfold inB at h3
  simp only [Bool.and_eq_true, decide_eq_true_eq] at h3
  exact ⟨h4, h3⟩
theorem carr_key {l : List Carr} {k : Nat} (h : carrErr l k = 0) : (l.getD k noCarr).key ≠ [] := by
  intro h9
  unfold carrErr at h
  rw [h9] at h
  have : isKeyB [] = false := rfl
  rw [this] at h
  simp at h
/-- Shares of right carriers name carriers with keys. -/
theorem shares_keys {l : List Carr} {s : List Shr} (hl : l.length ≤ 50) (h : carrsErr l = 0) (hs : sharesErr l s = 0) (hf : s.length ≤ 50) : ∀ i, i < s.length → (s.getD i noShr).c ≠ [] ∧ 1 ≤ (s.getD i noShr).part ∧ (s.getD i noShr).part ≤ 1000 := by
  have z1 : ∀ j, j < l.length → carrErr l j = 0 := first_zero (by unfold carrsErr at h; rw [if_neg (by omega)] at h; exact h)
  have z2 : ∀ j, j < s.length → shareErr l s j = 0 := first_zero (by
    unfold sharesErr at hs
    rw [if_neg (by omega)] at hs
    by_cases h0 : firstErr (shareErr l s) s.length = 0
    · exact h0
    · rw [if_pos h0] at hs; exact absurd hs h0)
  intro i hi
  obtain ⟨h1, h2⟩ := share_zero (z2 i hi)
  refine ⟨fun h9 => ?_, h2⟩
  rw [h9] at h1
  unfold hasC at h1
  rw [List.any_eq_true] at h1
  obtain ⟨x, hx, hx2⟩ := h1
  obtain ⟨j, hj, rfl⟩ := List.getElem_of_mem hx
  have := carr_key (z1 j hj)
  rw [List.getD_eq_getElem?_getD, List.getElem?_eq_getElem hj] at this
  exact this (of_decide_eq_true hx2)
end Go.Proofs.YtppinnjdaoaddaaGreatDoor
