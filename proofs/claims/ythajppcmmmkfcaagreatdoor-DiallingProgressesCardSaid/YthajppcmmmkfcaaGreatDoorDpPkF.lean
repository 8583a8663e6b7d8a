/- What is proved here: lemmas and contracts for the statement, put together out of smaller texts (ProgLaw, ProgRef, FormKeys, IntRows, FormBytes, WayOwn, ProgWalk, Reach, ReachRef, Groups, OpenWalk, FormWalk). No condition beyond those stated. -/
import Derived.Test.YthajppcmmmkfcaaGreatDoorDpPkE
import Derived.Test.YthajppcmmmkfcaaGreatDoorDpPkC
import Derived.Test.YthajppcmmmkfcaaGreatDoorShelf
import Derived.Test.YthajppcmmmkfcaaGreatDoorDpPkA
import Derived.Laws.AppendOwn
import Derived.Laws.BytesString
import Derived.Laws.IdiomStrings
import Derived.StillTailTactics
import Derived.Test.YthajppcmmmkfcaaGreatDoorDpPkD
set_option linter.unusedVariables false
set_option linter.unusedSimpArgs false
namespace Go.Proofs.YthajppcmmmkfcaaGreatDoor
open Go.RowKit

theorem goes_len {d first : List UInt8} {lo hi : Int} (h : goesP d first lo hi = true) (hlo : 0 ≤ lo) (h30 : d.length ≤ 30) : cmpS first d = true ∧ ∃ L : Nat, d.length < L ∧ first.length ≤ L ∧ L ≤ 30 ∧ (first.length : Int) + lo ≤ L ∧ (L : Int) ≤ first.length + hi := by
  unfold goesP at h
  rw [Bool.and_eq_true, decide_eq_true_eq] at h
  refine ⟨h.1, (max ((first.length : Int) + lo) ((d.length : Int) + 1)).toNat, ?_, ?_, ?_, ?_, ?_⟩ <;> omega
theorem len_goes {d first t : List UInt8} {lo hi : Int} (h1 : d <+: t) (h2 : first <+: t) (h3 : d.length < t.length) (h4 : t.length ≤ 30) (h5 : (first.length : Int) + lo ≤ t.length) (h6 : (t.length : Int) ≤ first.length + hi) : goesP d first lo hi = true := by
  unfold goesP
  rw [Bool.and_eq_true, decide_eq_true_eq]
  refine ⟨(cmp_iff _ _).2 ?_, by omega⟩
  exact List.prefix_or_prefix_of_prefix h1 h2

theorem home_areas {l : List Ctry} {c : Ctry} {area : List UInt8} (hE : planErr l = 0) (hH : HomeIn l c area) : ∀ z, z < c.areas.length → areaErr c z = 0 := by
  obtain ⟨k, hk, rfl⟩ := hH.here
  exact plan_area hE k hk
theorem home_digs {l : List Ctry} {c : Ctry} {area : List UInt8} (hE : planErr l = 0) (hH : HomeIn l c area) : digs c.abroad = true ∧ digs c.trunk = true ∧ 1 ≤ c.abroad.length := by
  obtain ⟨k, hk, rfl⟩ := hH.here
  obtain ⟨-, -, h1, h2, -⟩ := ctry_form (plan_ctry hE k hk)
  obtain ⟨a1, -, a3⟩ := (digitsB_iff _ _ _).1 h1
  exact ⟨a3, ((digitsB_iff _ _ _).1 h2).2.2, by omega⟩
/-- What is tried beyond a beginning: any digit does. -/
theorem base_any {l : List Ctry} {c : Ctry} {area : List UInt8} {d : List UInt8} (hE : planErr l = 0) (hH : HomeIn l c area) {first : List UInt8} {lo hi : Int} (hf : digs first = true) (hd : digs d = true) (hc : cmpS first d = true) {L : Nat} (x : Nat) (hx : x < 10) (l1 : first.length ≤ L) (l2 : d.length < L) (l3 : L ≤ 30) : ∃ r, longOf first d ++ List.replicate (L - (longOf first d).length) (UInt8.ofNat (48 + x)) = first ++ r ∧ first.length + r.length = L ∧ d <+: first ++ r ∧ d.length < (first ++ r).length ∧ digitsB (first ++ r) 1 30 = true := by
  obtain ⟨r, h1, h2, h3, h4⟩ := pad_ex hc hf hd l1 (Nat.le_of_lt l2) x hx
  refine ⟨r, h1, h2, h3, by rw [List.length_append]; omega, ?_⟩
  rw [digitsB_iff, List.length_append]
  exact ⟨by omega, by omega, h4⟩
theorem first1 {l : List Ctry} {c : Ctry} {area : List UInt8} (hE : planErr l = 0) (hH : HomeIn l c area) {i j : Nat} (hi : i < l.length) (hj : j < (l.getD i noCtry).areas.length) : digs (c.abroad ++ ((l.getD i noCtry).code ++ ((l.getD i noCtry).areas.getD j noArea).pre)) = true ∧ (((l.getD i noCtry).areas.getD j noArea).pre.length : Int) < ((l.getD i noCtry).areas.getD j noArea).low := by
  obtain ⟨g1, -, -, g4, -⟩ := area_parts (plan_area hE i hi j hj)
  obtain ⟨k1, -⟩ := ctry_form (plan_ctry hE i hi)
  rw [digs_app, digs_app, (home_digs hE hH).1, ((digitsB_iff _ _ _).1 k1).2.2, ((digitsB_iff _ _ _).1 g1).2.2]
  exact ⟨rfl, g4⟩
theorem first2 {l : List Ctry} {c : Ctry} {area : List UInt8} (hE : planErr l = 0) (hH : HomeIn l c area) {j : Nat} (hj : j < c.areas.length) : digs (c.trunk ++ (c.areas.getD j noArea).pre) = true ∧ ((c.areas.getD j noArea).pre.length : Int) < (c.areas.getD j noArea).low := by
  obtain ⟨g1, -, -, g4, -⟩ := area_parts (home_areas hE hH j hj)
  rw [digs_app, (home_digs hE hH).2.1, ((digitsB_iff _ _ _).1 g1).2.2]
  exact ⟨rfl, g4⟩
theorem homeX_at {l : List Ctry} {c : Ctry} {area : List UInt8} (hE : planErr l = 0) (hH : HomeIn l c area) (ha : area ≠ []) : ∃ z, z < c.areas.length ∧ c.areas.getD z noArea = homeX c area ∧ (homeX c area).pre = area := by
  rcases hH.area with h0 | ⟨z, hz, hza⟩
  · exact absurd h0 ha
  · unfold homeX
    rw [if_neg ha]
    cases hf : c.areas.find? fun a => a.pre == area with
    | none =>
      rw [List.find?_eq_none] at hf
      have := hf c.areas[z] (List.getElem_mem hz)
      rw [show c.areas.getD z noArea = c.areas[z] by simp [hz]] at hza
      simp [hza] at this
    | some a =>
      obtain ⟨y, hy, rfl⟩ := List.getElem_of_mem (List.mem_of_find?_eq_some hf)
      have := List.find?_some hf
      exact ⟨y, hy, by simp [hy], by simpa using this⟩
theorem longer_ext {l : List Ctry} {c : Ctry} {area : List UInt8} {d : List UInt8} (hE : planErr l = 0) (hH : HomeIn l c area) (han : ∀ i, i < l.length → (l.getD i noCtry).an = (l.getD i noCtry).areas.length) (hd : digs d = true) (h30 : d.length ≤ 30) (h : longerP l c (homeX c area) d = true) : Ext l c area d := by
  unfold longerP at h
  rw [Bool.or_eq_true, Bool.or_eq_true] at h
  rcases h with h | h | h
  · unfold longer1 at h
    rw [List.any_eq_true] at h
    obtain ⟨x, hx, h⟩ := h
    rw [List.any_eq_true] at h
    obtain ⟨y, hy, h⟩ := h
    obtain ⟨i, hi, rfl⟩ := List.getElem_of_mem hx
    obtain ⟨j, hj, rfl⟩ := List.getElem_of_mem hy
    have ei : l.getD i noCtry = l[i] := by simp [hi]
    have ej : l[i].areas.getD j noArea = l[i].areas[j] := by simp [hj]
    have hj' : j < (l.getD i noCtry).areas.length := by rw [ei]; exact hj
    obtain ⟨f1, f2⟩ := first1 hE hH hi hj'
    rw [ei, ej] at f1 f2
    unfold areaP at h
    rw [List.append_assoc] at h
    obtain ⟨hc, L, g1, g2, g3, g4, g5⟩ := goes_len h (by omega) h30
    obtain ⟨r, e1, e2, e3, e4, e5⟩ := base_any (lo := 0) (hi := 0) hE hH f1 hd hc 0 (by omega) g2 g1 g3
    refine ⟨_, e3, e4, e5, Or.inl ⟨i, j, r, hi, hj', by rw [ei, ej]; simp, ?_, ?_⟩⟩ <;> rw [ei, ej] <;> simp only [List.length_append] at * <;> omega
  · unfold longer2 at h
    rw [List.any_eq_true] at h
    obtain ⟨y, hy, h⟩ := h
    obtain ⟨j, hj, rfl⟩ := List.getElem_of_mem hy
    have ej : c.areas.getD j noArea = c.areas[j] := by simp [hj]
    obtain ⟨f1, f2⟩ := first2 hE hH hj
    rw [ej] at f1 f2
    unfold areaP at h
    obtain ⟨hc, L, g1, g2, g3, g4, g5⟩ := goes_len h (by omega) h30
    obtain ⟨r, e1, e2, e3, e4, e5⟩ := base_any (lo := 0) (hi := 0) hE hH f1 hd hc 0 (by omega) g2 g1 g3
    refine ⟨_, e3, e4, e5, Or.inr (Or.inl ⟨j, r, hj, by rw [ej]; simp, ?_, ?_⟩)⟩ <;> rw [ej] <;> simp only [List.length_append] at * <;> omega
  · unfold longer3 at h
    split at h
    · cases h
    rename_i hno
    simp only [not_or] at hno
    obtain ⟨n1, n2, n3, n4⟩ := hno
    have ha : area ≠ [] := by
      intro h0
      apply n1
      unfold homeX
      rw [if_pos h0]
      rfl
    obtain ⟨z, hz, hzx, hzp⟩ := homeX_at hE hH ha
    have f2 := (first2 hE hH hz).2
    rw [hzx] at f2
    unfold areaP at h
    obtain ⟨hc, L, g1, g2, g3, g4, g5⟩ := goes_len h (by omega) h30
    obtain ⟨m, hm⟩ : ∃ m, L = d.length + (m + 1) := ⟨L - d.length - 1, by omega⟩
    obtain ⟨x, hx, b1, b2⟩ := good_digit (m := m) (fun hp => n3 ((pre_iff _ _).2 hp)) (fun hp => n4 ((pre_iff _ _).2 hp))
    refine ⟨d ++ List.replicate (m + 1) (UInt8.ofNat (48 + x)), List.prefix_append _ _, by simp, ?_, Or.inr (Or.inr ⟨z, hz, by rw [hzx, hzp], ?_, ?_, ?_, ?_⟩)⟩
    · rw [digitsB_iff, digs_app, hd, digs_rep _ _ hx, List.length_append, List.length_replicate]
      exact ⟨by omega, by omega, rfl⟩
    · rw [Bool.eq_false_iff]; intro h; exact b1 ((pre_iff _ _).1 h)
    · rw [Bool.eq_false_iff]; intro h; exact b2 ((pre_iff _ _).1 h)
    · rw [hzx, List.length_append, List.length_replicate]; rw [hzp] at g4; simp only [List.length_nil] at g4; omega
    · rw [hzx, List.length_append, List.length_replicate]; rw [hzp] at g5; simp only [List.length_nil] at g5; omega
theorem ext_longer {l : List Ctry} {c : Ctry} {area : List UInt8} {d : List UInt8} (hE : planErr l = 0) (hH : HomeIn l c area) (han : ∀ i, i < l.length → (l.getD i noCtry).an = (l.getD i noCtry).areas.length) (hd : digs d = true) (h30 : d.length ≤ 30) (h : Ext l c area d) : longerP l c (homeX c area) d = true := by
  obtain ⟨t, p1, p2, hdt, hv⟩ := h
  obtain ⟨d1, d2, d3⟩ := (digitsB_iff _ _ _).1 hdt
  unfold longerP
  rw [Bool.or_eq_true, Bool.or_eq_true]
  rcases hv with ⟨i, j, r, hi, hj, rfl, h1, h2⟩ | ⟨j, r, hj, rfl, h1, h2⟩ | ⟨j, hj, ha, q1, q2, h1, h2⟩
  · refine Or.inl ?_
    unfold longer1
    have ei : l.getD i noCtry = l[i] := by simp [hi]
    rw [ei] at hj
    have ej : l[i].areas.getD j noArea = l[i].areas[j] := by simp [hj]
    rw [ei, ej] at p1 p2 d2 h1 h2
    rw [List.any_eq_true]
    refine ⟨l[i], List.getElem_mem hi, ?_⟩
    rw [List.any_eq_true]
    refine ⟨l[i].areas[j], List.getElem_mem hj, ?_⟩
    unfold areaP
    refine len_goes p1 ⟨r, by simp⟩ p2 (by omega) ?_ ?_ <;> simp only [List.length_append] at * <;> omega
  · refine Or.inr (Or.inl ?_)
    unfold longer2
    have ej : c.areas.getD j noArea = c.areas[j] := by simp [hj]
    rw [ej] at p1 p2 d2 h1 h2
    rw [List.any_eq_true]
    refine ⟨c.areas[j], List.getElem_mem hj, ?_⟩
    unfold areaP
    refine len_goes p1 ⟨r, by simp⟩ p2 (by omega) ?_ ?_ <;> simp only [List.length_append] at * <;> omega
  · refine Or.inr (Or.inr ?_)
    have hne : area ≠ [] := by rw [← ha]; exact code_ne hE hH han j hj
    obtain ⟨z, hz, hzx, hzp⟩ := homeX_at hE hH hne
    have hjz : z = j := areas_apart (home_areas hE hH) hz hj (by rw [hzx, hzp, ha]; exact (pre_iff _ _).2 (List.prefix_refl _))
    subst hjz
    unfold longer3
    rw [if_neg]
    · unfold areaP
      rw [hzx] at h1 h2
      refine len_goes p1 (List.nil_prefix) p2 (by omega) ?_ ?_ <;> rw [hzp] <;> simp only [List.length_nil] <;> omega
    · simp only [not_or]
      refine ⟨by rw [hzp]; exact hne, ?_, ?_, ?_⟩
      · intro h0
        rw [h0] at q2
        have : Lib.hasPrefix t [] = true := (pre_iff _ _).2 List.nil_prefix
        rw [this] at q2; cases q2
      · intro h0
        have : Lib.hasPrefix t c.abroad = true := (pre_iff _ _).2 (((pre_iff _ _).1 h0).trans p1)
        rw [this] at q1; cases q1
      · intro h0
        have : Lib.hasPrefix t c.trunk = true := (pre_iff _ _).2 (((pre_iff _ _).1 h0).trans p1)
        rw [this] at q2; cases q2
end Go.Proofs.YthajppcmmmkfcaaGreatDoor

set_option linter.unusedVariables false
set_option linter.unusedSimpArgs false
namespace Go.Proofs.YthajppcmmmkfcaaGreatDoor
open Go.RowKit

def baseF (c o : Ctry) (y : Area) : List (List UInt8) := ((c.abroad ++ o.code) ++ y.pre) :: (if o.code = c.code then [c.trunk ++ y.pre] else [])
def basesL (l : List Ctry) (c : Ctry) : List (List UInt8) := [] :: l.flatMap fun o => o.areas.flatMap (baseF c o)
def okR (l : List Ctry) (c : Ctry) (area d s : List UInt8) (x m : Nat) : Bool := decide ((reachP l c area (s ++ List.replicate m (UInt8.ofNat (48 + x)))).1 = 0) && decide (d.length < s.length + m)
def triesX (l : List Ctry) (c : Ctry) (area d s : List UInt8) (x n : Nat) : Bool := (List.range n).any fun m => okR l c area d s x m
def triesR (l : List Ctry) (c : Ctry) (area d s : List UInt8) (n : Nat) : Bool := (List.range n).any fun x => triesX l c area d s x (31 - s.length)
def baseR (l : List Ctry) (c : Ctry) (area d s : List UInt8) : Bool := cmpS s d && triesR l c area d (longOf s d) 10
def refLonger (l : List Ctry) (c : Ctry) (area d : List UInt8) : Bool := (basesL l c).any (baseR l c area d)

theorem tries_yes {l : List Ctry} {c : Ctry} {area d s : List UInt8} (x m : Nat) (hx : x < 10) (hm : m < 31 - s.length) (h1 : (reachP l c area (s ++ List.replicate m (UInt8.ofNat (48 + x)))).1 = 0) (h2 : d.length < s.length + m) : triesR l c area d s 10 = true := by
  unfold triesR
  rw [List.any_eq_true]
  refine ⟨x, List.mem_range.2 hx, ?_⟩
  unfold triesX
  rw [List.any_eq_true]
  refine ⟨m, List.mem_range.2 hm, ?_⟩
  unfold okR
  rw [decide_eq_true h1, decide_eq_true h2]
  rfl

theorem refLonger_same {l : List Ctry} {c : Ctry} {area d : List UInt8} (hE : planErr l = 0) (hH : HomeIn l c area) (han : ∀ i, i < l.length → (l.getD i noCtry).an = (l.getD i noCtry).areas.length) (hd : digs d = true) (h30 : d.length ≤ 30) : refLonger l c area d = longerP l c (homeX c area) d := by
  rw [Bool.eq_iff_iff]
  constructor
  · intro h
    refine ext_longer hE hH han hd h30 ?_
    unfold refLonger at h
    rw [List.any_eq_true] at h
    obtain ⟨s, -, h⟩ := h
    unfold baseR at h
    rw [Bool.and_eq_true] at h
    obtain ⟨hc, h⟩ := h
    unfold triesR at h
    rw [List.any_eq_true] at h
    obtain ⟨x, hx, h⟩ := h
    unfold triesX at h
    rw [List.any_eq_true] at h
    obtain ⟨m, hm, h⟩ := h
    unfold okR at h
    rw [Bool.and_eq_true, decide_eq_true_eq, decide_eq_true_eq] at h
    exact ⟨_, (long_pre hc).2.trans (List.prefix_append _ _), by rw [List.length_append, List.length_replicate]; exact h.2, goes_reach hE hH han h.1⟩
  · intro h
    obtain ⟨t, p1, p2, hdt, hv⟩ := longer_ext hE hH han hd h30 h
    obtain ⟨d1, d2, d3⟩ := (digitsB_iff _ _ _).1 hdt
    unfold refLonger
    rw [List.any_eq_true]
    rcases hv with ⟨i, j, r, hi, hj, rfl, h1, h2⟩ | ⟨j, r, hj, rfl, h1, h2⟩ | ⟨j, hj, ha, q1, q2, h1, h2⟩
    · obtain ⟨f1, f2⟩ := first1 hE hH hi hj
      have ei : l.getD i noCtry = l[i] := by simp [hi]
      have hj2 := hj
      rw [ei] at hj2
      have ej : (l.getD i noCtry).areas.getD j noArea = l[i].areas[j] := by rw [ei]; simp [hj2]
      refine ⟨c.abroad ++ ((l.getD i noCtry).code ++ ((l.getD i noCtry).areas.getD j noArea).pre), ?_, ?_⟩
      · unfold basesL
        refine List.mem_cons_of_mem _ (List.mem_flatMap.2 ⟨l[i], List.getElem_mem hi, List.mem_flatMap.2 ⟨l[i].areas[j], List.getElem_mem hj2, ?_⟩⟩)
        unfold baseF
        rw [ej, ei]
        simp
      · have hc : cmpS (c.abroad ++ ((l.getD i noCtry).code ++ ((l.getD i noCtry).areas.getD j noArea).pre)) d = true := (cmp_iff _ _).2 (List.prefix_or_prefix_of_prefix p1 ⟨r, by simp⟩)
        obtain ⟨r2, e1, e2, e3, e4, e5⟩ := base_any (lo := 0) (hi := 0) hE hH f1 hd hc 0 (by omega) (L := (c.abroad ++ ((l.getD i noCtry).code ++ (((l.getD i noCtry).areas.getD j noArea).pre ++ r))).length) (by simp only [List.length_append]; omega) p2 (by omega)
        have hle := congrArg List.length e1
        simp only [List.length_append, List.length_replicate] at hle e2 d2 p2 e4
        unfold baseR
        rw [hc, Bool.true_and]
        refine tries_yes 0 ((c.abroad ++ ((l.getD i noCtry).code ++ (((l.getD i noCtry).areas.getD j noArea).pre ++ r))).length - (longOf (c.abroad ++ ((l.getD i noCtry).code ++ ((l.getD i noCtry).areas.getD j noArea).pre)) d).length) (by omega) ?_ ?_ ?_
        · simp only [List.length_append]; omega
        · rw [e1]
          refine reach_goes hE hH han ⟨e5, Or.inl ⟨i, j, r2, hi, hj, by simp, by omega, by omega⟩⟩
        · simp only [List.length_append]; omega
    · obtain ⟨f1, f2⟩ := first2 hE hH hj
      obtain ⟨k, hk, hkc⟩ := hH.here
      have ek : l[k] = c := by rw [← hkc]; simp [hk]
      refine ⟨c.trunk ++ (c.areas.getD j noArea).pre, ?_, ?_⟩
      · unfold basesL
        refine List.mem_cons_of_mem _ (List.mem_flatMap.2 ⟨l[k], List.getElem_mem hk, ?_⟩)
        rw [ek]
        refine List.mem_flatMap.2 ⟨c.areas[j], List.getElem_mem hj, ?_⟩
        unfold baseF
        rw [if_pos rfl, show c.areas.getD j noArea = c.areas[j] by simp [hj]]
        simp
      · have hc : cmpS (c.trunk ++ (c.areas.getD j noArea).pre) d = true := (cmp_iff _ _).2 (List.prefix_or_prefix_of_prefix p1 ⟨r, by simp⟩)
        obtain ⟨r2, e1, e2, e3, e4, e5⟩ := base_any (lo := 0) (hi := 0) hE hH f1 hd hc 0 (by omega) (L := (c.trunk ++ ((c.areas.getD j noArea).pre ++ r)).length) (by simp only [List.length_append]; omega) p2 (by omega)
        have hle := congrArg List.length e1
        simp only [List.length_append, List.length_replicate] at hle e2 d2 p2 e4
        unfold baseR
        rw [hc, Bool.true_and]
        refine tries_yes 0 ((c.trunk ++ ((c.areas.getD j noArea).pre ++ r)).length - (longOf (c.trunk ++ (c.areas.getD j noArea).pre) d).length) (by omega) ?_ ?_ ?_
        · simp only [List.length_append]; omega
        · rw [e1]
          refine reach_goes hE hH han ⟨e5, Or.inr (Or.inl ⟨j, r2, hj, by simp, by omega, by omega⟩)⟩
        · simp only [List.length_append]; omega
    · refine ⟨[], ?_, ?_⟩
      · unfold basesL; exact List.mem_cons_self
      · have hc : cmpS [] d = true := (cmp_iff _ _).2 (Or.inr List.nil_prefix)
        have hl : longOf [] d = d := by
          unfold longOf
          split
          · rfl
          · rename_i h0
            have : d.length = 0 := by simp at h0; simpa using h0
            exact (List.eq_nil_of_length_eq_zero this).symm
        unfold baseR
        rw [hc, Bool.true_and, hl]
        obtain ⟨m, hm⟩ : ∃ m, t.length = d.length + (m + 1) := ⟨t.length - d.length - 1, by omega⟩
        have n1 : ¬ c.abroad <+: d := fun h0 => by
          have := (pre_iff _ _).2 (h0.trans p1)
          rw [this] at q1; cases q1
        have n2 : ¬ c.trunk <+: d := fun h0 => by
          have := (pre_iff _ _).2 (h0.trans p1)
          rw [this] at q2; cases q2
        obtain ⟨x, hx, b1, b2⟩ := good_digit (m := m) n1 n2
        refine tries_yes x (m + 1) hx (by omega) ?_ (by omega)
        refine reach_goes hE hH han ⟨?_, Or.inr (Or.inr ⟨j, hj, ha, ?_, ?_, ?_, ?_⟩)⟩
        · rw [digitsB_iff, digs_app, hd, digs_rep _ _ hx, List.length_append, List.length_replicate]
          exact ⟨by omega, by omega, rfl⟩
        · rw [Bool.eq_false_iff]; intro h; exact b1 ((pre_iff _ _).1 h)
        · rw [Bool.eq_false_iff]; intro h; exact b2 ((pre_iff _ _).1 h)
        · rw [List.length_append, List.length_replicate]; omega
        · rw [List.length_append, List.length_replicate]; omega
end Go.Proofs.YthajppcmmmkfcaaGreatDoor

set_option linter.unusedVariables false
set_option linter.unusedSimpArgs false
namespace Go.Proofs.YthajppcmmmkfcaaGreatDoor
open Go.RowKit

theorem key_none {n : Nat} (h1 : ¬ (48 ≤ n ∧ n ≤ 57)) (h2 : ¬ (65 ≤ n ∧ n ≤ 90)) (h3 : ¬ (97 ≤ n ∧ n ≤ 122)) : keyN n = 0 := by unfold keyN; rw [if_neg h1, if_neg h2, if_neg h3]
theorem key_digit {n : Nat} (h1 : 48 ≤ n) (h2 : n ≤ 57) : keyN n = n := by unfold keyN; rw [if_pos ⟨h1, h2⟩]
theorem key_upper {m : Nat} (h : m < 26) : keyN (m + 65) = (keyTab.getD m 0).toNat := by unfold keyN; rw [if_neg (by omega), if_pos (by omega), Nat.add_sub_cancel]
theorem key_lower {m : Nat} (h : m < 26) : keyN (m + 97) = (keyTab.getD m 0).toNat := by unfold keyN; rw [if_neg (by omega), if_neg (by omega), if_pos (by omega), Nat.add_sub_cancel]
theorem tab_get {m : Nat} (h : m < 26) (h2 : m < (⟨#[50, 50, 50, 51, 51, 51, 52, 52, 52, 53, 53, 53, 54, 54, 54, 55, 55, 55, 55, 56, 56, 56, 57, 57, 57, 57]⟩ : ByteArray).size) : ((⟨#[50, 50, 50, 51, 51, 51, 52, 52, 52, 53, 53, 53, 54, 54, 54, 55, 55, 55, 55, 56, 56, 56, 57, 57, 57, 57]⟩ : ByteArray)[m]'h2) = keyTab.getD m 0 := by
  have : ∀ i : Fin 26, ∀ h2, ((⟨#[50, 50, 50, 51, 51, 51, 52, 52, 52, 53, 53, 53, 54, 54, 54, 55, 55, 55, 55, 56, 56, 56, 57, 57, 57, 57]⟩ : ByteArray)[i.val]'h2) = keyTab.getD i.val 0 := by decide +kernel
  exact this ⟨m, h⟩ h2

set_option maxRecDepth 100000 in
set_option maxHeartbeats 1000000 in
theorem key_nat (n : Nat) (hn : n < 256) (w : World) : Calls Tryz.prog 74 #[.int .u8 n] w fun e w' => e = .returned (.int .u8 (keyN n)) ∧ w' = w := by
  by_cases h1 : 48 ≤ n ∧ n ≤ 57
  · have HK := Lib.hid (key_digit h1.1 h1.2)
    obtain ⟨a1, a2⟩ := h1
    go_enter Tryz.func74, Tryz.ntmps74
    go_wp2_with fail
    go_ret
    exact ⟨by rw [HK.out]; rfl, rfl⟩
  · by_cases h2 : 65 ≤ n ∧ n ≤ 90
    · obtain ⟨m, rfl⟩ : ∃ m, n = m + 65 := ⟨n - 65, by omega⟩
      have hm : m < 26 := by omega
      have HK := Lib.hid (key_upper hm)
      have hw : IntKind.u8.wrap ((m : Int) + 65 - 65) = (m : Int) := by rw [show (m : Int) + 65 - 65 = m by omega]; exact IntWalk.u8_in _ (by omega)
      have q1 : ¬ (m + 65 ≤ 57) := by omega
      clear h1 h2
      go_enter Tryz.func74, Tryz.ntmps74
      go_wp2_with fail
      go_ret
      exact ⟨by rw [HK.out, ← tab_get hm]; rfl, rfl⟩
    · by_cases h3 : 97 ≤ n ∧ n ≤ 122
      · obtain ⟨m, rfl⟩ : ∃ m, n = m + 97 := ⟨n - 97, by omega⟩
        have hm : m < 26 := by omega
        have HK := Lib.hid (key_lower hm)
        have hw : IntKind.u8.wrap ((m : Int) + 97 - 97) = (m : Int) := by rw [show (m : Int) + 97 - 97 = m by omega]; exact IntWalk.u8_in _ (by omega)
        have q1 : ¬ (m + 97 ≤ 57) := by omega
        have q2 : ¬ (m + 97 ≤ 90) := by omega
        clear h1 h2 h3
        go_enter Tryz.func74, Tryz.ntmps74
        go_wp2_with fail
        go_ret
        exact ⟨by rw [HK.out, ← tab_get hm]; rfl, rfl⟩
      · have HK := Lib.hid (key_none h1 h2 h3)
        have e1 := Lib.hid h1
        have e2 := Lib.hid h2
        have e3 := Lib.hid h3
        clear h1 h2 h3
        go_enter Tryz.func74, Tryz.ntmps74
        go_wp2_with fail
        all_goals first | (exfalso; have := e1.out; have := e2.out; have := e3.out; omega) | (go_ret; exact ⟨by rw [HK.out]; rfl, rfl⟩)
theorem key_any (c : UInt8) (w : World) : Calls Tryz.prog 74 #[.int .u8 c.toNat] w fun e w' => e = .returned (.int .u8 (keyB c).toNat) ∧ w' = w := by
  rw [keyB_nat]
  exact key_nat c.toNat (UInt8.toNat_lt c) w

/-! ### The reference's -/
theorem idx_small (n : Nat) (hn : n < 256) : Lib.indexByte [97, 98, 99, 100, 101, 102, 103, 104, 105, 106, 107, 108, 109, 110, 111, 112, 113, 114, 115, 116, 117, 118, 119, 120, 121, 122] ((n : Int).toNat.toUInt8) = if 97 ≤ n ∧ n ≤ 122 then ((n - 97 : Nat) : Int) else -1 := by
  have : ∀ i : Fin 256, Lib.indexByte [97, 98, 99, 100, 101, 102, 103, 104, 105, 106, 107, 108, 109, 110, 111, 112, 113, 114, 115, 116, 117, 118, 119, 120, 121, 122] ((i.val : Int).toNat.toUInt8) = if 97 ≤ i.val ∧ i.val ≤ 122 then ((i.val - 97 : Nat) : Int) else -1 := by decide +kernel
  exact this ⟨n, hn⟩
theorem idx_digits (n : Nat) (hn : n < 256) : Lib.indexByte [48, 49, 50, 51, 52, 53, 54, 55, 56, 57] ((n : Int).toNat.toUInt8) = if 48 ≤ n ∧ n ≤ 57 then ((n - 48 : Nat) : Int) else -1 := by
  have : ∀ i : Fin 256, Lib.indexByte [48, 49, 50, 51, 52, 53, 54, 55, 56, 57] ((i.val : Int).toNat.toUInt8) = if 48 ≤ i.val ∧ i.val ≤ 57 then ((i.val - 48 : Nat) : Int) else -1 := by decide +kernel
  exact this ⟨n, hn⟩
theorem small_l (n : Nat) (hn : n < 256) (w : World) : Calls Tryz.prog 76 #[.string ⟨#[97, 98, 99, 100, 101, 102, 103, 104, 105, 106, 107, 108, 109, 110, 111, 112, 113, 114, 115, 116, 117, 118, 119, 120, 121, 122]⟩, .int .u8 n] w fun e w' => e = .returned (.int .i64 (if 97 ≤ n ∧ n ≤ 122 then ((n - 97 : Nat) : Int) else -1)) ∧ w' = w := by
  rw [← idx_small n hn]
  exact Tryz.strings_IndexByte _ _ w
theorem digits_l (n : Nat) (hn : n < 256) (w : World) : Calls Tryz.prog 76 #[.string ⟨#[48, 49, 50, 51, 52, 53, 54, 55, 56, 57]⟩, .int .u8 n] w fun e w' => e = .returned (.int .i64 (if 48 ≤ n ∧ n ≤ 57 then ((n - 48 : Nat) : Int) else -1)) ∧ w' = w := by
  rw [← idx_digits n hn]
  exact Tryz.strings_IndexByte _ _ w

set_option maxRecDepth 100000 in
set_option maxHeartbeats 1000000 in
theorem keyOf_low (n : Nat) (m : Nat) (hm : m < 26) (hn : n = m + 65 ∨ n = m + 97) (w : World) : Calls Tryz.prog 75 #[.int .u8 n] w fun e w' => e = .returned (.int .u8 (keyTab.getD m 0).toNat) ∧ w' = w := by
  have HS := Lib.hid (fun w => small_l (m + 97) (by omega) w)
  rw [if_pos (by omega), Nat.add_sub_cancel] at HS
  rcases hn with rfl | rfl
  · have hw : IntKind.u8.wrap ((m : Int) + 65 + 32) = ((m + 97 : Nat) : Int) := by rw [show (m : Int) + 65 + 32 = ((m + 97 : Nat) : Int) by omega]; exact IntWalk.u8_in _ (by omega)
    go_enter Tryz.func75, Tryz.ntmps75
    go_wp2_with fail
    refine (HS.out _).mono ?_
    rintro e w' ⟨rfl, rfl⟩
    go_wp2_with fail
    go_ret
    exact ⟨by rw [← tab_get hm]; rfl, rfl⟩
  · have q1 : ¬ (m + 97 ≤ 90) := by omega
    go_enter Tryz.func75, Tryz.ntmps75
    go_wp2_with fail
    refine (HS.out _).mono ?_
    rintro e w' ⟨rfl, rfl⟩
    go_wp2_with fail
    go_ret
    exact ⟨by rw [← tab_get hm]; rfl, rfl⟩
set_option maxRecDepth 100000 in
set_option maxHeartbeats 1000000 in
theorem keyOf_nat (n : Nat) (hn : n < 256) (w : World) : Calls Tryz.prog 75 #[.int .u8 n] w fun e w' => e = .returned (.int .u8 (keyN n)) ∧ w' = w := by
  by_cases h2 : 65 ≤ n ∧ n ≤ 90
  · obtain ⟨m, rfl⟩ : ∃ m, n = m + 65 := ⟨n - 65, by omega⟩
    rw [key_upper (by omega)]
    exact keyOf_low _ m (by omega) (Or.inl rfl) w
  · by_cases h3 : 97 ≤ n ∧ n ≤ 122
    · obtain ⟨m, rfl⟩ : ∃ m, n = m + 97 := ⟨n - 97, by omega⟩
      rw [key_lower (by omega)]
      exact keyOf_low _ m (by omega) (Or.inr rfl) w
    · have HS := Lib.hid (fun w => small_l n hn w)
      rw [if_neg h3] at HS
      have HD := Lib.hid (fun w => digits_l n hn w)
      by_cases h1 : 48 ≤ n ∧ n ≤ 57
      · rw [if_pos h1] at HD
        have HK := Lib.hid (key_digit h1.1 h1.2)
        obtain ⟨a1, a2⟩ := h1
        have q1 : ¬ (65 ≤ n) := by omega
        clear h2 h3
        go_enter Tryz.func75, Tryz.ntmps75
        go_wp2_with fail
        refine (HS.out _).mono ?_
        rintro e w' ⟨rfl, rfl⟩
        go_wp2_with fail
        refine (HD.out _).mono ?_
        rintro e w' ⟨rfl, rfl⟩
        go_wp2_with fail
        go_ret
        exact ⟨by rw [HK.out]; rfl, rfl⟩
      · rw [if_neg h1] at HD
        have HK := Lib.hid (key_none h1 h2 h3)
        have e2 := Lib.hid h2
        clear h1 h2 h3
        go_enter Tryz.func75, Tryz.ntmps75
        go_wp2_with fail
        all_goals first
          | (exfalso; have := e2.out; omega)
          | (refine (HS.out _).mono ?_
             rintro e w' ⟨rfl, rfl⟩
             go_wp2_with fail
             refine (HD.out _).mono ?_
             rintro e w' ⟨rfl, rfl⟩
             go_wp2_with fail
             go_ret
             exact ⟨by rw [HK.out]; rfl, rfl⟩)
theorem keyOf_any (c : UInt8) (w : World) : Calls Tryz.prog 75 #[.int .u8 c.toNat] w fun e w' => e = .returned (.int .u8 (keyB c).toNat) ∧ w' = w := by
  rw [keyB_nat]
  exact keyOf_nat c.toNat (UInt8.toNat_lt c) w
end Go.Proofs.YthajppcmmmkfcaaGreatDoor

namespace Go.Proofs.YthajppcmmmkfcaaGreatDoor
open Go.RowKit

/-- A slice of n integers of one kind that lies in memory. -/
def IRow (k : IntKind) (w : World) (a : Option Addr) (n : Nat) (xs : List Int) : Prop :=
  n = xs.length ∧ (n = 0 ∨ ∃ b off, a = some ⟨b, off, none⟩ ∧ b < w.heap.size ∧ ∀ i, i < n → w.cell? ⟨b, off + i, none⟩ = some (.int k (xs.getD i 0)))

theorem IRow.below {k : IntKind} {w w' : World} {a : Option Addr} {n : Nat} {xs : List Int} (h : IRow k w a n xs) (hb : Below w.heap.size w w') : IRow k w' a n xs := by
  refine ⟨h.1, h.2.imp id ?_⟩
  rintro ⟨b, off, ha, hl, hc⟩
  exact ⟨b, off, ha, Nat.lt_of_lt_of_le hl hb.size, fun i hi => (hb.cell (p := ⟨b, off + i, none⟩) hl).trans (hc i hi)⟩

theorem IRow.keeps {k : IntKind} {w w' : World} {S : Nat} {a : Option Addr} {n : Nat} {xs : List Int} (h : IRow k w a n xs) (hk : Keeps S w w') (hS : ∀ b off, a = some ⟨b, off, none⟩ → b ≠ S) : IRow k w' a n xs := by
  refine ⟨h.1, h.2.imp id ?_⟩
  rintro ⟨b, off, ha, hl, hc⟩
  exact ⟨b, off, ha, Nat.lt_of_lt_of_le hl hk.size, fun i hi => (hk.cell (p := ⟨b, off + i, none⟩) hl (hS b off ha)).trans (hc i hi)⟩

theorem getD_map_int (k : IntKind) (xs : List Int) (i : Nat) (hi : i < xs.length) : (xs.map (Value.int k))[i]? = some (.int k (xs.getD i 0)) := by
  simp [List.getD_eq_getElem?_getD, List.getElem?_eq_getElem hi]

/-- A row of the call's own reads as such a slice. -/
theorem IRow.of_own {k : IntKind} {w : World} {base : Nat} {e : TypeId} {v : Value} {n : Nat} {xs : List Int} (h : w.ownsRow base e 1 v n (xs.map (Value.int k))) : ∃ a cap, v = .slice a n cap ∧ IRow k w a n xs := by
  have hl : n = xs.length := by have := h.1; simp at this; omega
  rcases h.2 with ⟨rfl, rfl⟩ | ⟨g, cap, cur, rfl, hb, hg, _⟩
  · exact ⟨none, 0, rfl, hl, Or.inl rfl⟩
  · refine ⟨some ⟨g, 0, none⟩, cap, rfl, hl, Or.inr ⟨g, 0, rfl, (h.lt g rfl).2, fun i hi => ?_⟩⟩
    rw [Nat.zero_add, h.cellAt i (by omega), getD_map_int k xs i (by omega)]

/-- The same, with where it lies. -/
theorem IRow.of_own_at {k : IntKind} {w : World} {base : Nat} {e : TypeId} {v : Value} {n : Nat} {xs : List Int} (h : w.ownsRow base e 1 v n (xs.map (Value.int k))) : ∃ a cap, v = .slice a n cap ∧ IRow k w a n xs ∧ ∀ b off, a = some ⟨b, off, none⟩ → base ≤ b := by
  obtain ⟨a, cap, hv, hr⟩ := IRow.of_own h
  refine ⟨a, cap, hv, hr, fun b off ha => ?_⟩
  subst ha
  exact (h.lt b (by rw [hv]; rfl)).1

theorem made_ints (k : IntKind) (n : Nat) : (madeCells (Value.int k 0).cells (n * 1)).toList = List.replicate n (Value.int k 0) := by
  unfold madeCells
  apply List.ext_getElem
  · simp
  · intro i h1 h2; simp [Value.cells, Nat.mod_one]

/-- A list that is filled from its head on. -/
theorem fill_set {α : Type} (xs : List α) (z : α) (k : Nat) (hk : k < xs.length) : (xs.take k ++ List.replicate (xs.length - k) z).set k xs[k] = xs.take (k + 1) ++ List.replicate (xs.length - (k + 1)) z := by
  rw [List.set_append_right _ _ (by simp; omega)]
  have e1 : k - (xs.take k).length = 0 := by simp; omega
  rw [e1, show xs.length - k = (xs.length - (k + 1)) + 1 by omega, List.replicate_succ, List.set_cons_zero, List.take_succ_eq_append_getElem hk, List.append_assoc]
  rfl

/-- A row of n cells of the call's own at block g, the first k of which hold what they are to hold, the others z. -/
def FillRow (w : World) (base : Nat) (e : TypeId) (g n k : Nat) (vals : List Value) (z : Value) : Prop :=
  vals.length = n ∧ w.ownsRow base e 1 (.slice (some ⟨g, 0, none⟩) n n) n (vals.take k ++ List.replicate (n - k) z)

theorem FillRow.start {w : World} {base : Nat} {e : TypeId} {g n : Nat} {vals : List Value} {k : IntKind} (hl : vals.length = n) (h : w.ownsRow base e 1 (.slice (some ⟨g, 0, none⟩) n n) n (madeCells (Value.int k 0).cells (n * 1)).toList) : FillRow w base e g n 0 vals (.int k 0) := by
  rw [made_ints] at h
  exact ⟨hl, by simpa using h⟩

theorem FillRow.step {w : World} {base : Nat} {e : TypeId} {g n k : Nat} {vals : List Value} {z u : Value} (h : FillRow w base e g n k vals z) (hk : k < n) (hv : vals[k]? = some u) :
    FillRow (w.setCell ⟨g, k, none⟩ u) base e g n (k + 1) vals z ∧ (∃ c, w.cell? ⟨g, k, none⟩ = some c) ∧ w.frozen? ⟨g, k, none⟩ = false := by
  obtain ⟨hl, ho⟩ := h
  have hk2 : k < vals.length := by omega
  rw [List.getElem?_eq_getElem hk2] at hv
  injection hv with hv
  have hs := (ho.stored k u).1
  have hf := fill_set vals z k hk2
  rw [hv] at hf
  subst hl
  rw [hf] at hs
  refine ⟨⟨rfl, hs⟩, ?_, ho.frozenAt k⟩
  rw [ho.cellAt k (by omega), List.getElem?_eq_getElem (by simp; omega)]
  exact ⟨_, rfl⟩

theorem FillRow.done {w : World} {base : Nat} {e : TypeId} {g n : Nat} {vals : List Value} {z : Value} (h : FillRow w base e g n n vals z) : w.ownsRow base e 1 (.slice (some ⟨g, 0, none⟩) n n) n vals := by
  obtain ⟨hl, ho⟩ := h
  rw [List.take_of_length_le (by omega), Nat.sub_self] at ho
  simpa using ho

theorem FillRow.below {w w' : World} {base : Nat} {e : TypeId} {g n k : Nat} {vals : List Value} {z : Value} (h : FillRow w base e g n k vals z) (hb : Below w.heap.size w w') : FillRow w' base e g n k vals z := ⟨h.1, h.2.kept_below hb⟩

theorem map_at {f : Int → Int} {k : IntKind} {xs : List Int} {i : Nat} (hi : i < xs.length) : ((xs.map f).map (Value.int k))[i]? = some (.int k (f (xs.getD i 0))) := by
  simp [List.getD_eq_getElem?_getD, List.getElem?_eq_getElem hi]
end Go.Proofs.YthajppcmmmkfcaaGreatDoor

set_option linter.unusedVariables false
set_option linter.unusedSimpArgs false
namespace Go.Proofs.YthajppcmmmkfcaaGreatDoor
open Go.RowKit

theorem Tryz.infoByte : (Tryz.prog.info? 5).map (fun i => (i.zero, i.size, i.bytes)) = some (some (.int .u8 0), 1, 1) := by kernel_rfl
theorem add0 (b j : Nat) : (⟨b, 0, none⟩ : Addr).add j = ⟨b, j, none⟩ := by unfold Addr.add; split <;> simp_all
theorem new_cell (w : World) (cs : Array Value) (t : TypeId) (p : Nat × Nat) (j : Nat) : (w.alloc (.cells cs t p)).cell? ⟨w.heap.size, j, none⟩ = cs[j]? := by
  have h : (w.alloc (.cells cs t p)).heap[w.heap.size]? = some (.cells cs t p) := by show (w.heap.push _)[w.heap.size]? = _; simp
  simp only [World.cell?, h]
  rfl
theorem snoc_take {s : List UInt8} {k : Nat} {c : UInt8} (hk : k < s.length) (hc : s.getD k 0 = c) : (s.take (k + 1)).map keyB = (s.take k).map keyB ++ [keyB c] := by
  rw [List.take_add_one, List.map_append, List.getElem?_eq_getElem hk]
  simp [hk] at hc
  simp [hc]
theorem push_list : ∀ (l : List UInt8) (r : ByteArray), (l.map (fun b => (b.toNat : Int))).foldl (fun r n => r.push (UInt8.ofNat n.toNat)) r = ⟨r.data ++ l.toArray⟩ := foldl_push_byteCells
/-- Bytes as a string. -/
theorem str_back (w : World) (g cp : Nat) (l : List UInt8) (hc : ∀ j (hj : j < l.length), w.cell? ⟨g, j, none⟩ = some (.int .u8 (l[j].toNat : Int))) : (convert 108 9 (.slice (some ⟨g, 0, none⟩) l.length cp)).run Tryz.prog w = .ok (.string ⟨l.toArray⟩) w :=
  run_convert_bytes_back w 108 9 5 ⟨g, 0, none⟩ cp l Tryz.underlying108 Tryz.underlying5 Tryz.underlying9 (fun j hj => by rw [add0]; exact hc j hj)

def cellsB (l : List UInt8) : List Value := l.map fun b => .int .u8 b.toNat
def keysR (s : List UInt8) : Int × List UInt8 := if 60 < s.length then (2, []) else match keysB s with | none => (3, []) | some x => (0, x)
def StrPost (r : Int × List UInt8) (w : World) (e : Ending) (w' : World) : Prop := e = .returned (.tuple #[.string ⟨r.2.toArray⟩, .int .i64 r.1]) ∧ Below w.heap.size w w'

theorem keys_bad {s : List UInt8} {k : Nat} (hk : k < s.length) (h : keyB (s.getD k 0) = 0) : keysB s = none := by
  unfold keysB
  rw [if_pos]
  rw [List.any_eq_true]
  exact ⟨s[k], List.getElem_mem hk, by simpa [hk] using h⟩
theorem keys_good {s : List UInt8} (h : ∀ j, j < s.length → keyB (s.getD j 0) ≠ 0) : keysB s = some (s.map keyB) := by
  unfold keysB
  rw [if_neg]
  rw [List.any_eq_true]
  rintro ⟨x, hx, h2⟩
  obtain ⟨i, hi, rfl⟩ := List.getElem_of_mem hx
  have := h i hi
  simp [hi] at this h2
  exact this h2
theorem byte_zero {c : UInt8} : ((c.toNat : Int) = 0) ↔ c = 0 := by
  constructor
  · intro h
    have : c.toNat = 0 := by omega
    exact UInt8.toNat_inj.1 (by simpa using this)
  · rintro rfl; rfl

set_option maxRecDepth 100000 in
set_option maxHeartbeats 2000000 in
theorem keysOf_any (s : List UInt8) (hs : s.length ≤ 1000) (w : World) : Calls Tryz.prog 28 #[.string ⟨s.toArray⟩] w (StrPost (keysR s) w) := by
  have HDEF : Hid (keysR s = if 60 < s.length then ((2 : Int), ([] : List UInt8)) else match keysB s with | none => (3, []) | some x => (0, x)) := rfl
  generalize keysR s = R at HDEF ⊢
  obtain ⟨i0, hi, hz0, hz1, hz2⟩ := info_parts Tryz.infoByte
  by_cases hbig : 60 < s.length
  · have HR : Hid (R = (2, [])) := by show _ = _; rw [HDEF.out, if_pos hbig]
    go_enter Tryz.func28, Tryz.ntmps28
    go_wp2_with fail
    go_ret2
    exact ⟨by rw [HR.out]; rfl, Below.refl _ _⟩
  · have HD2 : Hid (R = match keysB s with | none => (3, []) | some x => (0, x)) := by show _ = _; rw [HDEF.out, if_neg hbig]
    clear HDEF
    have hcv := run_bytes_of_string (P := Tryz.prog) w 9 108 5 ⟨s.toArray⟩ Tryz.underlying9 Tryz.underlying108 Tryz.underlying5
    go_enter Tryz.func28, Tryz.ntmps28
    go_wp2_with fail
    go_loopw [4, 14] (fun v i wr => ∃ k : Nat, k ≤ s.length ∧ i = .int .i64 k ∧ Hid (∀ j, j < k → keyB (s.getD j 0) ≠ 0) ∧ Hid (wr.ownsRow (w.heap.size + 1) 5 1 v k (cellsB ((s.take k).map keyB))) ∧ Hid (∀ j, j < s.length → wr.cell? ⟨w.heap.size, j, none⟩ = some (.int .u8 (s.getD j 0).toNat)) ∧ Hid (Below w.heap.size w wr) ∧ Hid (w.heap.size + 1 ≤ wr.heap.size)) (fun _ i _ => s.length - (intOf i).toNat)
    case atStart =>
      refine ⟨0, by omega, rfl, fun j hj => by omega, World.ownsRow_nil _ _ _ _, fun j hj => ?_, (by (try show Below _ _ _); repeat (with_reducible first | exact Below.refl _ _ | assumption | exact Hid.out (by assumption) | refine ext_alloc ?_ | refine ext_drewN ?_ | refine ext_drew ?_ | refine ext_setCell ?_ (Nat.le_refl _) | refine ext_setCell ?_ (Nat.le_succ _) | refine ext_trans ?_ (by assumption) | (refine ext_setCell ?_ (by simp)) | (refine ext_setCell ?_ (by simp at *; omega)))), by show _ ≤ _; simp⟩
      have := bytesRow_at ⟨s.toArray⟩ (grownCap w s.length 0 5) j (by simpa using hj)
      go_simp
      rw [new_cell, this]
      simp [hj]
    case round =>
      obtain ⟨k, hk, rfl, HG, HO, HC, HB, HZ⟩ := hrel
      by_cases hlt : k < s.length
      · have c1 := HC.out k hlt
        have HCK : Hid (s.getD k 0 = s.getD k 0) := rfl
        generalize hc : s.getD k 0 = c at c1
        have HKEY := Lib.hid (fun w => keyOf_any c w)
        have HCE := Lib.hid hc
        clear hc HCK
        go_wp2_with fail
        refine (HKEY.out _).mono ?_
        rintro e w' ⟨rfl, rfl⟩
        have HQ : Hid ((keyB c).toNat = (keyB c).toNat) := rfl
        generalize hq : (keyB c).toNat = q
        have HQE := Lib.hid hq
        clear hq HQ
        by_cases h0 : q = 0
        · subst h0
          have HF : Hid (R = (3, [])) := by
            show _ = _
            rw [HD2.out, keys_bad hlt (by rw [HCE.out]; exact UInt8.toNat_inj.1 (by simpa using HQE.out))]
          go_wp2_with fail
          go_ret2
          exact ⟨by rw [HF.out]; rfl, HB.out⟩
        · have hne : ((q : Int) == 0) = false := by simp; omega
          have hz1' := HZ.out
          have hrow := fun b e => (HO.out.lt b e).1
          have HOA := Lib.hid (HO.out.alloc (.cells #[.int .u8 q] 5))
          go_wp2_with (at_builtin; refine wpList_append_own _ rfl (.tmp 22) (.tmp 24) 108 rfl (w.heap.size + 1) 5 i0 (.int .u8 0) 1 1 Tryz.underlying108 hi hz0 hz1 hz2 rfl (by decide) _ k _ rfl HOA.out ⟨w'.heap.size, 0, none⟩ 1 1 [.int .u8 q] rfl rfl (news_one (by go_simp)) (by simp [Value.oneCell']) (by simp only [maxLen]; omega) (by omega) (by simp; omega) ?_; intro v6 w6 hown6 hgr6 _)
          have HO7 : Hid (w6.ownsRow (w.heap.size + 1) 5 1 v6 (k + 1) (cellsB ((s.take (k + 1)).map keyB))) := by
            show World.ownsRow _ _ _ _ _ _ _
            rw [snoc_take hlt HCE.out, cellsB, List.map_append]
            have : [Value.int .u8 (q : Int)] = List.map (fun b : UInt8 => Value.int .u8 b.toNat) [keyB c] := by simp [HQE.out]
            rw [← this]
            exact hown6
          have hup : Below (w.heap.size + 1) w' w6 := upto_grown hgr6 (by omega) hrow
          have HB7 : Hid (Below w.heap.size w w6) := HB.out.trans (hup.mono (by omega))
          have HC7 : Hid (∀ j, j < s.length → w6.cell? ⟨w.heap.size, j, none⟩ = some (.int .u8 (s.getD j 0).toNat)) := fun j hj => (hup.cell (p := ⟨w.heap.size, j, none⟩) (by simp)).trans (HC.out j hj)
          have HZ7 : Hid (w.heap.size + 1 ≤ w6.heap.size) := Nat.le_trans hz1' hup.size
          have HG7 : Hid (∀ j, j < k + 1 → keyB (s.getD j 0) ≠ 0) := fun j hj => by
            by_cases h : j < k
            · exact HG.out j h
            · obtain rfl : j = k := by omega
              rw [HCE.out]
              intro h9
              exact h0 (by rw [← HQE.out, h9]; rfl)
          clear hown6 hgr6 hup
          go_roundw
          case rel => exact ⟨k + 1, by omega, by go_num, HG7, HO7, HC7, HB7, HZ7⟩
          case measure => simp [intOf]; omega
      · obtain rfl : k = s.length := by omega
        have HF : Hid (R = (0, s.map keyB)) := by show _ = _; rw [HD2.out, keys_good HG.out]
        have HO2 := HO.out
        rw [List.take_length] at HO2
        rcases HO2.2 with ⟨rfl, h0⟩ | ⟨g, cv, cur, rfl, _⟩
        · have hy : s = [] := List.eq_nil_of_length_eq_zero h0
          have hcv2 := run_convert_bytes_nil (P := Tryz.prog) wr 108 5 Tryz.underlying108 Tryz.underlying5 0 0 9 Tryz.underlying9
          clear HO2 hcv
          subst hy
          go_wp2_with fail
          go_ret2
          exact ⟨by rw [HF.out]; rfl, HB.out⟩
        · have hcv2 := str_back wr g cv (s.map keyB) (fun j hj => by
            have hj' : j < s.length := by simpa using hj
            rw [HO2.cellAt j (by omega), cellsB, List.getElem?_map, List.getElem?_eq_getElem hj]; rfl)
          rw [List.length_map] at hcv2
          clear HO2 hcv
          go_wp2_with fail
          go_ret2
          exact ⟨by rw [HF.out]; rfl, HB.out⟩

theorem str_at {s : List UInt8} {k : Nat} (hk : k < s.length) (h2 : k < (⟨s.toArray⟩ : ByteArray).size) : (⟨s.toArray⟩ : ByteArray)[k]'h2 = s.getD k 0 := by
  simp [hk]; rfl

set_option maxRecDepth 100000 in
set_option maxHeartbeats 2000000 in
theorem keys_any (s : List UInt8) (hs : s.length ≤ 1000) (w : World) : Calls Tryz.prog 27 #[.string ⟨s.toArray⟩] w (StrPost (keysR s) w) := by
  have HDEF : Hid (keysR s = if 60 < s.length then ((2 : Int), ([] : List UInt8)) else match keysB s with | none => (3, []) | some x => (0, x)) := rfl
  generalize keysR s = R at HDEF ⊢
  by_cases hbig : 60 < s.length
  · have HR : Hid (R = (2, [])) := by show _ = _; rw [HDEF.out, if_pos hbig]
    go_enter Tryz.func27, Tryz.ntmps27
    go_wp2_with fail
    go_ret2
    exact ⟨by rw [HR.out]; rfl, Below.refl _ _⟩
  · have HD2 : Hid (R = match keysB s with | none => (3, []) | some x => (0, x)) := by show _ = _; rw [HDEF.out, if_neg hbig]
    clear HDEF
    obtain ⟨i0, hi, hz0, hz1, hz2⟩ := info_parts Tryz.infoByte
    have HB8 : Hid (i0.bytes * s.length ≤ 281474976710656) := by show _ ≤ _; rw [hz2]; omega
    have HML : Hid (s.length ≤ maxLen) := by show _ ≤ maxLen; unfold maxLen; omega
    go_enter Tryz.func27, Tryz.ntmps27
    go_wp2_with (at_make; refine wpList_make_full _ rfl (.tmp 10) (.tmp 10) 108 rfl w.heap.size 5 i0 (.int .u8 0) 1 Tryz.underlying108 hi hz0 hz1 .i64 .i64 _ _ s.length (by simp [Act.eval]) (by simp [Act.eval]) rfl rfl HB8.out HML.out (Nat.le_refl _) ?_; intro w1 hown1 hgr1)
    have hW1 := Lib.hid (below_of_grown_none hgr1)
    have HO : Hid (FillRow w1 w.heap.size 5 w.heap.size s.length 0 (cellsB (s.map keyB)) (.int .u8 0)) := FillRow.start (by simp [cellsB]) hown1
    clear hown1 hgr1
    go_loopw [14] (fun i wr => ∃ k : Nat, k ≤ s.length ∧ i = .int .i64 k ∧ Hid (∀ j, j < k → keyB (s.getD j 0) ≠ 0) ∧ Hid (Below w.heap.size w wr) ∧ Hid (FillRow wr w.heap.size 5 w.heap.size s.length k (cellsB (s.map keyB)) (.int .u8 0))) (fun i _ => s.length - (intOf i).toNat)
    case atStart => exact ⟨0, Nat.zero_le _, rfl, fun j hj => by omega, hW1, HO⟩
    case round =>
      obtain ⟨k, hk, rfl, HG, HB, HO2⟩ := hrel
      by_cases hlt : k < s.length
      · have hkl : k < (s.map keyB).length := by simpa using hlt
        obtain ⟨hst, ⟨u, hu⟩, hf⟩ := HO2.out.step hlt (show (cellsB (s.map keyB))[k]? = some (.int .u8 (keyB (s.getD k 0)).toNat) by simp [cellsB, hlt])
        have ST := Lib.hid hst
        have hidx : k < (⟨s.toArray⟩ : ByteArray).size := hlt
        have HKEY := Lib.hid (fun w => key_any (s.getD k 0) w)
        have HSA := Lib.hid (str_at hlt hidx)
        clear hst
        go_wp2_with fail
        rw [str_at hlt]
        refine (HKEY.out _).mono ?_
        rintro e w' ⟨rfl, rfl⟩
        have HQ : Hid ((keyB (s.getD k 0)).toNat = (keyB (s.getD k 0)).toNat) := rfl
        generalize hq : (keyB (s.getD k 0)).toNat = q at ST ⊢
        have HQE := Lib.hid hq
        clear hq HQ
        by_cases h0 : q = 0
        · subst h0
          have HF : Hid (R = (3, [])) := by
            show _ = _
            rw [HD2.out, keys_bad hlt (UInt8.toNat_inj.1 (by simpa using HQE.out))]
          go_wp2_with fail
          go_ret2
          exact ⟨by rw [HF.out]; rfl, ext_setCell HB.out (Nat.le_refl _)⟩
        · have hne : ((q : Int) == 0) = false := by simp; omega
          have HG7 : Hid (∀ j, j < k + 1 → keyB (s.getD j 0) ≠ 0) := fun j hj => by
            by_cases h : j < k
            · exact HG.out j h
            · obtain rfl : j = k := by omega
              intro h9
              exact h0 (by rw [← HQE.out, h9]; rfl)
          go_wp2_with fail
          go_roundw
          case rel => exact ⟨k + 1, by omega, by go_num, HG7, ext_setCell HB.out (Nat.le_refl _), ST.out⟩
          case measure => simp [intOf]; omega
      · obtain rfl : k = s.length := by omega
        have HF : Hid (R = (0, s.map keyB)) := by show _ = _; rw [HD2.out, keys_good HG.out]
        have HO3 := HO2.out.done
        have hcv2 := str_back wr w.heap.size s.length (s.map keyB) (fun j hj => by
          have hj' : j < s.length := by simpa using hj
          rw [HO3.cellAt j (by omega), cellsB, List.getElem?_map, List.getElem?_eq_getElem hj]; rfl)
        rw [List.length_map] at hcv2
        clear HO3
        go_wp2_with fail
        go_ret2
        exact ⟨by rw [HF.out]; rfl, HB.out⟩
end Go.Proofs.YthajppcmmmkfcaaGreatDoor

set_option linter.unusedVariables false
set_option linter.unusedSimpArgs false
namespace Go.Proofs.YthajppcmmmkfcaaGreatDoor
open Go.RowKit

theorem Tryz.infoStr : (Tryz.prog.info? 9).map (fun i => (i.zero, i.size, i.bytes)) = some (some (.string ⟨#[]⟩), 1, 16) := by kernel_rfl
theorem mk_inj {a b : List UInt8} : ((⟨a.toArray⟩ : ByteArray) = ⟨b.toArray⟩) ↔ a = b := by simp
theorem contains_own {w : World} {base : Nat} {v : Value} {n : Nat} {out : List (List UInt8)} (h : w.ownsRow base 9 1 v n (out.map encS)) (hn : n ≤ 1000) (s : List UInt8) :
    Calls Tryz.prog 64 #[v, .string ⟨s.toArray⟩] w fun e w' => e = .returned (.bool (decide (s ∈ out))) ∧ w' = w := by
  have hl : out.length = n := by have := h.1; simpa using this
  rcases h.2 with ⟨rfl, h0⟩ | ⟨g, cap, cur, rfl, _⟩
  · have : out = [] := List.eq_nil_of_length_eq_zero (by omega)
    subst this h0
    refine (Tryz.slices_hasS_empty none 0 _ w).mono ?_
    rintro e w' ⟨rfl, rfl⟩
    exact ⟨by simp, rfl⟩
  · refine (Tryz.slices_hasS g 0 n cap (out.map fun x => ⟨x.toArray⟩) ⟨s.toArray⟩ w (by simp; omega) (by omega) (fun j hj => ?_)).mono ?_
    · have hj' : j < out.length := by simpa using hj
      rw [Nat.zero_add, h.cellAt j (by omega)]
      simp [encS, hj']
    · rintro e w' ⟨rfl, rfl⟩
      refine ⟨?_, rfl⟩
      rw [List.take_of_length_le (by simp; omega)]
      congr 2
      rw [Bool.eq_iff_iff, Lib.containsS_iff, decide_eq_true_eq]
      simp
/-- A slice of one string that is written out. -/
theorem own_lit1 (w : World) (x : List UInt8) (base : Nat) (hb : base ≤ w.heap.size) : (w.alloc (.cells #[.string ⟨x.toArray⟩] 9)).ownsRow base 9 1 (.slice (some ⟨w.heap.size, 0, none⟩) 1 1) 1 ([x].map encS) := World.ownsRow_lit w #[.string ⟨x.toArray⟩] 1 hb (by simp only [maxLen]; omega) rfl
theorem own_keep {w w' : World} {base e size : Nat} {v : Value} {n : Nat} {xs : List Value} (h : w.ownsRow base e size v n xs) (hb : Below w.heap.size w w') : w'.ownsRow base e size v n xs := by
  refine ⟨h.1, h.2.imp id ?_⟩
  rintro ⟨g, cap, cur, rfl, h1, h2, h3⟩
  exact ⟨g, cap, cur, rfl, h1, (hb.block g (Array.getElem?_eq_some_iff.1 h2).1).trans h2, h3⟩
theorem own_below {w w' : World} {base B e size : Nat} {v : Value} {n : Nat} {xs : List Value} (h : w.ownsRow base e size v n xs) (hb : Below B w w') (hv : ∀ g, v.ownBlock = some g → g < B) : w'.ownsRow base e size v n xs := by
  refine ⟨h.1, h.2.imp id ?_⟩
  rintro ⟨g, cap, cur, rfl, h1, h2, h3⟩
  exact ⟨g, cap, cur, rfl, h1, (hb.block g (hv g rfl)).trans h2, h3⟩
theorem own_row1 {w : World} {base : Nat} {e : TypeId} {size : Nat} {v : Value} {n : Nat} {xs : List Value} (h : w.ownsRow base e size v (n + 1) xs) : ∃ g c, v = .slice (some ⟨g, 0, none⟩) (n + 1) c ∧ base ≤ g ∧ g < w.heap.size := by
  rcases h.2 with ⟨_, h0⟩ | ⟨g, cap, cur, rfl, h1, h2, _⟩
  · cases h0
  · exact ⟨g, cap, rfl, h1, (Array.getElem?_eq_some_iff.1 h2).1⟩

theorem own_le {w : World} {base base' e size : Nat} {v : Value} {n : Nat} {xs : List Value} (h : w.ownsRow base e size v n xs) (hb : base' ≤ base) : w.ownsRow base' e size v n xs := by
  refine ⟨h.1, h.2.imp id ?_⟩
  rintro ⟨g, cap, cur, rfl, h1, h2⟩
  exact ⟨g, cap, cur, rfl, Nat.le_trans hb h1, h2⟩
theorem wp_made {P : Program} {o : Oper} {a : Act} {w w' : World} {v : Value} {K : Act → World → Prop} {Q : Exit → Act → World → Prop} (h : (execOp a.eval o).run P w = .ok (.value v) w') (hK : K (a.put o.dst v) w') : Oper.wp P o a w K Q := by
  unfold Oper.wp; rw [h]; exact hK

def waysTop (l : List Ctry) (code area n : List UInt8) : Int × List (List UInt8) :=
  if planErr l ≠ 0 then (planErr l, []) else match homeC l code area with
    | none => (8, [])
    | some c => if (splitP l n).err ≠ 0 then ((splitP l n).err, []) else (0, sortW (waysL l c area n))
def WaysPost (r : Int × List (List UInt8)) (w : World) (e : Ending) (w' : World) : Prop :=
  ∃ v, e = .returned (.tuple #[v, .int .i64 r.1]) ∧ w'.ownsRow w.heap.size 9 1 v r.2.length (r.2.map encS) ∧ Below w.heap.size w w'
end Go.Proofs.YthajppcmmmkfcaaGreatDoor

set_option linter.unusedVariables false
set_option linter.unusedSimpArgs false
namespace Go.Proofs.YthajppcmmmkfcaaGreatDoor
open Go.RowKit

set_option maxRecDepth 100000 in
set_option maxHeartbeats 1000000 in
theorem goesOn_any (d first : List UInt8) (lo hi : Int) (W : World) (h1 : d.length ≤ 1000) (h2 : first.length ≤ 1000) (l1 : -5000000000000 ≤ lo) (l2 : lo ≤ 5000000000000) (k1 : -5000000000000 ≤ hi) (k2 : hi ≤ 5000000000000) :
    Calls Tryz.prog 91 #[.string ⟨d.toArray⟩, .string ⟨first.toArray⟩, .int .i64 lo, .int .i64 hi] W fun e w' => e = .returned (.bool (goesP d first lo hi)) ∧ Below W.heap.size W w' := by
  have HG : Hid (goesP d first lo hi = ((Lib.hasPrefix first d || Lib.hasPrefix d first) && decide (max ((first.length : Int) + lo) ((d.length : Int) + 1) ≤ min ((first.length : Int) + hi) 30))) := rfl
  generalize goesP d first lo hi = r at HG ⊢
  have HP1 := Lib.hid (fun w => hasPrefix_l first d w)
  have HP2 := Lib.hid (fun w => hasPrefix_l d first w)
  generalize Lib.hasPrefix first d = b1 at HG HP1
  generalize Lib.hasPrefix d first = b2 at HG HP2
  cases b1
  · cases b2
    · have HF : Hid (r = false) := HG.out
      go_enter Tryz.func91, Tryz.ntmps91
      go_wp2_with (first | (refine (HP1.out _).mono ?_; rintro e w' ⟨rfl, rfl⟩) | (refine (HP2.out _).mono ?_; rintro e w' ⟨rfl, rfl⟩))
      go_ret
      exact ⟨by rw [HF.out]; rfl, Below.refl _ _⟩
    · have HF : Hid (r = decide (max ((first.length : Int) + lo) ((d.length : Int) + 1) ≤ min ((first.length : Int) + hi) 30)) := by show _ = _; rw [HG.out]; rfl
      go_enter Tryz.func91, Tryz.ntmps91
      go_wp2_with (first | (refine (HP1.out _).mono ?_; rintro e w' ⟨rfl, rfl⟩) | (refine (HP2.out _).mono ?_; rintro e w' ⟨rfl, rfl⟩))
      go_ret
      exact ⟨by rw [HF.out]; rfl, Below.refl _ _⟩
  · have HF : Hid (r = decide (max ((first.length : Int) + lo) ((d.length : Int) + 1) ≤ min ((first.length : Int) + hi) 30)) := by show _ = _; rw [HG.out]; rfl
    go_enter Tryz.func91, Tryz.ntmps91
    go_wp2_with (first | (refine (HP1.out _).mono ?_; rintro e w' ⟨rfl, rfl⟩) | (refine (HP2.out _).mono ?_; rintro e w' ⟨rfl, rfl⟩))
    go_ret
    exact ⟨by rw [HF.out]; rfl, Below.refl _ _⟩

set_option maxRecDepth 100000 in
set_option maxHeartbeats 2000000 in
theorem local_any (c : Ctry) (a : Area) (d : List UInt8) (W : World) (hd : d.length ≤ 1000) (ha : AreaFine a) (hc1 : c.abroad.length ≤ 100) (hc2 : c.trunk.length ≤ 100) :
    Calls Tryz.prog 92 #[.agg c.cells.toArray, .agg a.cells.toArray, .string ⟨d.toArray⟩] W fun e w' => e = .returned (.bool (longer3 c a d)) ∧ Below W.heap.size W w' := by
  obtain ⟨code, abroad, trunk, aa, an, ac, areas⟩ := c
  obtain ⟨pre, low, high⟩ := a
  obtain ⟨f0, f1, f2, f3, f4⟩ := ha
  simp only at f0 f1 f2 f3 f4 hc1 hc2
  simp only [Ctry.cells, Area.cells]
  have HD : Hid (longer3 ⟨code, abroad, trunk, aa, an, ac, areas⟩ ⟨pre, low, high⟩ d = if pre = [] ∨ trunk = [] ∨ Lib.hasPrefix d abroad = true ∨ Lib.hasPrefix d trunk = true then false else goesP d [] (low - (pre.length : Int)) (high - (pre.length : Int))) := rfl
  generalize longer3 ⟨code, abroad, trunk, aa, an, ac, areas⟩ ⟨pre, low, high⟩ d = r at HD ⊢
  have HP1 := Lib.hid (fun w => hasPrefix_l d abroad w)
  have HP2 := Lib.hid (fun w => hasPrefix_l d trunk w)
  have HGO := Lib.hid (fun W => goesOn_any d [] (low - (pre.length : Int)) (high - (pre.length : Int)) W hd (by simp) (by omega) (by omega) (by omega) (by omega))
  generalize goesP d [] (low - (pre.length : Int)) (high - (pre.length : Int)) = g at HD HGO
  generalize Lib.hasPrefix d abroad = b1 at HD HP1
  generalize Lib.hasPrefix d trunk = b2 at HD HP2
  cases pre with
  | nil =>
    have HF : Hid (r = false) := by show _ = _; rw [HD.out, if_pos (Or.inl rfl)]
    go_enter Tryz.func92, Tryz.ntmps92
    go_wp2_with fail
    go_ret
    exact ⟨by rw [HF.out]; rfl, (by (try show Below _ _ _); repeat (with_reducible first | exact Below.refl _ _ | assumption | exact Hid.out (by assumption) | refine ext_alloc ?_ | refine ext_drewN ?_ | refine ext_drew ?_ | refine ext_setCell ?_ (Nat.le_refl _) | refine ext_setCell ?_ (Nat.le_succ _) | refine ext_trans ?_ (by assumption) | (refine ext_setCell ?_ (by simp)) | (refine ext_setCell ?_ (by simp at *; omega))))⟩
  | cons p0 pr =>
  have f0' : pr.length + 1 ≤ 100 := by simpa using f0
  cases trunk with
  | nil =>
    have HF : Hid (r = false) := by show _ = _; rw [HD.out, if_pos (Or.inr (Or.inl rfl))]
    go_enter Tryz.func92, Tryz.ntmps92
    go_wp2_with fail
    go_ret
    exact ⟨by rw [HF.out]; rfl, (by (try show Below _ _ _); repeat (with_reducible first | exact Below.refl _ _ | assumption | exact Hid.out (by assumption) | refine ext_alloc ?_ | refine ext_drewN ?_ | refine ext_drew ?_ | refine ext_setCell ?_ (Nat.le_refl _) | refine ext_setCell ?_ (Nat.le_succ _) | refine ext_trans ?_ (by assumption) | (refine ext_setCell ?_ (by simp)) | (refine ext_setCell ?_ (by simp at *; omega))))⟩
  | cons t0 tr =>
  cases b1
  · cases b2
    · have HF : Hid (r = g) := by show _ = _; rw [HD.out, if_neg (by simp)]
      simp only [List.length_cons] at HGO
      go_enter Tryz.func92, Tryz.ntmps92
      go_wp2_with (first | (refine (HP1.out _).mono ?_; rintro e w' ⟨rfl, rfl⟩) | (refine (HP2.out _).mono ?_; rintro e w' ⟨rfl, rfl⟩))
      refine (HGO.out _).mono ?_
      rintro e w' ⟨rfl, hb⟩
      have HB : Hid (Below W.heap.size W w') := ext_trans (by (try show Below _ _ _); repeat (with_reducible first | exact Below.refl _ _ | assumption | exact Hid.out (by assumption) | refine ext_alloc ?_ | refine ext_drewN ?_ | refine ext_drew ?_ | refine ext_setCell ?_ (Nat.le_refl _) | refine ext_setCell ?_ (Nat.le_succ _) | refine ext_trans ?_ (by assumption) | (refine ext_setCell ?_ (by simp)) | (refine ext_setCell ?_ (by simp at *; omega)))) hb
      clear hb
      go_wp2_with fail
      go_ret
      exact ⟨by rw [HF.out]; rfl, HB.out⟩
    · have HF : Hid (r = false) := by show _ = _; rw [HD.out, if_pos (by simp)]
      go_enter Tryz.func92, Tryz.ntmps92
      go_wp2_with (first | (refine (HP1.out _).mono ?_; rintro e w' ⟨rfl, rfl⟩) | (refine (HP2.out _).mono ?_; rintro e w' ⟨rfl, rfl⟩))
      go_ret
      exact ⟨by rw [HF.out]; rfl, (by (try show Below _ _ _); repeat (with_reducible first | exact Below.refl _ _ | assumption | exact Hid.out (by assumption) | refine ext_alloc ?_ | refine ext_drewN ?_ | refine ext_drew ?_ | refine ext_setCell ?_ (Nat.le_refl _) | refine ext_setCell ?_ (Nat.le_succ _) | refine ext_trans ?_ (by assumption) | (refine ext_setCell ?_ (by simp)) | (refine ext_setCell ?_ (by simp at *; omega))))⟩
  · have HF : Hid (r = false) := by show _ = _; rw [HD.out, if_pos (by simp)]
    go_enter Tryz.func92, Tryz.ntmps92
    go_wp2_with (first | (refine (HP1.out _).mono ?_; rintro e w' ⟨rfl, rfl⟩) | (refine (HP2.out _).mono ?_; rintro e w' ⟨rfl, rfl⟩))
    go_ret
    exact ⟨by rw [HF.out]; rfl, (by (try show Below _ _ _); repeat (with_reducible first | exact Below.refl _ _ | assumption | exact Hid.out (by assumption) | refine ext_alloc ?_ | refine ext_drewN ?_ | refine ext_drew ?_ | refine ext_setCell ?_ (Nat.le_refl _) | refine ext_setCell ?_ (Nat.le_succ _) | refine ext_trans ?_ (by assumption) | (refine ext_setCell ?_ (by simp)) | (refine ext_setCell ?_ (by simp at *; omega))))⟩

/-- An area's cells. -/
theorem area_at2 {w : World} {aa : Option Addr} {n : Nat} {l : List Area} (h : AreaRow w aa n l) {i : Nat} (hi : i < n) : ∃ b off, aa = some ⟨b, off, none⟩ ∧ b < w.heap.size ∧ w.cell? ⟨b, off + i * 3, none⟩ = some (.string ⟨(l.getD i noArea).pre.toArray⟩) ∧ w.cell? ⟨b, off + i * 3 + 1, none⟩ = some (.int .i64 (l.getD i noArea).low) ∧ w.cell? ⟨b, off + i * 3 + 2, none⟩ = some (.int .i64 (l.getD i noArea).high) := by
  rcases h.row with h0 | ⟨b, off, ha, hb, hc⟩
  · omega
  · exact ⟨b, off, ha, hb, hc i hi 0 (by omega), hc i hi 1 (by omega), hc i hi 2 (by omega)⟩

theorem any_no {α : Type} {l : List α} {f : α → Bool} (d : α) (h : ∀ j, j < l.length → f (l.getD j d) = false) : l.any f = false := by
  rw [List.any_eq_false]
  intro x hx
  obtain ⟨j, hj, rfl⟩ := List.getElem_of_mem hx
  have := h j hj
  rw [show l.getD j d = l[j] by simp [hj]] at this
  rw [this]; exact Bool.noConfusion
theorem any_yes {α : Type} {l : List α} {f : α → Bool} (d : α) {j : Nat} (hj : j < l.length) (h : f (l.getD j d) = true) : l.any f = true := by
  rw [List.any_eq_true]
  rw [show l.getD j d = l[j] by simp [hj]] at h
  exact ⟨_, List.getElem_mem hj, h⟩
end Go.Proofs.YthajppcmmmkfcaaGreatDoor

set_option linter.unusedVariables false
set_option linter.unusedSimpArgs false
namespace Go.Proofs.YthajppcmmmkfcaaGreatDoor
open Go.RowKit

theorem digits_len {s : List UInt8} {lo hi : Int} (h : digitsB s lo hi = true) : (s.length : Int) ≤ hi := by
  unfold digitsB at h
  simp only [Bool.and_eq_true, decide_eq_true_eq] at h
  omega
theorem trim_drop {s p : List UInt8} (h : Lib.hasPrefix s p = true) : Lib.trimPrefix s p = s.drop p.length := by unfold Lib.trimPrefix; rw [if_pos h]

set_option maxRecDepth 100000 in
set_option maxHeartbeats 4000000 in
theorem reached_any (w : World) (a : Option Addr) (n cap : Nat) (l : List Ctry) (hr : CtryRow w a n l) (hne : 1 ≤ n) (hna : ∀ i, i < l.length → 1 ≤ (l.getD i noCtry).an) (c : Ctry) (h1 : c.code.length ≤ 100) (h2 : c.abroad.length ≤ 100) (h3 : c.trunk.length ≤ 100) (code0 area d : List UInt8) (ha : area.length ≤ 100) (hd : d.length ≤ 1000) :
    Calls Tryz.prog 50 #[.slice a n cap, .agg c.cells.toArray, .agg #[.string ⟨code0.toArray⟩, .string ⟨area.toArray⟩], .string ⟨d.toArray⟩] w (StrPost (reachP l c area d) w) := by
  have HR := Lib.hid hr
  have HNA := Lib.hid hna
  obtain ⟨code, abroad, trunk, aa, an, ac, areas⟩ := c
  have HDEF : Hid (reachP l ⟨code, abroad, trunk, aa, an, ac, areas⟩ area d = if digitsB d 1 30 = false then ((3 : Int), ([] : List UInt8)) else match reachN ⟨code, abroad, trunk, aa, an, ac, areas⟩ area d with | none => (8, []) | some n => if (splitP l n).err ≠ 0 then ((splitP l n).err, []) else (0, n)) := rfl
  generalize reachP l ⟨code, abroad, trunk, aa, an, ac, areas⟩ area d = R at HDEF ⊢
  clear hr hna
  simp only [Ctry.cells] at h1 h2 h3 ⊢
  go_enter Tryz.func50, Tryz.ntmps50
  go_wp2_with fail
  refine (digitsOf_l d 1 30 _ (by omega)).mono ?_
  rintro e w1 ⟨rfl, hb1⟩
  have c0 : w1.cell? ⟨w.heap.size, 0, none⟩ = some (.string ⟨code.toArray⟩) := (hb1.cell (p := ⟨w.heap.size, 0, none⟩) (by simp; omega)).trans (by go_simp)
  have c1 : w1.cell? ⟨w.heap.size, 1, none⟩ = some (.string ⟨abroad.toArray⟩) := (hb1.cell (p := ⟨w.heap.size, 1, none⟩) (by simp; omega)).trans (by go_simp)
  have c2 : w1.cell? ⟨w.heap.size, 2, none⟩ = some (.string ⟨trunk.toArray⟩) := (hb1.cell (p := ⟨w.heap.size, 2, none⟩) (by simp; omega)).trans (by go_simp)
  have d1 : w1.cell? ⟨w.heap.size + 1, 1, none⟩ = some (.string ⟨area.toArray⟩) := (hb1.cell (p := ⟨w.heap.size + 1, 1, none⟩) (by simp)).trans (by go_simp)
  have HB1 : Hid (Below w.heap.size w w1) := ext_trans (ext_alloc (ext_alloc (Below.refl _ _))) hb1
  have HR1 := Lib.hid (HR.out.below HB1.out)
  have HLN : Hid (digitsB d 1 30 = true → (d.length : Int) ≤ 30) := digits_len
  clear hb1
  generalize digitsB d 1 30 = g at HDEF HLN ⊢
  cases g
  · have HF : Hid (R = (3, [])) := HDEF.out
    as_aux_lemma =>
      go_wp2_with fail
      go_ret2
      exact ⟨by rw [HF.out]; rfl, HB1.out⟩
  · have hdl : d.length ≤ 30 := by have := HLN.out rfl; omega
    have HD2 : Hid (R = match reachN ⟨code, abroad, trunk, aa, an, ac, areas⟩ area d with | none => (8, []) | some n => if (splitP l n).err ≠ 0 then ((splitP l n).err, []) else (0, n)) := HDEF.out
    clear HDEF HLN
    as_aux_lemma =>
      go_wp2_with fail
      refine (cutPrefix_l d abroad _).mono ?_
      rintro e w' ⟨rfl, rfl⟩
      have hta : (Lib.trimPrefix d abroad).length ≤ d.length := Lib.trimPrefix_le _ _
      cases hg1 : Lib.hasPrefix d abroad
      · skip
        as_aux_lemma =>
          go_wp2_with fail
          refine (cutPrefix_l d trunk _).mono ?_
          rintro e w' ⟨rfl, rfl⟩
          have htt : (Lib.trimPrefix d trunk).length ≤ d.length := Lib.trimPrefix_le _ _
          cases hg2 : Lib.hasPrefix d trunk
          · by_cases harea : area = []
            · have HF : Hid (R = (8, [])) := by
                show _ = _
                rw [HD2.out, show reachN ⟨code, abroad, trunk, aa, an, ac, areas⟩ area d = none by unfold reachN; simp only; rw [if_neg (by rw [hg1]; decide), if_neg (by rw [hg2]; decide), if_neg (by simp [harea])]]
              subst harea
              as_aux_lemma =>
                go_wp2_with fail
                go_ret2
                exact ⟨by rw [HF.out]; rfl, HB1.out⟩
            · have hne2 : area.isEmpty = false := by
                cases area with
                | nil => exact absurd rfl harea
                | cons x xs => rfl
              have HAE := Lib.hid harea
              have HG1 := Lib.hid hg1
              have HG2 := Lib.hid hg2
              clear harea
              have HF : Hid (R = if (splitP l ((([43] : List UInt8) ++ code) ++ area ++ d)).err ≠ 0 then ((splitP l ((([43] : List UInt8) ++ code) ++ area ++ d)).err, []) else (0, (([43] : List UInt8) ++ code) ++ area ++ d)) := by
                show _ = _
                rw [HD2.out, show reachN ⟨code, abroad, trunk, aa, an, ac, areas⟩ area d = some ((([43] : List UInt8) ++ code) ++ area ++ d) from (by unfold reachN; simp only; rw [if_neg (by rw [HG1.out]; decide), if_neg (by rw [HG2.out]; decide), if_pos HAE.out]; simp)]
              have hNl : ((([43] : List UInt8) ++ code) ++ area ++ d).length ≤ 1000 := by simp only [List.length_append, List.length_cons, List.length_nil]; omega
              as_aux_lemma =>
                go_wp2_with fail
                rw [cat_str, cat_str, cat_str]
                refine (split_any _ a n cap l (HR1.out.below (by (try show Below _ _ _); repeat (with_reducible first | exact Below.refl _ _ | assumption | exact Hid.out (by assumption) | refine ext_alloc ?_ | refine ext_drewN ?_ | refine ext_drew ?_ | refine ext_setCell ?_ (Nat.le_refl _) | refine ext_setCell ?_ (Nat.le_succ _) | refine ext_trans ?_ (by assumption) | (refine ext_setCell ?_ (by simp)) | (refine ext_setCell ?_ (by simp at *; omega))))) hne HNA.out ((([43] : List UInt8) ++ code) ++ area ++ d) hNl).mono ?_
                rintro e w5 ⟨y0, y1, y2, ya, yn, yc, y4, y5, y6, rfl, hb5⟩
                have HB5 : Hid (Below w.heap.size w w5) := ext_trans HB1.out hb5
                clear hb5
                generalize splitP l ((([43] : List UInt8) ++ code) ++ area ++ d) = X at HF
                generalize (([43] : List UInt8) ++ code) ++ area ++ d = M at *
                obtain ⟨er, x1, x2, x3⟩ := X
                simp only at HF ⊢
                by_cases he : er = 0
                · subst he
                  have HF2 : Hid (R = (0, M)) := HF.out
                  go_wp2_with fail
                  go_ret2
                  exact ⟨by rw [HF2.out]; rfl, ext_alloc HB5.out⟩
                · have HF2 : Hid (R = (er, [])) := by show _ = _; rw [HF.out, if_pos he]
                  go_wp2_with fail
                  go_ret2
                  exact ⟨by rw [HF2.out]; rfl, ext_alloc HB5.out⟩
          · have HG1 := Lib.hid hg1
            have HG2 := Lib.hid hg2
            have HF : Hid (R = if (splitP l ((([43] : List UInt8) ++ code) ++ Lib.trimPrefix d trunk)).err ≠ 0 then ((splitP l ((([43] : List UInt8) ++ code) ++ Lib.trimPrefix d trunk)).err, []) else (0, (([43] : List UInt8) ++ code) ++ Lib.trimPrefix d trunk)) := by
              show _ = _
              rw [HD2.out, show reachN ⟨code, abroad, trunk, aa, an, ac, areas⟩ area d = some ((([43] : List UInt8) ++ code) ++ Lib.trimPrefix d trunk) from (by unfold reachN; simp only; rw [if_neg (by rw [HG1.out]; decide), if_pos HG2.out, trim_drop HG2.out]; simp)]
            have hNl : ((([43] : List UInt8) ++ code) ++ Lib.trimPrefix d trunk).length ≤ 1000 := by simp only [List.length_append, List.length_cons, List.length_nil]; omega
            as_aux_lemma =>
              go_wp2_with fail
              rw [cat_str, cat_str]
              refine (split_any _ a n cap l (HR1.out.below (by (try show Below _ _ _); repeat (with_reducible first | exact Below.refl _ _ | assumption | exact Hid.out (by assumption) | refine ext_alloc ?_ | refine ext_drewN ?_ | refine ext_drew ?_ | refine ext_setCell ?_ (Nat.le_refl _) | refine ext_setCell ?_ (Nat.le_succ _) | refine ext_trans ?_ (by assumption) | (refine ext_setCell ?_ (by simp)) | (refine ext_setCell ?_ (by simp at *; omega))))) hne HNA.out ((([43] : List UInt8) ++ code) ++ Lib.trimPrefix d trunk) hNl).mono ?_
              rintro e w5 ⟨y0, y1, y2, ya, yn, yc, y4, y5, y6, rfl, hb5⟩
              have HB5 : Hid (Below w.heap.size w w5) := ext_trans HB1.out hb5
              clear hb5
              generalize splitP l ((([43] : List UInt8) ++ code) ++ Lib.trimPrefix d trunk) = X at HF
              generalize (([43] : List UInt8) ++ code) ++ Lib.trimPrefix d trunk = M at *
              obtain ⟨er, x1, x2, x3⟩ := X
              simp only at HF ⊢
              by_cases he : er = 0
              · subst he
                have HF2 : Hid (R = (0, M)) := HF.out
                go_wp2_with fail
                go_ret2
                exact ⟨by rw [HF2.out]; rfl, ext_alloc HB5.out⟩
              · have HF2 : Hid (R = (er, [])) := by show _ = _; rw [HF.out, if_pos he]
                go_wp2_with fail
                go_ret2
                exact ⟨by rw [HF2.out]; rfl, ext_alloc HB5.out⟩
      · have HG1 := Lib.hid hg1
        have HF : Hid (R = if (splitP l (([43] : List UInt8) ++ Lib.trimPrefix d abroad)).err ≠ 0 then ((splitP l (([43] : List UInt8) ++ Lib.trimPrefix d abroad)).err, []) else (0, ([43] : List UInt8) ++ Lib.trimPrefix d abroad)) := by
          show _ = _
          rw [HD2.out, show reachN ⟨code, abroad, trunk, aa, an, ac, areas⟩ area d = some (([43] : List UInt8) ++ Lib.trimPrefix d abroad) from (by unfold reachN; simp only; rw [if_pos HG1.out, trim_drop HG1.out]; simp)]
        have hNl : (([43] : List UInt8) ++ Lib.trimPrefix d abroad).length ≤ 1000 := by simp only [List.length_append, List.length_cons, List.length_nil]; omega
        as_aux_lemma =>
          go_wp2_with fail
          rw [cat_str]
          refine (split_any _ a n cap l (HR1.out.below (by (try show Below _ _ _); repeat (with_reducible first | exact Below.refl _ _ | assumption | exact Hid.out (by assumption) | refine ext_alloc ?_ | refine ext_drewN ?_ | refine ext_drew ?_ | refine ext_setCell ?_ (Nat.le_refl _) | refine ext_setCell ?_ (Nat.le_succ _) | refine ext_trans ?_ (by assumption) | (refine ext_setCell ?_ (by simp)) | (refine ext_setCell ?_ (by simp at *; omega))))) hne HNA.out (([43] : List UInt8) ++ Lib.trimPrefix d abroad) hNl).mono ?_
          rintro e w5 ⟨y0, y1, y2, ya, yn, yc, y4, y5, y6, rfl, hb5⟩
          have HB5 : Hid (Below w.heap.size w w5) := ext_trans HB1.out hb5
          clear hb5
          generalize splitP l (([43] : List UInt8) ++ Lib.trimPrefix d abroad) = X at HF
          generalize ([43] : List UInt8) ++ Lib.trimPrefix d abroad = M at *
          obtain ⟨er, x1, x2, x3⟩ := X
          simp only at HF ⊢
          by_cases he : er = 0
          · subst he
            have HF2 : Hid (R = (0, M)) := HF.out
            go_wp2_with fail
            go_ret2
            exact ⟨by rw [HF2.out]; rfl, ext_alloc HB5.out⟩
          · have HF2 : Hid (R = (er, [])) := by show _ = _; rw [HF.out, if_pos he]
            go_wp2_with fail
            go_ret2
            exact ⟨by rw [HF2.out]; rfl, ext_alloc HB5.out⟩
end Go.Proofs.YthajppcmmmkfcaaGreatDoor

set_option linter.unusedVariables false
set_option linter.unusedSimpArgs false
namespace Go.Proofs.YthajppcmmmkfcaaGreatDoor
open Go.RowKit

theorem pre_le {s p : List UInt8} (h : Lib.hasPrefix s p = true) : p.length ≤ s.length := (List.isPrefixOf_iff_prefix.1 h).length_le

set_option maxRecDepth 100000 in
set_option maxHeartbeats 4000000 in
theorem reachedFrom_any (w : World) (a : Option Addr) (n cap : Nat) (l : List Ctry) (hr : CtryRow w a n l) (hcap : n ≤ cap) (hne : 1 ≤ n) (hE : planErr l = 0) (c : Ctry) (code0 area d : List UInt8) (hfc : (l.find? fun c => c.code == code0) = some c) (ha : area.length ≤ 100) (hd : d.length ≤ 1000) :
    Calls Tryz.prog 22 #[.slice a n cap, .agg #[.string ⟨code0.toArray⟩, .string ⟨area.toArray⟩], .string ⟨d.toArray⟩] w (StrPost (reachP l c area d) w) := by
  have HR := Lib.hid hr
  have HLEN := Lib.hid hr.len
  have hfew := hr.few
  have HE0 := Lib.hid hE
  have HFC := Lib.hid hfc
  rcases hr.row with h0 | ⟨b, off, rfl, hb, _⟩
  · omega
  have HDEF : Hid (reachP l c area d = if digitsB d 1 30 = false then ((3 : Int), ([] : List UInt8)) else match reachN c area d with | none => (8, []) | some n => if (splitP l n).err ≠ 0 then ((splitP l n).err, []) else (0, n)) := rfl
  generalize reachP l c area d = R at HDEF ⊢
  clear hr hE hfc
  go_enter Tryz.func22, Tryz.ntmps22
  go_wp2_with fail
  refine (digital_l d 1 30 _ (by omega)).mono ?_
  rintro e w1 ⟨rfl, hb1⟩
  have e0 : w1.cell? ⟨w.heap.size, 0, none⟩ = some (.string ⟨code0.toArray⟩) := (hb1.cell (p := ⟨w.heap.size, 0, none⟩) (by simp)).trans (by go_simp)
  have e1 : w1.cell? ⟨w.heap.size, 1, none⟩ = some (.string ⟨area.toArray⟩) := (hb1.cell (p := ⟨w.heap.size, 1, none⟩) (by simp)).trans (by go_simp)
  have HB1 : Hid (Below w.heap.size w w1) := ext_trans (ext_alloc (Below.refl _ _)) hb1
  have hz1 : w.heap.size < w1.heap.size := by have := hb1.size; simp at this; omega
  have HLN : Hid (digitsB d 1 30 = true → (d.length : Int) ≤ 30) := digits_len
  clear hb1
  generalize digitsB d 1 30 = g at HDEF HLN ⊢
  cases g
  · have HF : Hid (R = (3, [])) := HDEF.out
    as_aux_lemma =>
      go_wp2_with fail
      go_ret2
      exact ⟨by rw [HF.out]; rfl, HB1.out⟩
  · have hdl : d.length ≤ 30 := by have := HLN.out rfl; omega
    have HD2 : Hid (R = match reachN c area d with | none => (8, []) | some n => if (splitP l n).err ≠ 0 then ((splitP l n).err, []) else (0, n)) := HDEF.out
    clear HDEF HLN
    as_aux_lemma =>
      go_wp2_with fail
      refine (countryAt_any _ _ n cap l (HR.out.below HB1.out) hne code0).mono ?_
      rintro e w2 ⟨r, rfl, hcase, hb2⟩
      have e1' := (hb2.cell (p := ⟨w.heap.size, 1, none⟩) hz1).trans e1
      have HB2 : Hid (Below w.heap.size w w2) := ext_trans HB1.out hb2
      have hz2 : w.heap.size < w2.heap.size := Nat.lt_of_lt_of_le hz1 hb2.size
      have HR2 : Hid (∀ W, Below w2.heap.size w2 W → CtryRow W (some ⟨b, off, none⟩) n l) := fun W h => HR.out.below (ext_trans HB2.out h)
      clear hb2 e0 e1 hz1 HB1
      rcases hcase with ⟨rfl, hnone⟩ | ⟨k, rfl, hk, hsome⟩
      · rw [HFC.out] at hnone; cases hnone
      · have hck : l.getD k noCtry = c := by rw [HFC.out] at hsome; injection hsome with h; exact h.symm
        have hRw := HR2.out w2 (Below.refl _ _)
        rcases hRw.row with h0 | ⟨b9, off9, ha9, hb9, hcl⟩
        · omega
        injection ha9 with ha9
        injection ha9 with x1 x2
        subst x1 x2
        have hkn : k < n := by have := HLEN.out; omega
        have k0 := hcl k hkn 0 (by omega)
        have k1 := hcl k hkn 1 (by omega)
        have k2 := hcl k hkn 2 (by omega)
        have k3 := hcl k hkn 3 (by omega)
        have HFI := hRw.each k hk
        rw [hck] at k0 k1 k2 k3 HFI
        clear hcl hsome hck hRw
        obtain ⟨code, abroad, trunk, aa, an, ac, areas⟩ := c
        simp only [Ctry.cells, List.getElem?_cons_zero, List.getElem?_cons_succ, Nat.add_zero] at k0 k1 k2 k3
        have h1 : code.length ≤ 100 := HFI.code
        have h2 : abroad.length ≤ 100 := HFI.abroad
        have h3 : trunk.length ≤ 100 := HFI.trunk
        clear HFI
        have HPA := Lib.hid (fun w => hasPrefix_l d abroad w)
        have HPT := Lib.hid (fun w => hasPrefix_l d trunk w)
        have HLA : Hid (Lib.hasPrefix d abroad = true → abroad.length ≤ d.length) := pre_le
        have HLT : Hid (Lib.hasPrefix d trunk = true → trunk.length ≤ d.length) := pre_le
        as_aux_lemma =>
          go_wp2_with fail
          refine (HPA.out _).mono ?_
          rintro e w' ⟨rfl, rfl⟩
          cases hg1 : Lib.hasPrefix d abroad
          · have HG1 := Lib.hid hg1
            as_aux_lemma =>
              go_wp2_with fail
              refine (HPT.out _).mono ?_
              rintro e w' ⟨rfl, rfl⟩
              cases hg2 : Lib.hasPrefix d trunk
              · have HG2 := Lib.hid hg2
                by_cases harea : area = []
                · have HF : Hid (R = (8, [])) := by
                    show _ = _
                    rw [HD2.out, show reachN ⟨code, abroad, trunk, aa, an, ac, areas⟩ area d = none by unfold reachN; simp only; rw [if_neg (by rw [HG1.out]; decide), if_neg (by rw [HG2.out]; decide), if_neg (by simp [harea])]]
                  subst harea
                  as_aux_lemma =>
                    go_wp2_with fail
                    go_ret2
                    exact ⟨by rw [HF.out]; rfl, ext_alloc HB2.out⟩
                · have hne2 : area.isEmpty = false := by
                    cases area with
                    | nil => exact absurd rfl harea
                    | cons x xs => rfl
                  have HAE := Lib.hid harea
                  clear harea
                  have HF : Hid (R = if (splitP l ((([43] : List UInt8) ++ code) ++ area ++ d)).err ≠ 0 then ((splitP l ((([43] : List UInt8) ++ code) ++ area ++ d)).err, []) else (0, (([43] : List UInt8) ++ code) ++ area ++ d)) := by
                    show _ = _
                    rw [HD2.out, show reachN ⟨code, abroad, trunk, aa, an, ac, areas⟩ area d = some ((([43] : List UInt8) ++ code) ++ area ++ d) from (by unfold reachN; simp only; rw [if_neg (by rw [HG1.out]; decide), if_neg (by rw [HG2.out]; decide), if_pos HAE.out]; simp)]
                  have hNl : ((([43] : List UInt8) ++ code) ++ area ++ d).length ≤ 1000 := by simp only [List.length_append, List.length_cons, List.length_nil, List.length_drop]; omega
                  as_aux_lemma =>
                    go_wp2_with fail
                    rw [cat_str, cat_str, cat_str]
                    refine (splitOf_any _ _ n cap l (HR2.out _ (by (try show Below _ _ _); repeat (with_reducible first | exact Below.refl _ _ | assumption | exact Hid.out (by assumption) | refine ext_alloc ?_ | refine ext_drewN ?_ | refine ext_drew ?_ | refine ext_setCell ?_ (Nat.le_refl _) | refine ext_setCell ?_ (Nat.le_succ _) | refine ext_trans ?_ (by assumption) | (refine ext_setCell ?_ (by simp)) | (refine ext_setCell ?_ (by simp at *; omega))))) hcap ((([43] : List UInt8) ++ code) ++ area ++ d) hNl).mono ?_
                    rintro e w5 ⟨rfl, hb5⟩
                    have HB5 : Hid (Below w.heap.size w w5) := ext_trans (by (try show Below _ _ _); repeat (with_reducible first | exact Below.refl _ _ | assumption | exact Hid.out (by assumption) | refine ext_alloc ?_ | refine ext_drewN ?_ | refine ext_drew ?_ | refine ext_setCell ?_ (Nat.le_refl _) | refine ext_setCell ?_ (Nat.le_succ _) | refine ext_trans ?_ (by assumption) | (refine ext_setCell ?_ (by simp)) | (refine ext_setCell ?_ (by simp at *; omega)))) hb5
                    clear hb5
                    rw [split_same _ HE0.out]
                    generalize splitP l ((([43] : List UInt8) ++ code) ++ area ++ d) = X at HF
                    generalize (([43] : List UInt8) ++ code) ++ area ++ d = M at *
                    obtain ⟨er, x1, x2, x3⟩ := X
                    simp only at HF ⊢
                    by_cases he : er = 0
                    · subst he
                      have HF2 : Hid (R = (0, M)) := HF.out
                      go_wp2_with fail
                      go_ret2
                      exact ⟨by rw [HF2.out]; rfl, ext_alloc HB5.out⟩
                    · have HF2 : Hid (R = (er, [])) := by show _ = _; rw [HF.out, if_pos he]
                      go_wp2_with fail
                      go_ret2
                      exact ⟨by rw [HF2.out]; rfl, ext_alloc HB5.out⟩
              · have HG2 := Lib.hid hg2
                have htl := HLT.out hg2
                have HF : Hid (R = if (splitP l ((([43] : List UInt8) ++ code) ++ d.drop trunk.length)).err ≠ 0 then ((splitP l ((([43] : List UInt8) ++ code) ++ d.drop trunk.length)).err, []) else (0, (([43] : List UInt8) ++ code) ++ d.drop trunk.length)) := by
                  show _ = _
                  rw [HD2.out, show reachN ⟨code, abroad, trunk, aa, an, ac, areas⟩ area d = some ((([43] : List UInt8) ++ code) ++ d.drop trunk.length) from (by unfold reachN; simp only; rw [if_neg (by rw [HG1.out]; decide), if_pos HG2.out]; simp)]
                have hNl : ((([43] : List UInt8) ++ code) ++ d.drop trunk.length).length ≤ 1000 := by simp only [List.length_append, List.length_cons, List.length_nil, List.length_drop]; omega
                as_aux_lemma =>
                  go_wp2_with fail
                  go_quiet (fail)
                  go_wp2_with fail
                  rw [extract_drop, cat_str, cat_str]
                  refine (splitOf_any _ _ n cap l (HR2.out _ (by (try show Below _ _ _); repeat (with_reducible first | exact Below.refl _ _ | assumption | exact Hid.out (by assumption) | refine ext_alloc ?_ | refine ext_drewN ?_ | refine ext_drew ?_ | refine ext_setCell ?_ (Nat.le_refl _) | refine ext_setCell ?_ (Nat.le_succ _) | refine ext_trans ?_ (by assumption) | (refine ext_setCell ?_ (by simp)) | (refine ext_setCell ?_ (by simp at *; omega))))) hcap ((([43] : List UInt8) ++ code) ++ d.drop trunk.length) hNl).mono ?_
                  rintro e w5 ⟨rfl, hb5⟩
                  have HB5 : Hid (Below w.heap.size w w5) := ext_trans (by (try show Below _ _ _); repeat (with_reducible first | exact Below.refl _ _ | assumption | exact Hid.out (by assumption) | refine ext_alloc ?_ | refine ext_drewN ?_ | refine ext_drew ?_ | refine ext_setCell ?_ (Nat.le_refl _) | refine ext_setCell ?_ (Nat.le_succ _) | refine ext_trans ?_ (by assumption) | (refine ext_setCell ?_ (by simp)) | (refine ext_setCell ?_ (by simp at *; omega)))) hb5
                  clear hb5
                  rw [split_same _ HE0.out]
                  generalize splitP l ((([43] : List UInt8) ++ code) ++ d.drop trunk.length) = X at HF
                  generalize (([43] : List UInt8) ++ code) ++ d.drop trunk.length = M at *
                  obtain ⟨er, x1, x2, x3⟩ := X
                  simp only at HF ⊢
                  by_cases he : er = 0
                  · subst he
                    have HF2 : Hid (R = (0, M)) := HF.out
                    go_wp2_with fail
                    go_ret2
                    exact ⟨by rw [HF2.out]; rfl, ext_alloc HB5.out⟩
                  · have HF2 : Hid (R = (er, [])) := by show _ = _; rw [HF.out, if_pos he]
                    go_wp2_with fail
                    go_ret2
                    exact ⟨by rw [HF2.out]; rfl, ext_alloc HB5.out⟩
          · have HG1 := Lib.hid hg1
            have htl := HLA.out hg1
            have HF : Hid (R = if (splitP l (([43] : List UInt8) ++ d.drop abroad.length)).err ≠ 0 then ((splitP l (([43] : List UInt8) ++ d.drop abroad.length)).err, []) else (0, ([43] : List UInt8) ++ d.drop abroad.length)) := by
              show _ = _
              rw [HD2.out, show reachN ⟨code, abroad, trunk, aa, an, ac, areas⟩ area d = some (([43] : List UInt8) ++ d.drop abroad.length) from (by unfold reachN; simp only; rw [if_pos HG1.out]; simp)]
            have hNl : (([43] : List UInt8) ++ d.drop abroad.length).length ≤ 1000 := by simp only [List.length_append, List.length_cons, List.length_nil, List.length_drop]; omega
            as_aux_lemma =>
              go_wp2_with fail
              rw [extract_drop, cat_str]
              refine (splitOf_any _ _ n cap l (HR2.out _ (by (try show Below _ _ _); repeat (with_reducible first | exact Below.refl _ _ | assumption | exact Hid.out (by assumption) | refine ext_alloc ?_ | refine ext_drewN ?_ | refine ext_drew ?_ | refine ext_setCell ?_ (Nat.le_refl _) | refine ext_setCell ?_ (Nat.le_succ _) | refine ext_trans ?_ (by assumption) | (refine ext_setCell ?_ (by simp)) | (refine ext_setCell ?_ (by simp at *; omega))))) hcap (([43] : List UInt8) ++ d.drop abroad.length) hNl).mono ?_
              rintro e w5 ⟨rfl, hb5⟩
              have HB5 : Hid (Below w.heap.size w w5) := ext_trans (by (try show Below _ _ _); repeat (with_reducible first | exact Below.refl _ _ | assumption | exact Hid.out (by assumption) | refine ext_alloc ?_ | refine ext_drewN ?_ | refine ext_drew ?_ | refine ext_setCell ?_ (Nat.le_refl _) | refine ext_setCell ?_ (Nat.le_succ _) | refine ext_trans ?_ (by assumption) | (refine ext_setCell ?_ (by simp)) | (refine ext_setCell ?_ (by simp at *; omega)))) hb5
              clear hb5
              rw [split_same _ HE0.out]
              generalize splitP l (([43] : List UInt8) ++ d.drop abroad.length) = X at HF
              generalize ([43] : List UInt8) ++ d.drop abroad.length = M at *
              obtain ⟨er, x1, x2, x3⟩ := X
              simp only at HF ⊢
              by_cases he : er = 0
              · subst he
                have HF2 : Hid (R = (0, M)) := HF.out
                go_wp2_with fail
                go_ret2
                exact ⟨by rw [HF2.out]; rfl, ext_alloc HB5.out⟩
              · have HF2 : Hid (R = (er, [])) := by show _ = _; rw [HF.out, if_pos he]
                go_wp2_with fail
                go_ret2
                exact ⟨by rw [HF2.out]; rfl, ext_alloc HB5.out⟩
end Go.Proofs.YthajppcmmmkfcaaGreatDoor

set_option linter.unusedVariables false
set_option linter.unusedSimpArgs false
namespace Go.Proofs.YthajppcmmmkfcaaGreatDoor
open Go.RowKit

def strSz : Value → Nat
  | .string b => b.size
  | _ => 0
theorem strSz_l (l : List UInt8) : strSz (.string ⟨l.toArray⟩) = l.length := rfl
theorem ext_take (l : List UInt8) (k : Nat) : (⟨l.toArray⟩ : ByteArray).extract 0 k = ⟨(l.take k).toArray⟩ := by
  rw [Lib.extract_eq]
  simp

set_option maxRecDepth 100000 in
set_option maxHeartbeats 2000000 in
theorem groups_any (s : List UInt8) (hs : s.length ≤ 1000) (w : World) : Calls Tryz.prog 77 #[.string ⟨s.toArray⟩] w fun e w' => e = .returned (.string ⟨(groupsB s).toArray⟩) ∧ w' = w := by
  go_enter Tryz.func77, Tryz.ntmps77
  go_wp2_with fail
  go_loopw [0, 3] (fun x y wr => ∃ o r : List UInt8, x = .string ⟨r.toArray⟩ ∧ y = .string ⟨o.toArray⟩ ∧ Hid (o ++ groupsB r = groupsB s) ∧ o.length + 2 * r.length ≤ 2 * s.length ∧ Hid (wr = w)) (fun x _ _ => strSz x)
  case atStart => exact ⟨[], s, rfl, rfl, rfl, by simp, rfl⟩
  case round =>
    obtain ⟨o, r, rfl, rfl, HG, hlen, HW⟩ := hrel
    by_cases hlt : 4 < r.length
    · have h3 : 3 ≤ r.length := by omega
      have HG2 : Hid ((o ++ (r.take 3 ++ [45])) ++ groupsB (r.drop 3) = groupsB s) := by
        show _ = _
        rw [← HG.out, groups_more hlt]
        simp
      have htk : (r.take 3).length = 3 := by simp; omega
      go_wp2_with fail
      rw [ext_take, extract_drop, cat_str, cat_str]
      go_roundw
      case rel => exact ⟨_, _, rfl, rfl, HG2, by simp; omega, HW⟩
      case measure => rw [strSz_l, strSz_l]; simp; omega
    · have HF : Hid (o ++ r = groupsB s) := by show _ = _; rw [← HG.out, groups_end hlt]
      have hol : o.length ≤ 2000 := by omega
      go_wp2_with fail
      rw [cat_str]
      go_ret
      exact ⟨by rw [← HF.out]; rfl, HW.out⟩
end Go.Proofs.YthajppcmmmkfcaaGreatDoor

set_option linter.unusedVariables false
set_option linter.unusedSimpArgs false
namespace Go.Proofs.YthajppcmmmkfcaaGreatDoor
open Go.RowKit

/-- What open answers. -/
def OpenPost (l : List Ctry) (code area : List UInt8) (w : World) (e : Ending) (w' : World) : Prop :=
  ((∃ c, planErr l = 0 ∧ homeC l code area = some c ∧ e = .returned (.tuple #[.agg c.cells.toArray, .agg (homeX c area).cells.toArray, .int .i64 0])) ∨ (∃ er : Int, er ≠ 0 ∧ (planErr l = er ∨ planErr l = 0 ∧ er = 8 ∧ homeC l code area = none) ∧ e = .returned (.tuple #[.agg noCtry.cells.toArray, .agg noArea.cells.toArray, .int .i64 er]))) ∧ Below w.heap.size w w'

theorem stores2 {H : Nat} {w wr : World} (tc : wr.there (H + 1) 0 4) (td : wr.there (H + 1 + 1) 0 3) (hb : Below w.heap.size w wr) (hH : w.heap.size ≤ H) (t1 t2 : Tmp) (cs ds : List Value) (hc : cs.length = 4) (hd : ds.length = 3) (oc : cs.toArray.all (·.oneCell') = true) (od : ds.toArray.all (·.oneCell') = true) : ∃ W8 W9 : World,
    (∀ (ops : Array Oper) (rest : List Oper) (op : Oper) (a : Act) (Q : Exit → Act → World → Prop), op.guard = none → op.op = .store 68 (.tmp 4) (.tmp t1) → a.eval (.tmp 4) = .pointer (some ⟨H + 1, 0, none⟩) → a.eval (.tmp t1) = .agg cs.toArray → wpList Tryz.prog ops Q rest (a.put op.dst undef) W8 → wpList Tryz.prog ops Q (op :: rest) a wr) ∧
    (∀ (ops : Array Oper) (rest : List Oper) (op : Oper) (a : Act) (Q : Exit → Act → World → Prop), op.guard = none → op.op = .store 72 (.tmp 5) (.tmp t2) → a.eval (.tmp 5) = .pointer (some ⟨H + 1 + 1, 0, none⟩) → a.eval (.tmp t2) = .agg ds.toArray → wpList Tryz.prog ops Q rest (a.put op.dst undef) W9 → wpList Tryz.prog ops Q (op :: rest) a W8) ∧
    (∀ j v, cs[j]? = some v → W9.cell? ⟨H + 1, j, none⟩ = some v) ∧ (∀ j v, ds[j]? = some v → W9.cell? ⟨H + 1 + 1, j, none⟩ = some v) ∧ Below w.heap.size w W9 := by
  have t2' : (wr.setCells (H + 1) 0 cs).there (H + 1 + 1) 0 3 := World.there_setCells td _ _ _
  have r1 := World.rangeAt_setCells_same wr (H + 1) 0 cs (by rw [hc]; exact tc)
  have r2 := World.rangeAt_setCells_same (wr.setCells (H + 1) 0 cs) (H + 1 + 1) 0 ds (by rw [hd]; exact t2')
  have z1 : cs.toArray.size = 4 := by simpa using hc
  have z2 : ds.toArray.size = 3 := by simpa using hd
  refine ⟨wr.setCells (H + 1) 0 cs, (wr.setCells (H + 1) 0 cs).setCells (H + 1 + 1) 0 ds, fun ops rest op a Q hg ho hx hy hh => wpList_store_mid hg 68 (.tmp 4) (.tmp t1) ho (H + 1) 0 cs.toArray hx hy (by rw [z1]; exact tc) (by rw [z1]; exact ctry_size) oc (by rw [List.toList_toArray]; exact hh), fun ops rest op a Q hg ho hx hy hh => wpList_store_mid hg 72 (.tmp 5) (.tmp t2) ho (H + 1 + 1) 0 ds.toArray hx hy (by rw [z2]; exact t2') (by rw [z2]; exact area_size) od (by rw [List.toList_toArray]; exact hh), fun j v hj => ?_, fun j v hj => ?_, setCells_ext (by omega) _ _ _ (setCells_ext (by omega) _ _ _ hb)⟩
  · have := World.rangeAt_setCells_apart r1 (H + 1 + 1) 0 ds (Or.inl (by omega)) j v hj
    rwa [Nat.zero_add] at this
  · have := r2 j v hj
    rwa [Nat.zero_add] at this

set_option maxRecDepth 100000 in
set_option maxHeartbeats 4000000 in
theorem open_any (w : World) (a : Option Addr) (n cap : Nat) (l : List Ctry) (hr : CtryRow w a n l) (hcap : n ≤ cap) (hne : 1 ≤ n) (code area : List UInt8) : Calls Tryz.prog 48 #[.slice a n cap, .agg #[.string ⟨code.toArray⟩, .string ⟨area.toArray⟩]] w (OpenPost l code area w) := by
  have HR := Lib.hid hr
  clear hr
  go_enter Tryz.func48, Tryz.ntmps48
  go_wp2_with fail
  refine (checkPlan_any _ a n cap l (HR.out.below (ext_alloc (ext_alloc (ext_alloc (Below.refl _ _))))) hcap).mono ?_
  rintro e w1 ⟨rfl, hb1⟩
  have HB1 : Hid (Below w.heap.size w w1) := ext_trans (ext_alloc (ext_alloc (ext_alloc (Below.refl _ _)))) hb1
  have h0 : w1.cell? ⟨w.heap.size, 0, none⟩ = some (.string ⟨code.toArray⟩) := (hb1.cell (p := ⟨w.heap.size, 0, none⟩) (by simp; omega)).trans (by go_simp)
  have h1 : w1.cell? ⟨w.heap.size, 1, none⟩ = some (.string ⟨area.toArray⟩) := (hb1.cell (p := ⟨w.heap.size, 1, none⟩) (by simp; omega)).trans (by go_simp)
  have htc : Hid (w1.there (w.heap.size + 1) 0 4) := thereB (fun j hj => by
    match j, hj with
    | 0, _ | 1, _ | 2, _ | 3, _ => exact ⟨by go_simp, by go_simp⟩) hb1 (by simp)
  have htd : Hid (w1.there (w.heap.size + 1 + 1) 0 3) := thereB (fun j hj => by
    match j, hj with
    | 0, _ | 1, _ | 2, _ => exact ⟨by go_simp, by go_simp⟩) hb1 (by simp)
  have hz1 : w.heap.size + 3 ≤ w1.heap.size := by have := hb1.size; simp at this; omega
  have HZ := Lib.hid hz1
  have hzl : w.heap.size < w1.heap.size := by omega
  have HRN := Lib.hid (HR.out.below HB1.out)
  clear hb1 hz1
  have HEQ : Hid (∀ E, planErr l = E → planErr l = E) := fun E h => h
  generalize hE : planErr l = E
  have HEE := Lib.hid (HEQ.out E hE)
  clear hE HEQ
  by_cases he : E = 0
  · subst he
    as_aux_lemma =>
      go_wp2_with fail
      refine (home_any _ a n cap l HRN.out hcap hne code area).mono ?_
      rintro e w2 ⟨⟨c, hcase⟩, hb2⟩
      rcases hcase with ⟨hs, rfl⟩ | ⟨hs, rfl⟩
      · have HS := Lib.hid hs
        clear hs
        generalize hxx : homeX c area = x
        have HXX := Lib.hid hxx
        clear hxx
        obtain ⟨xp, xl, xh⟩ := x
        obtain ⟨code2, abroad, trunk, aa, an, ac, areas⟩ := c
        simp only [Ctry.cells, Area.cells]
        obtain ⟨W8, W9, hd1, hd2, he1, he2, he3⟩ := stores2 (thereB htc.out hb2 (by have := HZ.out; omega)) (thereB htd.out hb2 (by have := HZ.out; omega)) (ext_trans HB1.out hb2) (Nat.le_refl _) 18 19 [.string ⟨code2.toArray⟩, .string ⟨abroad.toArray⟩, .string ⟨trunk.toArray⟩, .slice aa an ac] [.string ⟨xp.toArray⟩, .int .i64 xl, .int .i64 xh] rfl rfl (by simp [Value.oneCell', Area.cells]) (by simp [Value.oneCell', Area.cells])
        have HD1 := Lib.hid hd1
        have HD2 := Lib.hid hd2
        have HE := Lib.hid (And.intro he1 (And.intro he2 he3))
        clear hd1 hd2 he1 he2 he3 h0 h1 hb2
        as_aux_lemma =>
          go_wp2_with (first | (refine HD1.out _ _ _ _ _ (by rfl) (by rfl) (by rfl) (by rfl) ?_) | (refine HD2.out _ _ _ _ _ (by rfl) (by rfl) (by rfl) (by rfl) ?_))
          refine bodyPost_ret (?_ : _ = Result.ok (.tuple #[.agg [.string ⟨code2.toArray⟩, .string ⟨abroad.toArray⟩, .string ⟨trunk.toArray⟩, .slice aa an ac].toArray, .agg [.string ⟨xp.toArray⟩, .int .i64 xl, .int .i64 xh].toArray, .int .i64 0]) _) rfl ?_
          · exact results_cell3 (t := 4) (t2 := 5) (u := 6) (by rfl) _ _ _ Tryz.isAgg68 Tryz.sizeOf68 (by rfl) Tryz.isAgg72 Tryz.sizeOf72 (by rfl) [.string ⟨code2.toArray⟩, .string ⟨abroad.toArray⟩, .string ⟨trunk.toArray⟩, .slice aa an ac] rfl HE.out.1 [.string ⟨xp.toArray⟩, .int .i64 xl, .int .i64 xh] rfl HE.out.2.1
          exact ⟨Or.inl ⟨_, HEE.out, HS.out, by rw [HXX.out]; rfl⟩, HE.out.2.2⟩
      · have HS := Lib.hid hs
        clear hs
        simp only [Ctry.cells, Area.cells, noCtry, noArea]
        obtain ⟨W8, W9, hd1, hd2, he1, he2, he3⟩ := stores2 (thereB htc.out hb2 (by have := HZ.out; omega)) (thereB htd.out hb2 (by have := HZ.out; omega)) (ext_trans HB1.out hb2) (Nat.le_refl _) 18 19 [.string ⟨#[]⟩, .string ⟨#[]⟩, .string ⟨#[]⟩, .slice none 0 0] [.string ⟨#[]⟩, .int .i64 0, .int .i64 0] rfl rfl (by simp [Value.oneCell', Area.cells]) (by simp [Value.oneCell', Area.cells])
        have HD1 := Lib.hid hd1
        have HD2 := Lib.hid hd2
        have HE := Lib.hid (And.intro he1 (And.intro he2 he3))
        clear hd1 hd2 he1 he2 he3 h0 h1 hb2
        as_aux_lemma =>
          go_wp2_with (first | (refine HD1.out _ _ _ _ _ (by rfl) (by rfl) (by rfl) (by rfl) ?_) | (refine HD2.out _ _ _ _ _ (by rfl) (by rfl) (by rfl) (by rfl) ?_))
          refine bodyPost_ret (?_ : _ = Result.ok (.tuple #[.agg [.string ⟨#[]⟩, .string ⟨#[]⟩, .string ⟨#[]⟩, .slice none 0 0].toArray, .agg [.string ⟨#[]⟩, .int .i64 0, .int .i64 0].toArray, .int .i64 8]) _) rfl ?_
          · exact results_cell3 (t := 4) (t2 := 5) (u := 6) (by rfl) _ _ _ Tryz.isAgg68 Tryz.sizeOf68 (by rfl) Tryz.isAgg72 Tryz.sizeOf72 (by rfl) [.string ⟨#[]⟩, .string ⟨#[]⟩, .string ⟨#[]⟩, .slice none 0 0] rfl HE.out.1 [.string ⟨#[]⟩, .int .i64 0, .int .i64 0] rfl HE.out.2.1
          exact ⟨Or.inr ⟨8, by decide, Or.inr ⟨HEE.out, rfl, HS.out⟩, rfl⟩, HE.out.2.2⟩
  · obtain ⟨W8, W9, hd1, hd2, he1, he2, he3⟩ := stores2 htc.out htd.out HB1.out (Nat.le_refl _) 12 13 [.string ⟨#[]⟩, .string ⟨#[]⟩, .string ⟨#[]⟩, .slice none 0 0] [.string ⟨#[]⟩, .int .i64 0, .int .i64 0] rfl rfl (by simp [Value.oneCell']) (by simp [Value.oneCell'])
    have HD1 := Lib.hid hd1
    have HD2 := Lib.hid hd2
    have HE := Lib.hid (And.intro he1 (And.intro he2 he3))
    clear hd1 hd2 he1 he2 he3 h0 h1
    as_aux_lemma =>
      go_wp2_with (first | (refine HD1.out _ _ _ _ _ (by rfl) (by rfl) (by rfl) (by rfl) ?_) | (refine HD2.out _ _ _ _ _ (by rfl) (by rfl) (by rfl) (by rfl) ?_))
      refine bodyPost_ret (?_ : _ = Result.ok (.tuple #[.agg #[.string ⟨#[]⟩, .string ⟨#[]⟩, .string ⟨#[]⟩, .slice none 0 0], .agg #[.string ⟨#[]⟩, .int .i64 0, .int .i64 0], .int .i64 E]) _) rfl ?_
      · exact results_cell3 (t := 4) (t2 := 5) (u := 6) (by rfl) _ _ _ Tryz.isAgg68 Tryz.sizeOf68 (by rfl) Tryz.isAgg72 Tryz.sizeOf72 (by rfl) [.string ⟨#[]⟩, .string ⟨#[]⟩, .string ⟨#[]⟩, .slice none 0 0] rfl HE.out.1 [.string ⟨#[]⟩, .int .i64 0, .int .i64 0] rfl HE.out.2.1
      exact ⟨Or.inr ⟨E, he, Or.inl HEE.out, rfl⟩, HE.out.2.2⟩
end Go.Proofs.YthajppcmmmkfcaaGreatDoor

set_option linter.unusedVariables false
set_option linter.unusedSimpArgs false
namespace Go.Proofs.YthajppcmmmkfcaaGreatDoor
open Go.RowKit

theorem spl_len {w : World} {a : Option Addr} {n : Nat} {l : List Ctry} (hr : CtryRow w a n l) (s : List UInt8) : (splitP l s).code.length ≤ 100 ∧ (splitP l s).area.length ≤ 100 ∧ (splitP l s).rest.length ≤ s.length := by
  unfold splitP
  split
  · simp [noSpl]
  · unfold splitIn
    cases hf : l.find? (fun c => Lib.hasPrefix (s.drop 1) c.code) with
    | none => simp [noSpl]
    | some c =>
      obtain ⟨i, hi, rfl⟩ := List.getElem_of_mem (List.mem_of_find?_eq_some hf)
      have hfin := hr.each i hi
      rw [show l.getD i noCtry = l[i] by simp [hi]] at hfin
      simp only [Option.bind_some]
      unfold inAreas
      cases hg : l[i].areas.find? (fun a => Lib.hasPrefix (s.drop (1 + l[i].code.length)) a.pre) with
      | none => simp [noSpl]
      | some x =>
        obtain ⟨j, hj, rfl⟩ := List.getElem_of_mem (List.mem_of_find?_eq_some hg)
        have hx := hfin.each j hj
        rw [show l[i].areas.getD j noArea = l[i].areas[j] by simp [hj]] at hx
        simp only [Option.map_some, Option.getD_some]
        unfold inArea
        split
        · simp [noSpl]
        · exact ⟨hfin.code, hx.pre, by simp⟩
theorem ctry_len {w : World} {a : Option Addr} {n : Nat} {l : List Ctry} (hr : CtryRow w a n l) {p : Ctry → Bool} {c : Ctry} (h : l.find? p = some c) : c.code.length ≤ 100 ∧ c.abroad.length ≤ 100 ∧ c.trunk.length ≤ 100 := by
  obtain ⟨i, hi, rfl⟩ := List.getElem_of_mem (List.mem_of_find?_eq_some h)
  have := hr.each i hi
  rw [show l.getD i noCtry = l[i] by simp [hi]] at this
  exact ⟨this.code, this.abroad, this.trunk⟩

def formTop (l : List Ctry) (code area n : List UInt8) : Int × List UInt8 :=
  if planErr l ≠ 0 then (planErr l, []) else match homeC l code area with
    | none => (8, [])
    | some c => if (splitP l n).err ≠ 0 then ((splitP l n).err, []) else (0, formP c (splitP l n))

set_option maxRecDepth 100000 in
set_option maxHeartbeats 4000000 in
theorem form_any (w : World) (a : Option Addr) (n cap : Nat) (l : List Ctry) (hr : CtryRow w a n l) (hcap : n ≤ cap) (hne : 1 ≤ n) (hna : ∀ i, i < l.length → 1 ≤ (l.getD i noCtry).an) (code0 area s : List UInt8) (hs : s.length ≤ 1000) :
    Calls Tryz.prog 29 #[.slice a n cap, .agg #[.string ⟨code0.toArray⟩, .string ⟨area.toArray⟩], .string ⟨s.toArray⟩] w (StrPost (formTop l code0 area s) w) := by
  have HR := Lib.hid hr
  have HNA := Lib.hid hna
  have HDEF : Hid (formTop l code0 area s = if planErr l ≠ 0 then (planErr l, ([] : List UInt8)) else match homeC l code0 area with | none => (8, []) | some c => if (splitP l s).err ≠ 0 then ((splitP l s).err, []) else (0, formP c (splitP l s))) := rfl
  generalize formTop l code0 area s = R at HDEF ⊢
  clear hr hna
  go_enter Tryz.func29, Tryz.ntmps29
  go_wp2_with fail
  refine (open_any _ a n cap l (HR.out.below (ext_alloc (Below.refl _ _))) hcap hne code0 area).mono ?_
  rintro e w1 ⟨hcase, hb1⟩
  have HB1 : Hid (Below w.heap.size w w1) := ext_trans (ext_alloc (Below.refl _ _)) hb1
  clear hb1
  rcases hcase with ⟨c, hpe, hhc, rfl⟩ | ⟨er, her, hcase, rfl⟩
  · have hcl := ctry_len HR.out (p := homeP code0 area) hhc
    have HD2 : Hid (R = if (splitP l s).err ≠ 0 then ((splitP l s).err, ([] : List UInt8)) else (0, formP c (splitP l s))) := by
      show _ = _
      rw [HDEF.out, if_neg (by simp [hpe]), hhc]
    clear HDEF hpe hhc
    generalize homeX c area = x
    obtain ⟨xp, xl, xh⟩ := x
    obtain ⟨code, abroad, trunk, aa, an, ac, areas⟩ := c
    obtain ⟨h1, h2, h3⟩ := hcl
    simp only [Ctry.cells, Area.cells] at h1 h2 h3 ⊢
    as_aux_lemma =>
      go_wp2_with fail
      refine (split_any _ a n cap l (HR.out.below (by (try show Below _ _ _); repeat (with_reducible first | exact Below.refl _ _ | assumption | exact Hid.out (by assumption) | refine ext_alloc ?_ | refine ext_drewN ?_ | refine ext_drew ?_ | refine ext_setCell ?_ (Nat.le_refl _) | refine ext_setCell ?_ (Nat.le_succ _) | refine ext_trans ?_ (by assumption) | (refine ext_setCell ?_ (by simp)) | (refine ext_setCell ?_ (by simp at *; omega))))) hne HNA.out s hs).mono ?_
      rintro e w5 ⟨y0, y1, y2, ya, yn, yc, y4, y5, y6, rfl, hb5⟩
      have c0 : w5.cell? ⟨w1.heap.size, 0, none⟩ = some (.string ⟨code.toArray⟩) := (hb5.cell (p := ⟨w1.heap.size, 0, none⟩) (by simp; omega)).trans (by go_simp)
      have c2 : w5.cell? ⟨w1.heap.size, 2, none⟩ = some (.string ⟨trunk.toArray⟩) := (hb5.cell (p := ⟨w1.heap.size, 2, none⟩) (by simp; omega)).trans (by go_simp)
      have hz5 : w1.heap.size < w5.heap.size := by have := hb5.size; simp at this; omega
      have HB5 : Hid (Below w.heap.size w w5) := ext_trans (by (try show Below _ _ _); repeat (with_reducible first | exact Below.refl _ _ | assumption | exact Hid.out (by assumption) | refine ext_alloc ?_ | refine ext_drewN ?_ | refine ext_drew ?_ | refine ext_setCell ?_ (Nat.le_refl _) | refine ext_setCell ?_ (Nat.le_succ _) | refine ext_trans ?_ (by assumption) | (refine ext_setCell ?_ (by simp)) | (refine ext_setCell ?_ (by simp at *; omega)))) hb5
      obtain ⟨z1, z2, z3⟩ := spl_len HR.out s
      clear hb5
      generalize splitP l s = X at HD2 z1 z2 z3 ⊢
      obtain ⟨er, x1, x2, x3⟩ := X
      simp only at HD2 z1 z2 z3 ⊢
      generalize w1.heap.size = G at *
      by_cases he : er = 0
      · subst he
        have HD3 := HD2
        by_cases hcode : x1 = code
        · obtain rfl : code = x1 := hcode.symm
          have HP : Hid (formP ⟨code, abroad, trunk, aa, an, ac, areas⟩ ⟨0, code, x2, x3⟩ = (((([40] : List UInt8) ++ trunk) ++ x2) ++ ([41, 32] : List UInt8)) ++ groupsB x3) := by
            show _ = _
            unfold formP formPre
            simp only
            rw [if_pos trivial]
            simp
          as_aux_lemma =>
            go_wp2_with fail
            rw [cat_str, cat_str, cat_str]
            have hPl : (((([40] : List UInt8) ++ trunk) ++ x2) ++ ([41, 32] : List UInt8)).length ≤ 400 := by simp only [List.length_append, List.length_cons, List.length_nil]; omega
            generalize ((([40] : List UInt8) ++ trunk) ++ x2) ++ ([41, 32] : List UInt8) = p0 at *
            go_loopw [12, 13] (fun y x wr => ∃ o r : List UInt8, y = .string ⟨o.toArray⟩ ∧ x = .string ⟨r.toArray⟩ ∧ Hid (o ++ groupsB r = p0 ++ groupsB x3) ∧ o.length + 2 * r.length ≤ 3000 ∧ Hid (Below w.heap.size w wr)) (fun _ x _ => strSz x)
            case atStart => exact ⟨p0, x3, rfl, rfl, rfl, by omega, (by (try show Below _ _ _); repeat (with_reducible first | exact Below.refl _ _ | assumption | exact Hid.out (by assumption) | refine ext_alloc ?_ | refine ext_drewN ?_ | refine ext_drew ?_ | refine ext_setCell ?_ (Nat.le_refl _) | refine ext_setCell ?_ (Nat.le_succ _) | refine ext_trans ?_ (by assumption) | (refine ext_setCell ?_ (by simp)) | (refine ext_setCell ?_ (by simp at *; omega))))⟩
            case round =>
              obtain ⟨o, r, rfl, rfl, HG, hlen, HBR⟩ := hrel
              by_cases hlt : 4 < r.length
              · have h3' : 3 ≤ r.length := by omega
                have HG2 : Hid ((o ++ (r.take 3 ++ [45])) ++ groupsB (r.drop 3) = p0 ++ groupsB x3) := by
                  show _ = _
                  rw [← HG.out, groups_more hlt]
                  simp
                have htk : (r.take 3).length = 3 := by simp; omega
                go_wp2_with fail
                rw [ext_take, extract_drop, cat_str, cat_str]
                go_roundw
                case rel => exact ⟨_, _, rfl, rfl, HG2, by simp; omega, HBR⟩
                case measure => rw [strSz_l, strSz_l]; simp; omega
              · have HF : Hid (R = (0, o ++ r)) := by
                  show _ = _
                  rw [HD3.out, if_neg (by simp), HP.out, ← HG.out, groups_end hlt]
                have hol : o.length ≤ 3000 := by omega
                go_wp2_with fail
                rw [cat_str]
                go_ret2
                exact ⟨by rw [HF.out]; rfl, HBR.out⟩
        · have hne2 : (x1 == code) = false := by simpa using hcode
          have hne3 : ¬ (x1 = code) := hcode
          have HP : Hid (formP ⟨code, abroad, trunk, aa, an, ac, areas⟩ ⟨0, x1, x2, x3⟩ = ((((([43] : List UInt8) ++ x1) ++ ([32] : List UInt8)) ++ x2) ++ ([32] : List UInt8)) ++ groupsB x3) := by
            show _ = _
            unfold formP formPre
            simp only
            rw [if_neg hne3]
            simp
          as_aux_lemma =>
            go_wp2_with fail
            simp only [cat_str]
            have hPl : ((((([43] : List UInt8) ++ x1) ++ ([32] : List UInt8)) ++ x2) ++ ([32] : List UInt8)).length ≤ 400 := by simp only [List.length_append, List.length_cons, List.length_nil]; omega
            generalize (((([43] : List UInt8) ++ x1) ++ ([32] : List UInt8)) ++ x2) ++ ([32] : List UInt8) = p0 at *
            go_loopw [12, 13] (fun y x wr => ∃ o r : List UInt8, y = .string ⟨o.toArray⟩ ∧ x = .string ⟨r.toArray⟩ ∧ Hid (o ++ groupsB r = p0 ++ groupsB x3) ∧ o.length + 2 * r.length ≤ 3000 ∧ Hid (Below w.heap.size w wr)) (fun _ x _ => strSz x)
            case atStart => exact ⟨p0, x3, rfl, rfl, rfl, by omega, (by (try show Below _ _ _); repeat (with_reducible first | exact Below.refl _ _ | assumption | exact Hid.out (by assumption) | refine ext_alloc ?_ | refine ext_drewN ?_ | refine ext_drew ?_ | refine ext_setCell ?_ (Nat.le_refl _) | refine ext_setCell ?_ (Nat.le_succ _) | refine ext_trans ?_ (by assumption) | (refine ext_setCell ?_ (by simp)) | (refine ext_setCell ?_ (by simp at *; omega))))⟩
            case round =>
              obtain ⟨o, r, rfl, rfl, HG, hlen, HBR⟩ := hrel
              by_cases hlt : 4 < r.length
              · have h3' : 3 ≤ r.length := by omega
                have HG2 : Hid ((o ++ (r.take 3 ++ [45])) ++ groupsB (r.drop 3) = p0 ++ groupsB x3) := by
                  show _ = _
                  rw [← HG.out, groups_more hlt]
                  simp
                have htk : (r.take 3).length = 3 := by simp; omega
                go_wp2_with fail
                rw [ext_take, extract_drop, cat_str, cat_str]
                go_roundw
                case rel => exact ⟨_, _, rfl, rfl, HG2, by simp; omega, HBR⟩
                case measure => rw [strSz_l, strSz_l]; simp; omega
              · have HF : Hid (R = (0, o ++ r)) := by
                  show _ = _
                  rw [HD3.out, if_neg (by simp), HP.out, ← HG.out, groups_end hlt]
                have hol : o.length ≤ 3000 := by omega
                go_wp2_with fail
                rw [cat_str]
                go_ret2
                exact ⟨by rw [HF.out]; rfl, HBR.out⟩
      · have HF2 : Hid (R = (er, [])) := by show _ = _; rw [HD2.out, if_pos he]
        as_aux_lemma =>
          go_wp2_with fail
          go_ret2
          exact ⟨by rw [HF2.out]; rfl, ext_alloc HB5.out⟩
  · have HF : Hid (R = (er, [])) := by
      show _ = _
      rcases hcase with h | ⟨h, rfl, h2⟩
      · rw [HDEF.out, if_pos (by rw [h]; exact her), h]
      · rw [HDEF.out, if_neg (by simp [h]), h2]
    clear HDEF hcase
    simp only [Ctry.cells, Area.cells, noCtry, noArea]
    as_aux_lemma =>
      go_wp2_with fail
      go_ret2
      exact ⟨by rw [HF.out]; rfl, (by (try show Below _ _ _); repeat (with_reducible first | exact Below.refl _ _ | assumption | exact Hid.out (by assumption) | refine ext_alloc ?_ | refine ext_drewN ?_ | refine ext_drew ?_ | refine ext_setCell ?_ (Nat.le_refl _) | refine ext_setCell ?_ (Nat.le_succ _) | refine ext_trans ?_ (by assumption) | (refine ext_setCell ?_ (by simp)) | (refine ext_setCell ?_ (by simp at *; omega))))⟩
end Go.Proofs.YthajppcmmmkfcaaGreatDoor
