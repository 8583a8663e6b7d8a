/- What is proved here: lemmas and contracts for the statement, put together out of smaller texts (PortMath, EncS, WayLaw, PlanBuild, IntRows, StrBytes, WayOwn, PortRows, NumberK, CarrMath, CarrTurn, Stream, Picks, RegionGen). No condition beyond those stated. -/
import Derived.Test.YtleagenhnchjdaaGreatDoorRaPkA
import Derived.Lib.OwnBridge
import Derived.Deep.AppendLies
import Derived.Laws.AppendOwn
import Derived.Laws.BytesString
import Derived.Laws.IdiomStrings
import Derived.StillTailTactics
import Derived.Test.YtleagenhnchjdaaGreatDoorShelfHas
set_option linter.unusedVariables false
set_option linter.unusedSimpArgs false
namespace Go.Proofs.YtleagenhnchjdaaGreatDoor
open Go.RowKit

/-- The whole number that digits spell behind another. -/
def decT (acc : Nat) : List UInt8 → Nat
  | [] => acc
  | b :: r => decT (acc * 10 + (b.toNat - 48)) r
theorem digs_cons {b : UInt8} {r : List UInt8} (h : digs (b :: r) = true) : 48 ≤ b.toNat ∧ b.toNat ≤ 57 ∧ digs r = true := by
  unfold digs at h ⊢
  simpa [and_assoc] using h
theorem dec_some : ∀ (l : List UInt8) (acc : Nat), digs l = true → Lib.decFrom acc l = some (decT acc l)
  | [], acc, _ => rfl
  | b :: r, acc, h => by
    obtain ⟨h1, h2, h3⟩ := digs_cons h
    unfold Lib.decFrom decT Lib.digitVal
    rw [if_pos ⟨h1, h2⟩]
    exact dec_some r _ h3
theorem dec_acc : ∀ (a b : List UInt8) (x y : Nat), a.length = b.length → digs a = true → digs b = true → x < y → decT x a < decT y b
  | [], [], x, y, _, _, _, h => h
  | [], _ :: _, _, _, hl, _, _, _ => by simp at hl
  | _ :: _, [], _, _, hl, _, _, _ => by simp at hl
  | c :: a, d :: b, x, y, hl, ha, hb, h => by
    obtain ⟨h1, h2, h3⟩ := digs_cons ha
    obtain ⟨k1, k2, k3⟩ := digs_cons hb
    unfold decT
    exact dec_acc a b _ _ (by simpa using hl) h3 k3 (by omega)
theorem dec_less : ∀ (a b : List UInt8) (x : Nat), a.length = b.length → digs a = true → digs b = true → ((Op.bytesLess a b = true ↔ decT x a < decT x b) ∧ (a = b ↔ decT x a = decT x b))
  | [], [], x, _, _, _ => by simp [Op.bytesLess, less_nil]
  | [], _ :: _, _, hl, _, _ => by simp at hl
  | _ :: _, [], _, hl, _, _ => by simp at hl
  | c :: a, d :: b, x, hl, ha, hb => by
    obtain ⟨h1, h2, h3⟩ := digs_cons ha
    obtain ⟨k1, k2, k3⟩ := digs_cons hb
    have hl' : a.length = b.length := by simpa using hl
    rw [less_cons]
    unfold decT
    rcases Nat.lt_trichotomy c.toNat d.toNat with hc | hc | hc
    · have := dec_acc a b (x * 10 + (c.toNat - 48)) (x * 10 + (d.toNat - 48)) hl' h3 k3 (by omega)
      have hlt : c < d := UInt8.lt_iff_toNat_lt.2 hc
      have hne : c ≠ d := fun e => by rw [e] at hc; omega
      refine ⟨by simp [hlt, this], ?_⟩
      simp only [List.cons.injEq, hne, false_and, false_iff]
      omega
    · have he : c = d := UInt8.toNat_inj.1 hc
      subst he
      have h9 := dec_less a b (x * 10 + (c.toNat - 48)) hl' h3 k3
      have hlt : ¬ c < c := by rw [UInt8.lt_iff_toNat_lt]; omega
      refine ⟨by simp [hlt, h9.1], by simp [h9.2]⟩
    · have := dec_acc b a (x * 10 + (d.toNat - 48)) (x * 10 + (c.toNat - 48)) hl'.symm k3 h3 (by omega)
      have hlt : ¬ c < d := by rw [UInt8.lt_iff_toNat_lt]; omega
      have hne : c ≠ d := fun e => by rw [e] at hc; omega
      refine ⟨?_, ?_⟩
      · simp only [hlt, decide_false, Bool.false_or, beq_eq_false_iff_ne.2 hne, Bool.false_and, Bool.false_eq_true, false_iff]
        omega
      · simp only [List.cons.injEq, hne, false_and, false_iff]
        omega
theorem dec_lt : ∀ (a : List UInt8) (x : Nat), digs a = true → decT x a < (x + 1) * 10 ^ a.length := fun a x h => Lib.decFrom_lt a x _ (dec_some a x h)
/-- A number as a whole number. -/
def numV (s : List UInt8) : Int := (decT 0 (s.drop 1) : Nat)
theorem num_parts {s : List UInt8} (h : isNumB s = true) : ∃ d, s = 43 :: d ∧ digs d = true ∧ 4 ≤ d.length ∧ d.length ≤ 15 := by
  obtain ⟨d, rfl, hd⟩ := plus_head h
  obtain ⟨h1, h2, h3⟩ := (digitsB_iff d 4 15).1 hd
  exact ⟨d, rfl, h3, by omega, by omega⟩
theorem num_atoi {s : List UInt8} (h : isNumB s = true) : Lib.atoi (s.drop 1) = some (numV s) := by
  obtain ⟨d, rfl, h1, h2, h3⟩ := num_parts h
  cases d with
  | nil => simp at h2
  | cons b r =>
    obtain ⟨k1, k2, -⟩ := digs_cons h1
    have n1 : (b == 45) = false := beq_eq_false_iff_ne.2 (fun e => by rw [e] at k1; simp at k1)
    have n2 : (b == 43) = false := beq_eq_false_iff_ne.2 (fun e => by rw [e] at k1; simp at k1)
    show Lib.atoi (b :: r) = _
    unfold Lib.atoi
    simp only [n1, n2, Bool.false_eq_true, if_false]
    unfold Lib.decNat
    simp only [List.isEmpty_cons, Bool.false_eq_true, if_false]
    rw [dec_some _ _ h1]
    rfl
theorem num_bound {s : List UInt8} (h : isNumB s = true) : 0 ≤ numV s ∧ numV s < 1000000000000000 := by
  obtain ⟨d, rfl, h1, h2, h3⟩ := num_parts h
  have h4 := dec_lt d 0 h1
  have h5 : (10 : Nat) ^ d.length ≤ 10 ^ 15 := Nat.pow_le_pow_right (by omega) h3
  unfold numV
  simp only [List.drop_succ_cons, List.drop_zero]
  simp at h4
  omega
theorem num_less {s t : List UInt8} (hs : isNumB s = true) (ht : isNumB t = true) (hl : s.length = t.length) : (Op.bytesLess s t = true ↔ numV s < numV t) ∧ (s = t ↔ numV s = numV t) := by
  obtain ⟨d, rfl, h1, h2, h3⟩ := num_parts hs
  obtain ⟨e, rfl, k1, k2, k3⟩ := num_parts ht
  have h := dec_less d e 0 (by simpa using hl) h1 k1
  unfold numV
  simp only [List.drop_succ_cons, List.drop_zero]
  rw [less_cons]
  have hlt : ¬ (43 : UInt8) < 43 := by decide
  simp only [hlt, decide_false, Bool.false_or, beq_self_eq_true, Bool.true_and, List.cons.injEq, true_and]
  exact ⟨h.1.trans (by omega), h.2.trans (by omega)⟩
theorem num_le {s t : List UInt8} (hs : isNumB s = true) (ht : isNumB t = true) (hl : s.length = t.length) : leS s t = true ↔ numV s ≤ numV t := by
  have h := num_less hs ht hl
  unfold leS
  rw [Bool.or_eq_true, h.1, beq_iff_eq, h.2]
  omega

structure Rng where
  f : List UInt8
  t : List UInt8
def noRng : Rng := ⟨[], []⟩
/-- The error of range i of some. -/
def rngErr (apart : Int) (l : List Rng) (i : Nat) : Int :=
  if isNumB (l.getD i noRng).f = false ∨ isNumB (l.getD i noRng).t = false ∨ (l.getD i noRng).f.length ≠ (l.getD i noRng).t.length ∨ Op.bytesLess (l.getD i noRng).t (l.getD i noRng).f = true then 3
  else if i = 0 then 0
  else if ¬ ((l.getD (i - 1) noRng).f.length < (l.getD i noRng).f.length ∨ (l.getD (i - 1) noRng).f.length = (l.getD i noRng).f.length ∧ numV (l.getD (i - 1) noRng).f < numV (l.getD i noRng).f) then 7
  else if (l.getD (i - 1) noRng).f.length = (l.getD i noRng).f.length ∧ numV (l.getD i noRng).f ≤ numV (l.getD (i - 1) noRng).t + apart then 13
  else 0
def rngsErr (apart : Int) (l : List Rng) : Int := if 1000 < l.length then 2 else firstErr (rngErr apart l) l.length
theorem rng_right {apart : Int} {l : List Rng} {i : Nat} (h : rngErr apart l i = 0) : isNumB (l.getD i noRng).f = true ∧ isNumB (l.getD i noRng).t = true ∧ (l.getD i noRng).f.length = (l.getD i noRng).t.length ∧ Op.bytesLess (l.getD i noRng).t (l.getD i noRng).f = false := by
  unfold rngErr at h
  split at h
  · cases h
  · rename_i h1
    simp only [not_or, Bool.not_eq_false, Decidable.not_not, Bool.not_eq_true] at h1
    exact ⟨h1.1, h1.2.1, h1.2.2.1, h1.2.2.2⟩
structure Own where
  r : Rng
  c : List UInt8
def noOwn : Own := ⟨noRng, []⟩
structure Prt where
  n : List UInt8
  at_ : Int
  c : List UInt8
def noPrt : Prt := ⟨[], 0, []⟩
/-- Is a number in a range? -/
def inRng (r : Rng) (n : List UInt8) : Bool := decide (r.f.length = n.length) && (leS r.f n && leS n r.t)
theorem in_rng {r : Rng} {n : List UInt8} (hf : isNumB r.f = true) (ht : isNumB r.t = true) (hl : r.f.length = r.t.length) (hn : isNumB n = true) : inRng r n = true ↔ r.f.length = n.length ∧ numV r.f ≤ numV n ∧ numV n ≤ numV r.t := by
  unfold inRng
  rw [Bool.and_eq_true, Bool.and_eq_true, decide_eq_true_eq]
  refine ⟨fun ⟨h1, h2, h3⟩ => ⟨h1, (num_le hf hn h1).1 h2, (num_le hn ht (by omega)).1 h3⟩, fun ⟨h1, h2, h3⟩ => ⟨h1, (num_le hf hn h1).2 h2, (num_le hn ht (by omega)).2 h3⟩⟩
end Go.Proofs.YtleagenhnchjdaaGreatDoor

set_option linter.unusedVariables false
set_option linter.unusedSimpArgs false
namespace Go.Proofs.YtleagenhnchjdaaGreatDoor
open Go.RowKit

def encS (x : List UInt8) : Value := .string ⟨x.toArray⟩
end Go.Proofs.YtleagenhnchjdaaGreatDoor

set_option linter.unusedVariables false
set_option linter.unusedSimpArgs false
namespace Go.Proofs.YtleagenhnchjdaaGreatDoor
open Go.RowKit

/-- A country of a plan, with an area of a home in it. -/
structure HomeIn (l : List Ctry) (c : Ctry) (area : List UInt8) : Prop where
  here : ∃ k, k < l.length ∧ l.getD k noCtry = c
  area : area = [] ∨ ∃ z, z < c.areas.length ∧ (c.areas.getD z noArea).pre = area
theorem homeIn_of {l : List Ctry} {code area : List UInt8} {c : Ctry} (h : homeC l code area = some c) : HomeIn l c area := by
  unfold homeC at h
  have hp := List.find?_some h
  obtain ⟨k, hk, hkc⟩ := List.getElem_of_mem (List.mem_of_find?_eq_some h)
  simp only [Bool.and_eq_true, Bool.or_eq_true, beq_iff_eq, List.any_eq_true] at hp
  refine ⟨⟨k, hk, by simpa [hk] using hkc⟩, hp.2.imp id ?_⟩
  rintro ⟨a, ha, rfl⟩
  obtain ⟨z, hz, rfl⟩ := List.getElem_of_mem ha
  exact ⟨z, hz, by simp [hz]⟩

def triesL (l : List Ctry) (c : Ctry) (area n : List UInt8) : List (List UInt8) :=
  (c.abroad ++ n.drop 1) :: (if (splitP l n).code = c.code then (c.trunk ++ ((splitP l n).area ++ (splitP l n).rest)) :: (if area = (splitP l n).area ∧ c.trunk ≠ [] then [(splitP l n).rest] else []) else [])
def waysL (l : List Ctry) (c : Ctry) (area n : List UInt8) : List (List UInt8) :=
  (c.abroad ++ n.drop 1) :: (if (splitP l n).code = c.code then (c.trunk ++ ((splitP l n).area ++ (splitP l n).rest)) :: (if (area = (splitP l n).area ∧ c.trunk ≠ []) ∧ reachP l c area (splitP l n).rest = (0, n) then [(splitP l n).rest] else []) else [])

theorem way_abroad {l : List Ctry} {c : Ctry} {area n : List UInt8} (hE : planErr l = 0) (hH : HomeIn l c area) (hS : (splitP l n).err = 0) : reachP l c area (c.abroad ++ n.drop 1) = (0, n) := by
  obtain ⟨i, j, so⟩ := split_ok hS
  obtain ⟨k, hk, rfl⟩ := hH.here
  obtain ⟨-, -, ha, -, -⟩ := ctry_form (plan_ctry hE k hk)
  obtain ⟨a1, a2, a3⟩ := (digitsB_iff _ _ _).1 ha
  obtain ⟨d1, d2, d3⟩ := (digitsB_iff _ _ _).1 so.digits
  have hd : digitsB ((l.getD k noCtry).abroad ++ n.drop 1) 1 30 = true := by
    rw [digitsB_iff, digs_app, a3, d3, List.length_append]
    exact ⟨by omega, by omega, rfl⟩
  have hn : n = 43 :: n.drop 1 := by rw [so.form]; rfl
  unfold reachP
  rw [if_neg (by rw [hd]; exact Bool.noConfusion)]
  unfold reachN
  rw [if_pos (pre_append _ _), List.drop_left]
  simp only [← hn, hS, ne_eq, not_true_eq_false, if_false]
theorem same_ctry {l : List Ctry} {c : Ctry} {area n : List UInt8} (hE : planErr l = 0) (hH : HomeIn l c area) (hS : (splitP l n).err = 0) {i j : Nat} (so : SplitOk l n i j) (hc : (splitP l n).code = c.code) : l.getD i noCtry = c := by
  obtain ⟨k, hk, rfl⟩ := hH.here
  by_cases h : i = k
  · rw [h]
  · exact absurd (so.code.symm.trans hc) (codes_apart hE so.li hk h)
theorem trunk_clash {l : List Ctry} {c : Ctry} {area n : List UInt8} (hE : planErr l = 0) (hH : HomeIn l c area) (hS : (splitP l n).err = 0) {i j : Nat} (so : SplitOk l n i j) (hc : (splitP l n).code = c.code) : Lib.hasPrefix (c.trunk ++ ((splitP l n).area ++ (splitP l n).rest)) c.abroad = false ∧ 1 ≤ (splitP l n).area.length ∧ 1 ≤ (splitP l n).rest.length := by
  have hi := same_ctry hE hH hS so hc
  obtain ⟨g1, g2, g3, g4, g5, g6, g7⟩ := area_parts (plan_area hE i so.li j so.lj)
  obtain ⟨a1, a2, a3⟩ := (digitsB_iff _ _ _).1 g1
  have hl := so.low
  rw [hi] at g2 g3 g4 g5 g6 g7 a1 a2 a3 hl
  have har := so.area
  rw [hi] at har
  rw [har]
  refine ⟨?_, by omega, by omega⟩
  cases hq : Lib.hasPrefix (c.trunk ++ ((c.areas.getD j noArea).pre ++ (splitP l n).rest)) c.abroad with
  | false => rfl
  | true =>
    rw [← List.append_assoc] at hq
    rcases pre_or hq with h | h
    · rw [g2] at h; cases h
    · rw [g3] at h; cases h
theorem way_trunk {l : List Ctry} {c : Ctry} {area n : List UInt8} (hE : planErr l = 0) (hH : HomeIn l c area) (hS : (splitP l n).err = 0) (hc : (splitP l n).code = c.code) : reachP l c area (c.trunk ++ ((splitP l n).area ++ (splitP l n).rest)) = (0, n) := by
  obtain ⟨i, j, so⟩ := split_ok hS
  have hi := same_ctry hE hH hS so hc
  obtain ⟨t1, t2, t3⟩ := trunk_clash hE hH hS so hc
  have hf := so.form
  have har := so.area
  have hlow := so.low
  have hhigh := so.high
  obtain ⟨g1, g2, g3, g4, g5, g6, g7⟩ := area_parts (plan_area hE i so.li j so.lj)
  obtain ⟨-, -, -, ht, -⟩ := ctry_form (plan_ctry hE i so.li)
  rw [hi] at hf har hlow hhigh g6 ht g4
  obtain ⟨q1, q2, q3⟩ := (digitsB_iff _ _ _).1 ht
  obtain ⟨d1, d2, d3⟩ := (digitsB_iff _ _ _).1 so.digits
  have hdn : n.drop 1 = c.code ++ ((splitP l n).area ++ (splitP l n).rest) := by rw [har]; exact (congrArg (List.drop 1) hf).trans rfl
  rw [hdn, digs_app, Bool.and_eq_true] at d3
  have hd : digitsB (c.trunk ++ ((splitP l n).area ++ (splitP l n).rest)) 1 30 = true := by
    rw [digitsB_iff, digs_app, q3, d3.2, List.length_append, List.length_append, har]
    rw [har] at t2
    exact ⟨by omega, by omega, rfl⟩
  have hn : n = 43 :: (c.code ++ ((splitP l n).area ++ (splitP l n).rest)) := by rw [har]; exact hf
  unfold reachP
  rw [if_neg (by rw [hd]; exact Bool.noConfusion)]
  unfold reachN
  rw [if_neg (by simp [t1]), if_pos (pre_append _ _), List.drop_left]
  simp only [← hn, hS, ne_eq, not_true_eq_false, if_false]

theorem ways_apart {l : List Ctry} {c : Ctry} {area n : List UInt8} (hE : planErr l = 0) (hH : HomeIn l c area) (hS : (splitP l n).err = 0) (hc : (splitP l n).code = c.code) : c.trunk ++ ((splitP l n).area ++ (splitP l n).rest) ≠ c.abroad ++ n.drop 1 ∧ (splitP l n).rest ≠ c.trunk ++ ((splitP l n).area ++ (splitP l n).rest) ∧ (splitP l n).rest ≠ c.abroad ++ n.drop 1 := by
  obtain ⟨i, j, so⟩ := split_ok hS
  obtain ⟨t1, t2, t3⟩ := trunk_clash hE hH hS so hc
  have hi := same_ctry hE hH hS so hc
  have har := so.area
  have hf := so.form
  rw [hi] at hf har
  refine ⟨fun h => ?_, fun h => ?_, fun h => ?_⟩
  · rw [h, pre_append] at t1; cases t1
  · have := congrArg List.length h
    simp only [List.length_append] at this
    omega
  · have := congrArg List.length h
    have h9 := congrArg List.length ((congrArg (List.drop 1) hf).trans rfl : n.drop 1 = c.code ++ ((c.areas.getD j noArea).pre ++ (splitP l n).rest))
    simp only [List.length_append] at this h9
    rw [har] at t2
    omega

def stepW (l : List Ctry) (c : Ctry) (area n : List UInt8) (out : List (List UInt8)) (s : List UInt8) : List (List UInt8) := if reachP l c area s = (0, n) ∧ s ∉ out then out ++ [s] else out
theorem tries_fold {l : List Ctry} {c : Ctry} {area n : List UInt8} (hE : planErr l = 0) (hH : HomeIn l c area) (hS : (splitP l n).err = 0) : (triesL l c area n).foldl (stepW l c area n) [] = waysL l c area n := by
  have h1 := way_abroad hE hH hS
  unfold triesL waysL
  rw [List.foldl_cons]
  have e1 : stepW l c area n [] (c.abroad ++ n.drop 1) = [c.abroad ++ n.drop 1] := by unfold stepW; rw [if_pos ⟨h1, by simp⟩]; rfl
  rw [e1]
  by_cases hc : (splitP l n).code = c.code
  · have h2 := way_trunk hE hH hS hc
    obtain ⟨a1, a2, a3⟩ := ways_apart hE hH hS hc
    rw [if_pos hc, if_pos hc, List.foldl_cons]
    have e2 : stepW l c area n [c.abroad ++ n.drop 1] (c.trunk ++ ((splitP l n).area ++ (splitP l n).rest)) = [c.abroad ++ n.drop 1, c.trunk ++ ((splitP l n).area ++ (splitP l n).rest)] := by
      unfold stepW
      rw [if_pos ⟨h2, by simpa using a1⟩]
      rfl
    rw [e2]
    by_cases h3 : area = (splitP l n).area ∧ c.trunk ≠ []
    · rw [if_pos h3, List.foldl_cons, List.foldl_nil]
      unfold stepW
      by_cases h4 : reachP l c area (splitP l n).rest = (0, n)
      · rw [if_pos ⟨h4, fun hm => by rcases List.mem_cons.1 hm with h | hm; exact a3 h; rcases List.mem_cons.1 hm with h | hm; exact a2 h; cases hm⟩, if_pos ⟨h3, h4⟩]; rfl
      · rw [if_neg (fun h => h4 h.1), if_neg (fun h => h4 h.2)]
    · rw [if_neg h3, if_neg (fun h => h3 h.1), List.foldl_nil]
  · rw [if_neg hc, if_neg hc, List.foldl_nil]
theorem tries_filter {l : List Ctry} {c : Ctry} {area n : List UInt8} (hE : planErr l = 0) (hH : HomeIn l c area) (hS : (splitP l n).err = 0) : (triesL l c area n).filter (fun s => decide (reachP l c area s = (0, n))) = waysL l c area n := by
  have h1 := way_abroad hE hH hS
  unfold triesL waysL
  rw [List.filter_cons_of_pos (by simpa using h1)]
  by_cases hc : (splitP l n).code = c.code
  · have h2 := way_trunk hE hH hS hc
    rw [if_pos hc, if_pos hc, List.filter_cons_of_pos (by simpa using h2)]
    by_cases h3 : area = (splitP l n).area ∧ c.trunk ≠ []
    · rw [if_pos h3]
      by_cases h4 : reachP l c area (splitP l n).rest = (0, n)
      · rw [if_pos ⟨h3, h4⟩]; simp [h4]
      · rw [if_neg (fun h => h4 h.2)]; simp [h4]
    · rw [if_neg h3, if_neg (fun h => h3 h.1)]; rfl
  · rw [if_neg hc, if_neg hc]; rfl
theorem tries_but {l : List Ctry} {c : Ctry} {area n : List UInt8} (hE : planErr l = 0) (hH : HomeIn l c area) (hS : (splitP l n).err = 0) : ∀ j, j + 1 < (triesL l c area n).length → reachP l c area ((triesL l c area n).getD j []) = (0, n) ∨ j = 1 + 1 := by
  have h1 := way_abroad hE hH hS
  intro j hj
  unfold triesL at hj ⊢
  by_cases hc : (splitP l n).code = c.code
  · have h2 := way_trunk hE hH hS hc
    rw [if_pos hc] at hj ⊢
    match j, hj with
    | 0, _ => exact Or.inl h1
    | 1, _ => exact Or.inl h2
    | 2, _ => exact Or.inr rfl
    | j + 3, hj =>
      exfalso
      have h9 : (if area = (splitP l n).area ∧ c.trunk ≠ [] then [(splitP l n).rest] else []).length ≤ 1 := by split <;> simp
      simp only [List.length_cons] at hj
      omega
  · rw [if_neg hc] at hj; simp at hj

theorem tries_split {l : List Ctry} {c : Ctry} {area n : List UInt8} (hE : planErr l = 0) (hH : HomeIn l c area) (hS : (splitP l n).err = 0) : ∃ ys z, triesL l c area n = ys ++ [z] ∧ ∀ y ∈ ys, reachP l c area y = (0, n) := by
  have h1 := way_abroad hE hH hS
  unfold triesL
  by_cases hc : (splitP l n).code = c.code
  · have h2 := way_trunk hE hH hS hc
    rw [if_pos hc]
    by_cases h3 : area = (splitP l n).area ∧ c.trunk ≠ []
    · rw [if_pos h3]
      refine ⟨[c.abroad ++ n.drop 1, c.trunk ++ ((splitP l n).area ++ (splitP l n).rest)], _, rfl, fun y hy => ?_⟩
      rcases List.mem_cons.1 hy with rfl | hy
      · exact h1
      · rcases List.mem_cons.1 hy with rfl | hy
        · exact h2
        · cases hy
    · rw [if_neg h3]
      refine ⟨[c.abroad ++ n.drop 1], _, rfl, fun y hy => ?_⟩
      rcases List.mem_cons.1 hy with rfl | hy
      · exact h1
      · cases hy
  · rw [if_neg hc]
    exact ⟨[], _, rfl, fun y hy => by cases hy⟩
/-! ### How the reference asks -/
theorem ref_code {l : List Ctry} {c : Ctry} {area n : List UInt8} (hE : planErr l = 0) (hH : HomeIn l c area) (hS : (splitP l n).err = 0) : Lib.hasPrefix n (43 :: c.code) = decide ((splitP l n).code = c.code) := by
  obtain ⟨i, j, so⟩ := split_ok hS
  have hf := so.form
  by_cases hc : (splitP l n).code = c.code
  · have hi := same_ctry hE hH hS so hc
    rw [hi] at hf
    rw [decide_eq_true hc, pre_iff]
    conv => rhs; rw [hf]
    exact List.cons_prefix_cons.2 ⟨rfl, List.prefix_append _ _⟩
  · rw [decide_eq_false hc]
    cases hq : Lib.hasPrefix n (43 :: c.code) with
    | false => rfl
    | true =>
      exfalso
      obtain ⟨k, hk, rfl⟩ := hH.here
      rw [pre_iff] at hq
      generalize hr : (splitP l n).rest = r at hf
      rw [hf] at hq
      have hq2 := (List.cons_prefix_cons.1 hq).2
      have hal := plan_alone hE ((l.getD i noCtry).code ++ (((l.getD i noCtry).areas.getD j noArea).pre ++ r))
      rw [List.pairwise_iff_getElem] at hal
      have h1 : Lib.hasPrefix ((l.getD i noCtry).code ++ (((l.getD i noCtry).areas.getD j noArea).pre ++ r)) (l.getD i noCtry).code = true := pre_append _ _
      have h2 : Lib.hasPrefix ((l.getD i noCtry).code ++ (((l.getD i noCtry).areas.getD j noArea).pre ++ r)) (l.getD k noCtry).code = true := (pre_iff _ _).2 hq2
      have hli := so.li
      have ei : l[i] = l.getD i noCtry := by simp [hli]
      have ek : l[k] = l.getD k noCtry := by simp [hk]
      rcases Nat.lt_trichotomy i k with h | rfl | h
      · have := hal i k hli hk h (by rw [ei]; exact h1)
        rw [ek, h2] at this; cases this
      · exact hc so.code
      · have := hal k i hk hli h (by rw [ek]; exact h2)
        rw [ei, h1] at this; cases this
theorem ref_nat {l : List Ctry} {c : Ctry} {area n : List UInt8} (hE : planErr l = 0) (hH : HomeIn l c area) (hS : (splitP l n).err = 0) (hc : (splitP l n).code = c.code) : n.drop (43 :: c.code).length = (splitP l n).area ++ (splitP l n).rest := by
  obtain ⟨i, j, so⟩ := split_ok hS
  have hf := so.form
  have hi := same_ctry hE hH hS so hc
  have har := so.area
  rw [hi] at hf har
  conv => lhs; rw [hf]
  rw [har, List.length_cons, List.drop_succ_cons, List.drop_left]
theorem ref_area {l : List Ctry} {c : Ctry} {area n : List UInt8} (hE : planErr l = 0) (hH : HomeIn l c area) (hS : (splitP l n).err = 0) (hc : (splitP l n).code = c.code) : (Lib.hasPrefix ((splitP l n).area ++ (splitP l n).rest) area = true ∧ area ≠ []) ↔ area = (splitP l n).area := by
  obtain ⟨i, j, so⟩ := split_ok hS
  have hi := same_ctry hE hH hS so hc
  obtain ⟨t1, t2, t3⟩ := trunk_clash hE hH hS so hc
  have har := so.area
  have hlj := so.lj
  rw [hi] at har hlj
  constructor
  · rintro ⟨h1, h2⟩
    rcases hH.area with h | ⟨z, hz, rfl⟩
    · exact absurd h h2
    · rw [har] at h1 ⊢
      have hall : ∀ z, z < c.areas.length → areaErr c z = 0 := by
        obtain ⟨k, hk, rfl⟩ := hH.here
        exact plan_area hE k hk
      rcases pre_or h1 with h | h
      · rw [areas_apart hall hz hlj h]
      · rw [areas_apart hall hlj hz h]
  · rintro rfl
    exact ⟨pre_append _ _, fun h => by rw [h] at t2; simp at t2⟩
end Go.Proofs.YtleagenhnchjdaaGreatDoor

set_option linter.unusedVariables false
set_option linter.unusedSimpArgs false
namespace Go.Proofs.YtleagenhnchjdaaGreatDoor
open Go.RowKit

theorem wpList_val {P : Program} {ops : Array Oper} {rest : List Oper} {o : Oper} {a : Act} {w w' : World} {v : Value} {Q : Exit → Act → World → Prop} (hg : o.guard = none) (h : (execOp a.eval o).run P w = .ok (.value v) w') (hr : wpList P ops Q rest (a.put o.dst v) w') : wpList P ops Q (o :: rest) a w :=
  wpList_plain hg fun _ hK => by unfold Oper.wp; rw [h]; exact hK _ _ hr

theorem bs_str4 (e : Operand → Value) (he : ∀ v, e (.const v) = v) (o : Oper) (w : World) (b0 b1 b2 b3 : ByteArray) (ho : o.op = .buildSlice 27 4 #[(0, .const (.string b0)), (1, .const (.string b1)), (2, .const (.string b2)), (3, .const (.string b3))]) :
   (execOp e o).run Tryz.prog w = .ok (.value (.slice (some ⟨w.heap.size, 0, none⟩) 4 4)) (w.alloc (.cells #[.string b0, .string b1, .string b2, .string b3] 9)) := by
  unfold execOp
  rw [ho]
  simp only [List.map_toArray, List.map_cons, List.map_nil, he]
  kernel_rfl
theorem bs_str6 (e : Operand → Value) (he : ∀ v, e (.const v) = v) (o : Oper) (w : World) (b0 b1 b2 b3 b4 b5 : ByteArray) (ho : o.op = .buildSlice 27 6 #[(0, .const (.string b0)), (1, .const (.string b1)), (2, .const (.string b2)), (3, .const (.string b3)), (4, .const (.string b4)), (5, .const (.string b5))]) :
   (execOp e o).run Tryz.prog w = .ok (.value (.slice (some ⟨w.heap.size, 0, none⟩) 6 6)) (w.alloc (.cells #[.string b0, .string b1, .string b2, .string b3, .string b4, .string b5] 9)) := by
  unfold execOp
  rw [ho]
  simp only [List.map_toArray, List.map_cons, List.map_nil, he]
  kernel_rfl
theorem bs_str7 (e : Operand → Value) (he : ∀ v, e (.const v) = v) (o : Oper) (w : World) (b0 b1 b2 b3 b4 b5 b6 : ByteArray) (ho : o.op = .buildSlice 27 7 #[(0, .const (.string b0)), (1, .const (.string b1)), (2, .const (.string b2)), (3, .const (.string b3)), (4, .const (.string b4)), (5, .const (.string b5)), (6, .const (.string b6))]) :
   (execOp e o).run Tryz.prog w = .ok (.value (.slice (some ⟨w.heap.size, 0, none⟩) 7 7)) (w.alloc (.cells #[.string b0, .string b1, .string b2, .string b3, .string b4, .string b5, .string b6] 9)) := by
  unfold execOp
  rw [ho]
  simp only [List.map_toArray, List.map_cons, List.map_nil, he]
  kernel_rfl
theorem bs_str11 (e : Operand → Value) (he : ∀ v, e (.const v) = v) (o : Oper) (w : World) (b0 b1 b2 b3 b4 b5 b6 b7 b8 b9 b10 : ByteArray) (ho : o.op = .buildSlice 27 11 #[(0, .const (.string b0)), (1, .const (.string b1)), (2, .const (.string b2)), (3, .const (.string b3)), (4, .const (.string b4)), (5, .const (.string b5)), (6, .const (.string b6)), (7, .const (.string b7)), (8, .const (.string b8)), (9, .const (.string b9)), (10, .const (.string b10))]) :
   (execOp e o).run Tryz.prog w = .ok (.value (.slice (some ⟨w.heap.size, 0, none⟩) 11 11)) (w.alloc (.cells #[.string b0, .string b1, .string b2, .string b3, .string b4, .string b5, .string b6, .string b7, .string b8, .string b9, .string b10] 9)) := by
  unfold execOp
  rw [ho]
  simp only [List.map_toArray, List.map_cons, List.map_nil, he]
  kernel_rfl
end Go.Proofs.YtleagenhnchjdaaGreatDoor

namespace Go.Proofs.YtleagenhnchjdaaGreatDoor
open Go.RowKit

/-- A slice of n integers of one kind that lies in memory. -/
def IRow (k : IntKind) (w : World) (a : Option Addr) (n : Nat) (xs : List Int) : Prop :=
  n = xs.length ∧ (n = 0 ∨ ∃ b off, a = some ⟨b, off, none⟩ ∧ b < w.heap.size ∧ ∀ i, i < n → w.cell? ⟨b, off + i, none⟩ = some (.int k (xs.getD i 0)))

theorem IRow.below {k : IntKind} {w w' : World} {a : Option Addr} {n : Nat} {xs : List Int} (h : IRow k w a n xs) (hb : Below w.heap.size w w') : IRow k w' a n xs := by
  refine ⟨h.1, h.2.imp id ?_⟩
  rintro ⟨b, off, ha, hl, hc⟩
  exact ⟨b, off, ha, Nat.lt_of_lt_of_le hl hb.size, fun i hi => (hb.cell (p := ⟨b, off + i, none⟩) hl).trans (hc i hi)⟩

theorem IRow.keeps {k : IntKind} {w w' : World} {S : Nat} {a : Option Addr} {n : Nat} {xs : List Int} (h : IRow k w a n xs) (hk : Keeps S w w') (hS : ∀ b off, a = some ⟨b, off, none⟩ → b ≠ S) : IRow k w' a n xs := by
  refine ⟨h.1, h.2.imp id ?_⟩
  rintro ⟨b, off, ha, hl, hc⟩
  exact ⟨b, off, ha, Nat.lt_of_lt_of_le hl hk.size, fun i hi => (hk.cell (p := ⟨b, off + i, none⟩) hl (hS b off ha)).trans (hc i hi)⟩

theorem getD_map_int (k : IntKind) (xs : List Int) (i : Nat) (hi : i < xs.length) : (xs.map (Value.int k))[i]? = some (.int k (xs.getD i 0)) := by
  simp [List.getD_eq_getElem?_getD, List.getElem?_eq_getElem hi]

/-- A row of the call's own reads as such a slice. -/
theorem IRow.of_own {k : IntKind} {w : World} {base : Nat} {e : TypeId} {v : Value} {n : Nat} {xs : List Int} (h : w.ownsRow base e 1 v n (xs.map (Value.int k))) : ∃ a cap, v = .slice a n cap ∧ IRow k w a n xs := by
  have hl : n = xs.length := by have := h.1; simp at this; omega
  rcases h.2 with ⟨rfl, rfl⟩ | ⟨g, cap, cur, rfl, hb, hg, _⟩
  · exact ⟨none, 0, rfl, hl, Or.inl rfl⟩
  · refine ⟨some ⟨g, 0, none⟩, cap, rfl, hl, Or.inr ⟨g, 0, rfl, (h.lt g rfl).2, fun i hi => ?_⟩⟩
    rw [Nat.zero_add, h.cellAt i (by omega), getD_map_int k xs i (by omega)]

/-- The same, with where it lies. -/
theorem IRow.of_own_at {k : IntKind} {w : World} {base : Nat} {e : TypeId} {v : Value} {n : Nat} {xs : List Int} (h : w.ownsRow base e 1 v n (xs.map (Value.int k))) : ∃ a cap, v = .slice a n cap ∧ IRow k w a n xs ∧ ∀ b off, a = some ⟨b, off, none⟩ → base ≤ b := by
  obtain ⟨a, cap, hv, hr⟩ := IRow.of_own h
  refine ⟨a, cap, hv, hr, fun b off ha => ?_⟩
  subst ha
  exact (h.lt b (by rw [hv]; rfl)).1

theorem made_ints (k : IntKind) (n : Nat) : (madeCells (Value.int k 0).cells (n * 1)).toList = List.replicate n (Value.int k 0) := by
  unfold madeCells
  apply List.ext_getElem
  · simp
  · intro i h1 h2; simp [Value.cells, Nat.mod_one]

/-- A list that is filled from its head on. -/
theorem fill_set {α : Type} (xs : List α) (z : α) (k : Nat) (hk : k < xs.length) : (xs.take k ++ List.replicate (xs.length - k) z).set k xs[k] = xs.take (k + 1) ++ List.replicate (xs.length - (k + 1)) z := by
  rw [List.set_append_right _ _ (by simp; omega)]
  have e1 : k - (xs.take k).length = 0 := by simp; omega
  rw [e1, show xs.length - k = (xs.length - (k + 1)) + 1 by omega, List.replicate_succ, List.set_cons_zero, List.take_succ_eq_append_getElem hk, List.append_assoc]
  rfl

/-- A row of n cells of the call's own at block g, the first k of which hold what they are to hold, the others z. -/
def FillRow (w : World) (base : Nat) (e : TypeId) (g n k : Nat) (vals : List Value) (z : Value) : Prop :=
  vals.length = n ∧ w.ownsRow base e 1 (.slice (some ⟨g, 0, none⟩) n n) n (vals.take k ++ List.replicate (n - k) z)

theorem FillRow.start {w : World} {base : Nat} {e : TypeId} {g n : Nat} {vals : List Value} {k : IntKind} (hl : vals.length = n) (h : w.ownsRow base e 1 (.slice (some ⟨g, 0, none⟩) n n) n (madeCells (Value.int k 0).cells (n * 1)).toList) : FillRow w base e g n 0 vals (.int k 0) := by
  rw [made_ints] at h
  exact ⟨hl, by simpa using h⟩

theorem FillRow.step {w : World} {base : Nat} {e : TypeId} {g n k : Nat} {vals : List Value} {z u : Value} (h : FillRow w base e g n k vals z) (hk : k < n) (hv : vals[k]? = some u) :
    FillRow (w.setCell ⟨g, k, none⟩ u) base e g n (k + 1) vals z ∧ (∃ c, w.cell? ⟨g, k, none⟩ = some c) ∧ w.frozen? ⟨g, k, none⟩ = false := by
  obtain ⟨hl, ho⟩ := h
  have hk2 : k < vals.length := by omega
  rw [List.getElem?_eq_getElem hk2] at hv
  injection hv with hv
  have hs := (ho.stored k u).1
  have hf := fill_set vals z k hk2
  rw [hv] at hf
  subst hl
  rw [hf] at hs
  refine ⟨⟨rfl, hs⟩, ?_, ho.frozenAt k⟩
  rw [ho.cellAt k (by omega), List.getElem?_eq_getElem (by simp; omega)]
  exact ⟨_, rfl⟩

theorem FillRow.done {w : World} {base : Nat} {e : TypeId} {g n : Nat} {vals : List Value} {z : Value} (h : FillRow w base e g n n vals z) : w.ownsRow base e 1 (.slice (some ⟨g, 0, none⟩) n n) n vals := by
  obtain ⟨hl, ho⟩ := h
  rw [List.take_of_length_le (by omega), Nat.sub_self] at ho
  simpa using ho

theorem FillRow.below {w w' : World} {base : Nat} {e : TypeId} {g n k : Nat} {vals : List Value} {z : Value} (h : FillRow w base e g n k vals z) (hb : Below w.heap.size w w') : FillRow w' base e g n k vals z := ⟨h.1, h.2.kept_below hb⟩

theorem map_at {f : Int → Int} {k : IntKind} {xs : List Int} {i : Nat} (hi : i < xs.length) : ((xs.map f).map (Value.int k))[i]? = some (.int k (f (xs.getD i 0))) := by
  simp [List.getD_eq_getElem?_getD, List.getElem?_eq_getElem hi]
end Go.Proofs.YtleagenhnchjdaaGreatDoor

set_option linter.unusedVariables false
set_option linter.unusedSimpArgs false
namespace Go.Proofs.YtleagenhnchjdaaGreatDoor
open Go.RowKit

theorem Tryz.infoByte : (Tryz.prog.info? 5).map (fun i => (i.zero, i.size, i.bytes)) = some (some (.int .u8 0), 1, 1) := by kernel_rfl
theorem add0 (b j : Nat) : (⟨b, 0, none⟩ : Addr).add j = ⟨b, j, none⟩ := by unfold Addr.add; split <;> simp_all
theorem new_cell (w : World) (cs : Array Value) (t : TypeId) (p : Nat × Nat) (j : Nat) : (w.alloc (.cells cs t p)).cell? ⟨w.heap.size, j, none⟩ = cs[j]? := by
  have h : (w.alloc (.cells cs t p)).heap[w.heap.size]? = some (.cells cs t p) := by show (w.heap.push _)[w.heap.size]? = _; simp
  simp only [World.cell?, h]
  rfl
theorem push_list : ∀ (l : List UInt8) (r : ByteArray), (l.map (fun b => (b.toNat : Int))).foldl (fun r n => r.push (UInt8.ofNat n.toNat)) r = ⟨r.data ++ l.toArray⟩ := foldl_push_byteCells
/-- Bytes as a string. -/
theorem str_back (w : World) (g cp : Nat) (l : List UInt8) (hc : ∀ j (hj : j < l.length), w.cell? ⟨g, j, none⟩ = some (.int .u8 (l[j].toNat : Int))) : (convert 136 9 (.slice (some ⟨g, 0, none⟩) l.length cp)).run Tryz.prog w = .ok (.string ⟨l.toArray⟩) w :=
  run_convert_bytes_back w 136 9 5 ⟨g, 0, none⟩ cp l Tryz.underlying136 Tryz.underlying5 Tryz.underlying9 (fun j hj => by rw [add0]; exact hc j hj)
def cellsB (l : List UInt8) : List Value := l.map fun b => .int .u8 b.toNat
def StrPost (r : Int × List UInt8) (w : World) (e : Ending) (w' : World) : Prop := e = .returned (.tuple #[.string ⟨r.2.toArray⟩, .int .i64 r.1]) ∧ Below w.heap.size w w'
theorem byte_zero {c : UInt8} : ((c.toNat : Int) = 0) ↔ c = 0 := by
  constructor
  · intro h
    have : c.toNat = 0 := by omega
    exact UInt8.toNat_inj.1 (by simpa using this)
  · rintro rfl; rfl
theorem str_at {s : List UInt8} {k : Nat} (hk : k < s.length) (h2 : k < (⟨s.toArray⟩ : ByteArray).size) : (⟨s.toArray⟩ : ByteArray)[k]'h2 = s.getD k 0 := by
  simp [hk]; rfl
end Go.Proofs.YtleagenhnchjdaaGreatDoor

set_option linter.unusedVariables false
set_option linter.unusedSimpArgs false
namespace Go.Proofs.YtleagenhnchjdaaGreatDoor
open Go.RowKit

theorem Tryz.infoStr : (Tryz.prog.info? 9).map (fun i => (i.zero, i.size, i.bytes)) = some (some (.string ⟨#[]⟩), 1, 16) := by kernel_rfl
theorem mk_inj {a b : List UInt8} : ((⟨a.toArray⟩ : ByteArray) = ⟨b.toArray⟩) ↔ a = b := by simp
theorem contains_own {w : World} {base : Nat} {v : Value} {n : Nat} {out : List (List UInt8)} (h : w.ownsRow base 9 1 v n (out.map encS)) (hn : n ≤ 1000) (s : List UInt8) :
    Calls Tryz.prog 82 #[v, .string ⟨s.toArray⟩] w fun e w' => e = .returned (.bool (decide (s ∈ out))) ∧ w' = w := by
  have hl : out.length = n := by have := h.1; simpa using this
  rcases h.2 with ⟨rfl, h0⟩ | ⟨g, cap, cur, rfl, _⟩
  · have : out = [] := List.eq_nil_of_length_eq_zero (by omega)
    subst this h0
    refine (Tryz.slices_hasS_empty none 0 _ w).mono ?_
    rintro e w' ⟨rfl, rfl⟩
    exact ⟨by simp, rfl⟩
  · refine (Tryz.slices_hasS g 0 n cap (out.map fun x => ⟨x.toArray⟩) ⟨s.toArray⟩ w (by simp; omega) (by omega) (fun j hj => ?_)).mono ?_
    · have hj' : j < out.length := by simpa using hj
      rw [Nat.zero_add, h.cellAt j (by omega)]
      simp [encS, hj']
    · rintro e w' ⟨rfl, rfl⟩
      refine ⟨?_, rfl⟩
      rw [List.take_of_length_le (by simp; omega)]
      congr 2
      rw [Bool.eq_iff_iff, Lib.containsS_iff, decide_eq_true_eq]
      simp
/-- A slice of one string that is written out. -/
theorem own_lit1 (w : World) (x : List UInt8) (base : Nat) (hb : base ≤ w.heap.size) : (w.alloc (.cells #[.string ⟨x.toArray⟩] 9)).ownsRow base 9 1 (.slice (some ⟨w.heap.size, 0, none⟩) 1 1) 1 ([x].map encS) := World.ownsRow_lit w #[.string ⟨x.toArray⟩] 1 hb (by simp only [maxLen]; omega) rfl
theorem own_keep {w w' : World} {base e size : Nat} {v : Value} {n : Nat} {xs : List Value} (h : w.ownsRow base e size v n xs) (hb : Below w.heap.size w w') : w'.ownsRow base e size v n xs := by
  refine ⟨h.1, h.2.imp id ?_⟩
  rintro ⟨g, cap, cur, rfl, h1, h2, h3⟩
  exact ⟨g, cap, cur, rfl, h1, (hb.block g (Array.getElem?_eq_some_iff.1 h2).1).trans h2, h3⟩
theorem own_below {w w' : World} {base B e size : Nat} {v : Value} {n : Nat} {xs : List Value} (h : w.ownsRow base e size v n xs) (hb : Below B w w') (hv : ∀ g, v.ownBlock = some g → g < B) : w'.ownsRow base e size v n xs := by
  refine ⟨h.1, h.2.imp id ?_⟩
  rintro ⟨g, cap, cur, rfl, h1, h2, h3⟩
  exact ⟨g, cap, cur, rfl, h1, (hb.block g (hv g rfl)).trans h2, h3⟩
theorem own_row1 {w : World} {base : Nat} {e : TypeId} {size : Nat} {v : Value} {n : Nat} {xs : List Value} (h : w.ownsRow base e size v (n + 1) xs) : ∃ g c, v = .slice (some ⟨g, 0, none⟩) (n + 1) c ∧ base ≤ g ∧ g < w.heap.size := by
  rcases h.2 with ⟨_, h0⟩ | ⟨g, cap, cur, rfl, h1, h2, _⟩
  · cases h0
  · exact ⟨g, cap, rfl, h1, (Array.getElem?_eq_some_iff.1 h2).1⟩

theorem own_le {w : World} {base base' e size : Nat} {v : Value} {n : Nat} {xs : List Value} (h : w.ownsRow base e size v n xs) (hb : base' ≤ base) : w.ownsRow base' e size v n xs := by
  refine ⟨h.1, h.2.imp id ?_⟩
  rintro ⟨g, cap, cur, rfl, h1, h2⟩
  exact ⟨g, cap, cur, rfl, Nat.le_trans hb h1, h2⟩
theorem own_shape {w : World} {base : Nat} {e : TypeId} {size : Nat} {v : Value} {n : Nat} {xs : List Value} (h : w.ownsRow base e size v n xs) : ∃ a c, v = .slice a n c := by
  rcases h.2 with ⟨rfl, rfl⟩ | ⟨g, cap, cur, rfl, _⟩
  · exact ⟨none, 0, rfl⟩
  · exact ⟨_, _, rfl⟩
theorem wp_made {P : Program} {o : Oper} {a : Act} {w w' : World} {v : Value} {K : Act → World → Prop} {Q : Exit → Act → World → Prop} (h : (execOp a.eval o).run P w = .ok (.value v) w') (hK : K (a.put o.dst v) w') : Oper.wp P o a w K Q := by
  unfold Oper.wp; rw [h]; exact hK

end Go.Proofs.YtleagenhnchjdaaGreatDoor

set_option linter.unusedVariables false
set_option linter.unusedSimpArgs false
namespace Go.Proofs.YtleagenhnchjdaaGreatDoor
open Go.RowKit

/-- n structs of sz cells each. -/
structure Cells (w : World) (sz : Nat) (a : Option Addr) (n : Nat) (cs : List (List Value)) : Prop where
  len : n = cs.length
  row : n = 0 ∨ ∃ b off, a = some ⟨b, off, none⟩ ∧ b < w.heap.size ∧ ∀ i, i < n → ∀ j, j < sz → w.cell? ⟨b, off + i * sz + j, none⟩ = (cs.getD i [])[j]?
theorem Cells.below {w w' : World} {sz : Nat} {a : Option Addr} {n : Nat} {cs : List (List Value)} (h : Cells w sz a n cs) (hb : Below w.heap.size w w') : Cells w' sz a n cs := by
  refine ⟨h.len, h.row.imp id ?_⟩
  rintro ⟨b, off, ha, hl, hc⟩
  exact ⟨b, off, ha, Nat.lt_of_lt_of_le hl hb.size, fun i hi j hj => (hb.cell (p := ⟨b, off + i * sz + j, none⟩) hl).trans (hc i hi j hj)⟩
theorem flat_len2 {sz : Nat} : ∀ {cs : List (List Value)}, (∀ c ∈ cs, c.length = sz) → cs.flatten.length = cs.length * sz
  | [], _ => by simp
  | c :: cs, h => by
    rw [List.flatten_cons, List.length_append, flat_len2 (fun x hx => h x (List.mem_cons_of_mem _ hx)), h c List.mem_cons_self, List.length_cons, Nat.succ_mul]
    omega
theorem flat_at {sz : Nat} : ∀ {cs : List (List Value)}, (∀ c ∈ cs, c.length = sz) → ∀ i, i < cs.length → ∀ j, j < sz → cs.flatten[i * sz + j]? = (cs.getD i [])[j]?
  | [], _, i, hi, _, _ => by simp at hi
  | c :: cs, h, 0, _, j, hj => by
    have hc := h c List.mem_cons_self
    rw [List.flatten_cons, Nat.zero_mul, Nat.zero_add, List.getElem?_append_left (by omega)]
    rfl
  | c :: cs, h, i + 1, hi, j, hj => by
    have hc := h c List.mem_cons_self
    rw [List.flatten_cons, List.getElem?_append_right (by rw [Nat.succ_mul]; omega), hc, show (i + 1) * sz + j - sz = i * sz + j by rw [Nat.succ_mul]; omega,
      flat_at (fun x hx => h x (List.mem_cons_of_mem _ hx)) i (by simpa using hi) j hj]
    rfl
theorem Cells.of_own {w : World} {base : Nat} {e : TypeId} {sz : Nat} {v : Value} {n : Nat} {cs : List (List Value)} (h : w.ownsRow base e sz v n cs.flatten) (hs : ∀ c ∈ cs, c.length = sz) (h0 : 0 < sz) : ∃ a c, v = .slice a n c ∧ Cells w sz a n cs := by
  have hl : cs.length = n := by
    have h1 := h.1
    rw [flat_len2 hs] at h1
    exact Nat.eq_of_mul_eq_mul_right h0 h1
  cases n with
  | zero =>
    obtain ⟨a, c, rfl⟩ := own_shape h
    exact ⟨a, c, rfl, hl.symm, Or.inl rfl⟩
  | succ m =>
    obtain ⟨g, c, rfl, h1, h2⟩ := own_row1 h
    refine ⟨_, c, rfl, hl.symm, Or.inr ⟨g, 0, rfl, h2, fun i hi j hj => ?_⟩⟩
    rw [Nat.zero_add, h.cellAt (i * sz + j) (by
      have : (i + 1) * sz ≤ (m + 1) * sz := Nat.mul_le_mul_right _ (by omega)
      rw [Nat.succ_mul] at this
      omega), flat_at hs i (by omega) j hj]
theorem getD_map {α β : Type} (f : α → β) (l : List α) (i : Nat) (x : α) (y : β) (hi : i < l.length) : (l.map f).getD i y = f (l.getD i x) := by
  simp [hi]

def Rng.cells (r : Rng) : List Value := [.string ⟨r.f.toArray⟩, .string ⟨r.t.toArray⟩]
def Own.cells (o : Own) : List Value := [.string ⟨o.r.f.toArray⟩, .string ⟨o.r.t.toArray⟩, .string ⟨o.c.toArray⟩]
def Prt.cells (p : Prt) : List Value := [.string ⟨p.n.toArray⟩, .int .i64 p.at_, .string ⟨p.c.toArray⟩]
structure RngRow (w : World) (a : Option Addr) (n : Nat) (l : List Rng) : Prop where
  cells : Cells w 2 a n (l.map Rng.cells)
  few : n ≤ 5000
  each : ∀ i, i < l.length → (l.getD i noRng).f.length ≤ 100 ∧ (l.getD i noRng).t.length ≤ 100
structure OwnRow (w : World) (a : Option Addr) (n : Nat) (l : List Own) : Prop where
  cells : Cells w 3 a n (l.map Own.cells)
  few : n ≤ 5000
  each : ∀ i, i < l.length → (l.getD i noOwn).r.f.length ≤ 100 ∧ (l.getD i noOwn).r.t.length ≤ 100 ∧ (l.getD i noOwn).c.length ≤ 100
structure PrtRow (w : World) (a : Option Addr) (n : Nat) (l : List Prt) : Prop where
  cells : Cells w 3 a n (l.map Prt.cells)
  few : n ≤ 5000
  each : ∀ i, i < l.length → (l.getD i noPrt).n.length ≤ 100 ∧ (l.getD i noPrt).c.length ≤ 100
theorem RngRow.below {w w' : World} {a : Option Addr} {n : Nat} {l : List Rng} (h : RngRow w a n l) (hb : Below w.heap.size w w') : RngRow w' a n l := ⟨h.cells.below hb, h.few, h.each⟩
theorem OwnRow.below {w w' : World} {a : Option Addr} {n : Nat} {l : List Own} (h : OwnRow w a n l) (hb : Below w.heap.size w w') : OwnRow w' a n l := ⟨h.cells.below hb, h.few, h.each⟩
theorem PrtRow.below {w w' : World} {a : Option Addr} {n : Nat} {l : List Prt} (h : PrtRow w a n l) (hb : Below w.heap.size w w') : PrtRow w' a n l := ⟨h.cells.below hb, h.few, h.each⟩
theorem RngRow.len {w : World} {a : Option Addr} {n : Nat} {l : List Rng} (h : RngRow w a n l) : n = l.length := by have := h.cells.len; simpa using this
theorem OwnRow.len {w : World} {a : Option Addr} {n : Nat} {l : List Own} (h : OwnRow w a n l) : n = l.length := by have := h.cells.len; simpa using this
theorem PrtRow.len {w : World} {a : Option Addr} {n : Nat} {l : List Prt} (h : PrtRow w a n l) : n = l.length := by have := h.cells.len; simpa using this
theorem RngRow.at {w : World} {a : Option Addr} {n : Nat} {l : List Rng} (h : RngRow w a n l) (hn : 0 < n) : ∃ b off, a = some ⟨b, off, none⟩ ∧ b < w.heap.size ∧ ∀ i, i < n → w.cell? ⟨b, off + i * 2, none⟩ = some (.string ⟨(l.getD i noRng).f.toArray⟩) ∧ w.cell? ⟨b, off + i * 2 + 1, none⟩ = some (.string ⟨(l.getD i noRng).t.toArray⟩) := by
  rcases h.cells.row with h0 | ⟨b, off, h1, h2, h3⟩
  · omega
  · refine ⟨b, off, h1, h2, fun i hi => ?_⟩
    have hl := h.len
    have e := getD_map Rng.cells l i noRng [] (by omega)
    have k0 := h3 i hi 0 (by omega)
    have k1 := h3 i hi 1 (by omega)
    rw [e] at k0 k1
    exact ⟨k0, k1⟩
theorem OwnRow.at {w : World} {a : Option Addr} {n : Nat} {l : List Own} (h : OwnRow w a n l) (hn : 0 < n) : ∃ b off, a = some ⟨b, off, none⟩ ∧ b < w.heap.size ∧ ∀ i, i < n → w.cell? ⟨b, off + i * 3, none⟩ = some (.string ⟨(l.getD i noOwn).r.f.toArray⟩) ∧ w.cell? ⟨b, off + i * 3 + 1, none⟩ = some (.string ⟨(l.getD i noOwn).r.t.toArray⟩) ∧ w.cell? ⟨b, off + i * 3 + 2, none⟩ = some (.string ⟨(l.getD i noOwn).c.toArray⟩) := by
  rcases h.cells.row with h0 | ⟨b, off, h1, h2, h3⟩
  · omega
  · refine ⟨b, off, h1, h2, fun i hi => ?_⟩
    have hl := h.len
    have e := getD_map Own.cells l i noOwn [] (by omega)
    have k0 := h3 i hi 0 (by omega)
    have k1 := h3 i hi 1 (by omega)
    have k2 := h3 i hi 2 (by omega)
    rw [e] at k0 k1 k2
    exact ⟨k0, k1, k2⟩
theorem PrtRow.at {w : World} {a : Option Addr} {n : Nat} {l : List Prt} (h : PrtRow w a n l) (hn : 0 < n) : ∃ b off, a = some ⟨b, off, none⟩ ∧ b < w.heap.size ∧ ∀ i, i < n → w.cell? ⟨b, off + i * 3, none⟩ = some (.string ⟨(l.getD i noPrt).n.toArray⟩) ∧ w.cell? ⟨b, off + i * 3 + 1, none⟩ = some (.int .i64 (l.getD i noPrt).at_) ∧ w.cell? ⟨b, off + i * 3 + 2, none⟩ = some (.string ⟨(l.getD i noPrt).c.toArray⟩) := by
  rcases h.cells.row with h0 | ⟨b, off, h1, h2, h3⟩
  · omega
  · refine ⟨b, off, h1, h2, fun i hi => ?_⟩
    have hl := h.len
    have e := getD_map Prt.cells l i noPrt [] (by omega)
    have k0 := h3 i hi 0 (by omega)
    have k1 := h3 i hi 1 (by omega)
    have k2 := h3 i hi 2 (by omega)
    rw [e] at k0 k1 k2
    exact ⟨k0, k1, k2⟩
end Go.Proofs.YtleagenhnchjdaaGreatDoor

namespace Go.Proofs.YtleagenhnchjdaaGreatDoor
open Go.RowKit

def isKeyB (l : List UInt8) : Bool := decide (1 ≤ l.length) && (decide (l.length ≤ 40) && (decide (97 ≤ (l.headD 0).toNat) && (decide ((l.headD 0).toNat ≤ 122) && allIn l keySet)))

theorem trim_keys (s : ByteArray) (w : World) (hs : s.size ≤ 9223372036854775807) :
    Calls Tryz.prog 95 #[.string s, .string ⟨#[97, 98, 99, 100, 101, 102, 103, 104, 105, 106, 107, 108, 109, 110, 111, 112, 113, 114, 115, 116, 117, 118, 119, 120, 121, 122, 48, 49, 50, 51, 52, 53, 54, 55, 56, 57, 45, 95]⟩] w fun e w' => e = .returned (.string ⟨(Lib.trimS s.data.toList keySet).toArray⟩) ∧ Below w.heap.size w w' :=
  Tryz.strings_Trim_set s ⟨#[97, 98, 99, 100, 101, 102, 103, 104, 105, 106, 107, 108, 109, 110, 111, 112, 113, 114, 115, 116, 117, 118, 119, 120, 121, 122, 48, 49, 50, 51, 52, 53, 54, 55, 56, 57, 45, 95]⟩ w hs (by decide) (Go.Proofs.ascii_of_all (by decide))

theorem isKey_any (l : List UInt8) (w : World) (hs : l.length ≤ 9223372036854775807) :
    Calls Tryz.prog 49 #[.string ⟨l.toArray⟩] w fun e w' => e = .returned (.bool (isKeyB l)) ∧ Below w.heap.size w w' := by
  have hcon := trim_keys ⟨l.toArray⟩ w hs

  cases l with
  | nil =>
    go_enter Tryz.func49, Tryz.ntmps49
    go_wp2_with (go_at_call 95; refine hcon.mono ?_; rintro e w' ⟨rfl, hB⟩)
    go_ret
    exact ⟨rfl, Below.refl _ _⟩
  | cons c l' =>
    have hd : Hid (isKeyB (c :: l') = (decide (1 ≤ (c :: l').length) && (decide ((c :: l').length ≤ 40) && (decide (97 ≤ c.toNat) && (decide (c.toNat ≤ 122) && (Lib.trimS (c :: l') keySet).isEmpty))))) := by rfl
    generalize Lib.trimS (c :: l') keySet = r at hcon hd
    go_enter Tryz.func49, Tryz.ntmps49
    go_wp2_with (go_at_call 95; refine hcon.mono ?_; rintro e w' ⟨rfl, hB⟩)
    · have g1 : (l'.length : Int) + 1 ≤ 40 := by assumption
      have g2 : (97 : Int) ≤ (c.toNat : Int) := by assumption
      have g3 : (c.toNat : Int) ≤ 122 := by assumption
      go_ret
      exact ⟨by rw [hd.out, decide_eq_true (by simp), decide_eq_true (show (c :: l').length ≤ 40 by simp; omega), decide_eq_true (show 97 ≤ c.toNat by omega), decide_eq_true (show c.toNat ≤ 122 by omega)]; rfl, hB⟩
    · have g3 : (122 : Int) < (c.toNat : Int) := by assumption
      go_ret
      exact ⟨by rw [hd.out, decide_eq_false (show ¬ c.toNat ≤ 122 by omega)]; simp, Below.refl _ _⟩
    · have g2 : (c.toNat : Int) < 97 := by assumption
      go_ret
      exact ⟨by rw [hd.out, decide_eq_false (show ¬ 97 ≤ c.toNat by omega)]; simp, Below.refl _ _⟩
    · have g1 : 40 < (l'.length : Int) + 1 := by assumption
      go_ret
      exact ⟨by rw [hd.out, decide_eq_false (show ¬ (c :: l').length ≤ 40 by simp; omega)]; simp, Below.refl _ _⟩

def isMomB (n : Int) : Bool := decide (0 ≤ n) && decide (n < 345686400000)

theorem isMoment_any (n : Int) (w : World) :
    Calls Tryz.prog 50 #[.int .i64 n] w fun e w' => e = .returned (.bool (isMomB n)) ∧ w = w' := by
  by_cases h1 : 0 ≤ n
  · have hd : Hid (isMomB n = decide (n < 345686400000)) := by show isMomB n = _; unfold isMomB; rw [decide_eq_true h1]; simp
    go_enter Tryz.func50, Tryz.ntmps50
    go_wp2
    go_ret
    exact ⟨by rw [hd.out]; rfl, rfl⟩
  · have hd : Hid (isMomB n = false) := by show isMomB n = _; unfold isMomB; rw [decide_eq_false h1]; simp
    go_enter Tryz.func50, Tryz.ntmps50
    go_wp2
    go_ret
    exact ⟨by rw [hd.out]; rfl, rfl⟩
end Go.Proofs.YtleagenhnchjdaaGreatDoor

set_option linter.unusedVariables false
set_option linter.unusedSimpArgs false
namespace Go.Proofs.YtleagenhnchjdaaGreatDoor
open Go.RowKit

structure Rate where
  p : List UInt8
  price : Int
  closed : Bool
def noRate : Rate := ⟨[], 0, false⟩
structure Deck where
  from_ : Int
  setup : Int
  least : Int
  step : Int
  ra : Option Addr
  rn : Nat
  rc : Nat
  rates : List Rate
def noDeck : Deck := ⟨0, 0, 0, 0, none, 0, 0, []⟩
structure Carr where
  key : List UInt8
  lines : Int
  da : Option Addr
  dn : Nat
  dc : Nat
  decks : List Deck
def noCarr : Carr := ⟨[], 0, none, 0, 0, []⟩
def Rate.cells (r : Rate) : List Value := [.string ⟨r.p.toArray⟩, .int .i64 r.price, .bool r.closed]
def Deck.cells (d : Deck) : List Value := [.int .i64 d.from_, .int .i64 d.setup, .int .i64 d.least, .int .i64 d.step, .slice d.ra d.rn d.rc]
def Carr.cells (c : Carr) : List Value := [.string ⟨c.key.toArray⟩, .int .i64 c.lines, .slice c.da c.dn c.dc]
/-- Between bounds. -/
def inB (n lo hi : Int) : Bool := decide (lo ≤ n) && decide (n ≤ hi)
/-- The beginning of digits of a number. -/
def preB (s : List UInt8) : Bool := digitsB s 0 15 && !(Lib.hasPrefix s [48])
/-- The error of rate i. -/
def rateErr (l : List Rate) (i : Nat) : Int :=
  if preB (l.getD i noRate).p = false then 3
  else if 0 < i ∧ Op.bytesLess (l.getD (i - 1) noRate).p (l.getD i noRate).p = false then 7
  else if inB (l.getD i noRate).price 0 100000000 = false then 1
  else if (l.getD i noRate).closed = true ∧ (l.getD i noRate).price ≠ 0 then 3
  else 0
def deckNum (d : Deck) : Bool := isMomB d.from_ && (inB d.setup 0 100000000 && (inB d.least 0 86400000 && inB d.step 1 86400000))
def deckErr (d : Deck) : Int :=
  if deckNum d = false then 1 else if 5000 < d.rates.length then 2 else firstErr (rateErr d.rates) d.rates.length
def deckAtErr (l : List Deck) (k : Nat) : Int :=
  if deckErr (l.getD k noDeck) ≠ 0 then deckErr (l.getD k noDeck) else if 0 < k ∧ (l.getD k noDeck).from_ ≤ (l.getD (k - 1) noDeck).from_ then 7 else 0
def carrErr (l : List Carr) (i : Nat) : Int :=
  if isKeyB (l.getD i noCarr).key = false then 5
  else if 0 < i ∧ Op.bytesLess (l.getD (i - 1) noCarr).key (l.getD i noCarr).key = false then 7
  else if inB (l.getD i noCarr).lines 1 100000 = false then 1
  else if 20 < (l.getD i noCarr).decks.length then 2
  else firstErr (deckAtErr (l.getD i noCarr).decks) (l.getD i noCarr).decks.length
def carrsErr (l : List Carr) : Int := if 50 < l.length then 2 else firstErr (carrErr l) l.length

/-- Rates, decks, carriers in memory. -/
structure RateRow (w : World) (a : Option Addr) (n : Nat) (l : List Rate) : Prop where
  cells : Cells w 3 a n (l.map Rate.cells)
  few : n ≤ 5000
  each : ∀ i, i < l.length → (l.getD i noRate).p.length ≤ 100000 ∧ -2000000000000 ≤ (l.getD i noRate).price ∧ (l.getD i noRate).price ≤ 2000000000000
theorem RateRow.below {w w' : World} {a : Option Addr} {n : Nat} {l : List Rate} (h : RateRow w a n l) (hb : Below w.heap.size w w') : RateRow w' a n l := ⟨h.cells.below hb, h.few, h.each⟩
theorem RateRow.len {w : World} {a : Option Addr} {n : Nat} {l : List Rate} (h : RateRow w a n l) : n = l.length := by have := h.cells.len; simpa using this
structure DeckFine (w : World) (d : Deck) : Prop where
  row : RateRow w d.ra d.rn d.rates
  cap : d.rn ≤ d.rc
  b1 : -2000000000000 ≤ d.from_ ∧ d.from_ ≤ 2000000000000
  b2 : -2000000000000 ≤ d.setup ∧ d.setup ≤ 2000000000000
  b3 : -2000000000000 ≤ d.least ∧ d.least ≤ 2000000000000
  b4 : -2000000000000 ≤ d.step ∧ d.step ≤ 2000000000000
theorem DeckFine.below {w w' : World} {d : Deck} (h : DeckFine w d) (hb : Below w.heap.size w w') : DeckFine w' d := ⟨h.row.below hb, h.cap, h.b1, h.b2, h.b3, h.b4⟩
structure DeckRow (w : World) (a : Option Addr) (n : Nat) (l : List Deck) : Prop where
  cells : Cells w 5 a n (l.map Deck.cells)
  few : n ≤ 100
  each : ∀ i, i < l.length → DeckFine w (l.getD i noDeck)
theorem DeckRow.below {w w' : World} {a : Option Addr} {n : Nat} {l : List Deck} (h : DeckRow w a n l) (hb : Below w.heap.size w w') : DeckRow w' a n l := ⟨h.cells.below hb, h.few, fun i hi => (h.each i hi).below hb⟩
theorem DeckRow.len {w : World} {a : Option Addr} {n : Nat} {l : List Deck} (h : DeckRow w a n l) : n = l.length := by have := h.cells.len; simpa using this
structure CarrFine (w : World) (c : Carr) : Prop where
  row : DeckRow w c.da c.dn c.decks
  cap : c.dn ≤ c.dc
  key : c.key.length ≤ 100
  b1 : -2000000000000 ≤ c.lines ∧ c.lines ≤ 2000000000000
theorem CarrFine.below {w w' : World} {d : Carr} (h : CarrFine w d) (hb : Below w.heap.size w w') : CarrFine w' d := ⟨h.row.below hb, h.cap, h.key, h.b1⟩
structure CarrRow (w : World) (a : Option Addr) (n : Nat) (l : List Carr) : Prop where
  cells : Cells w 3 a n (l.map Carr.cells)
  few : n ≤ 50
  each : ∀ i, i < l.length → CarrFine w (l.getD i noCarr)
theorem CarrRow.below {w w' : World} {a : Option Addr} {n : Nat} {l : List Carr} (h : CarrRow w a n l) (hb : Below w.heap.size w w') : CarrRow w' a n l := ⟨h.cells.below hb, h.few, fun i hi => (h.each i hi).below hb⟩
theorem CarrRow.len {w : World} {a : Option Addr} {n : Nat} {l : List Carr} (h : CarrRow w a n l) : n = l.length := by have := h.cells.len; simpa using this
theorem RateRow.at {w : World} {a : Option Addr} {n : Nat} {l : List Rate} (h : RateRow w a n l) (hn : 0 < n) : ∃ b off, a = some ⟨b, off, none⟩ ∧ b < w.heap.size ∧ ∀ i, i < n → w.cell? ⟨b, off + i * 3, none⟩ = some (.string ⟨(l.getD i noRate).p.toArray⟩) ∧ w.cell? ⟨b, off + i * 3 + 1, none⟩ = some (.int .i64 (l.getD i noRate).price) ∧ w.cell? ⟨b, off + i * 3 + 2, none⟩ = some (.bool (l.getD i noRate).closed) := by
  have hl := h.len
  rcases h.cells.row with h0 | ⟨b, off, ha, hb, hc⟩
  · omega
  · refine ⟨b, off, ha, hb, fun i hi => ?_⟩
    have k0 := hc i hi 0 (by omega)
    have k1 := hc i hi 1 (by omega)
    have k2 := hc i hi 2 (by omega)
    rw [getD_map Rate.cells l i noRate [] (by omega)] at k0 k1 k2
    exact ⟨k0, k1, k2⟩
theorem DeckRow.at {w : World} {a : Option Addr} {n : Nat} {l : List Deck} (h : DeckRow w a n l) (hn : 0 < n) : ∃ b off, a = some ⟨b, off, none⟩ ∧ b < w.heap.size ∧ ∀ i, i < n → w.cell? ⟨b, off + i * 5, none⟩ = some (.int .i64 (l.getD i noDeck).from_) ∧ w.cell? ⟨b, off + i * 5 + 1, none⟩ = some (.int .i64 (l.getD i noDeck).setup) ∧ w.cell? ⟨b, off + i * 5 + 2, none⟩ = some (.int .i64 (l.getD i noDeck).least) ∧ w.cell? ⟨b, off + i * 5 + 3, none⟩ = some (.int .i64 (l.getD i noDeck).step) ∧ w.cell? ⟨b, off + i * 5 + 4, none⟩ = some (.slice (l.getD i noDeck).ra (l.getD i noDeck).rn (l.getD i noDeck).rc) := by
  have hl := h.len
  rcases h.cells.row with h0 | ⟨b, off, ha, hb, hc⟩
  · omega
  · refine ⟨b, off, ha, hb, fun i hi => ?_⟩
    have k0 := hc i hi 0 (by omega)
    have k1 := hc i hi 1 (by omega)
    have k2 := hc i hi 2 (by omega)
    have k3 := hc i hi 3 (by omega)
    have k4 := hc i hi 4 (by omega)
    rw [getD_map Deck.cells l i noDeck [] (by omega)] at k0 k1 k2 k3 k4
    exact ⟨k0, k1, k2, k3, k4⟩
theorem CarrRow.at {w : World} {a : Option Addr} {n : Nat} {l : List Carr} (h : CarrRow w a n l) (hn : 0 < n) : ∃ b off, a = some ⟨b, off, none⟩ ∧ b < w.heap.size ∧ ∀ i, i < n → w.cell? ⟨b, off + i * 3, none⟩ = some (.string ⟨(l.getD i noCarr).key.toArray⟩) ∧ w.cell? ⟨b, off + i * 3 + 1, none⟩ = some (.int .i64 (l.getD i noCarr).lines) ∧ w.cell? ⟨b, off + i * 3 + 2, none⟩ = some (.slice (l.getD i noCarr).da (l.getD i noCarr).dn (l.getD i noCarr).dc) := by
  have hl := h.len
  rcases h.cells.row with h0 | ⟨b, off, ha, hb, hc⟩
  · omega
  · refine ⟨b, off, ha, hb, fun i hi => ?_⟩
    have k0 := hc i hi 0 (by omega)
    have k1 := hc i hi 1 (by omega)
    have k2 := hc i hi 2 (by omega)
    rw [getD_map Carr.cells l i noCarr [] (by omega)] at k0 k1 k2
    exact ⟨k0, k1, k2⟩
end Go.Proofs.YtleagenhnchjdaaGreatDoor

set_option linter.unusedVariables false
set_option linter.unusedSimpArgs false
namespace Go.Proofs.YtleagenhnchjdaaGreatDoor
open Go.RowKit

structure Shr where
  c : List UInt8
  part : Int
def noShr : Shr := ⟨[], 0⟩
def Shr.cells (s : Shr) : List Value := [.string ⟨s.c.toArray⟩, .int .i64 s.part]
def hasC (l : List Carr) (k : List UInt8) : Bool := l.any fun c => decide (c.key = k)
def shareErr (l : List Carr) (s : List Shr) (i : Nat) : Int :=
  if hasC l (s.getD i noShr).c = false then 8
  else if 0 < i ∧ Op.bytesLess (s.getD (i - 1) noShr).c (s.getD i noShr).c = false then 7
  else if inB (s.getD i noShr).part 1 1000 = false then 1
  else 0
def partSum (s : List Shr) : Nat → Int
  | 0 => 0
  | k + 1 => partSum s k + (s.getD k noShr).part
def sharesErr (l : List Carr) (s : List Shr) : Int :=
  if 50 < s.length then 2 else if firstErr (shareErr l s) s.length ≠ 0 then firstErr (shareErr l s) s.length else if partSum s s.length ≠ 1000 then 16 else 0
def sentErr (s : List Shr) (sent : List Int) : Int :=
  if s.length ≠ sent.length then 3 else if sent.any (fun n => !(inB n 0 1000000000000)) = true then 1 else 0
/-- The error of CheckShares; of Turn. -/
def shrE (l : List Carr) (s : List Shr) : Int := if carrsErr l ≠ 0 then carrsErr l else sharesErr l s
def turnE (l : List Carr) (s : List Shr) (sent : List Int) : Int :=
  if carrsErr l ≠ 0 then carrsErr l else if s.length ≠ 0 ∧ sharesErr l s ≠ 0 then sharesErr l s else sentErr s sent
def sumTo (l : List Int) : Nat → Int
  | 0 => 0
  | k + 1 => sumTo l k + l.getD k 0
def behind (s : List Shr) (sent : List Int) (i : Nat) : Int := (s.getD i noShr).part * (sumTo sent s.length + 1) - 1000 * sent.getD i 0
def turnTo (s : List Shr) (sent : List Int) : Nat → List UInt8 × Int
  | 0 => ([], 0)
  | k + 1 => if k = 0 ∨ (turnTo s sent k).2 < behind s sent k then ((s.getD k noShr).c, behind s sent k) else turnTo s sent k
def turnK (s : List Shr) (sent : List Int) : List UInt8 := (turnTo s sent s.length).1
theorem turn_some {s : List Shr} {sent : List Int} (h : ∀ i, i < s.length → (s.getD i noShr).c ≠ []) : ∀ k, k ≤ s.length → ((turnTo s sent k).1 = [] ↔ k = 0)
  | 0, _ => by simp [turnTo]
  | k + 1, hk => by
    have ih := turn_some (sent := sent) h k (by omega)
    unfold turnTo
    split
    · exact ⟨fun e => absurd e (h k (by omega)), fun e => by omega⟩
    · rename_i h1
      rw [ih]
      exact ⟨fun e => absurd (Or.inl e) h1, fun e => by omega⟩
theorem sum_bound {l : List Int} (h : ∀ i, i < l.length → 0 ≤ l.getD i 0 ∧ l.getD i 0 ≤ 1000000000000) : ∀ k, k ≤ l.length → 0 ≤ sumTo l k ∧ sumTo l k ≤ 1000000000000 * k
  | 0, _ => by simp [sumTo]
  | k + 1, hk => by
    have h1 := sum_bound h k (by omega)
    have h2 := h k (by omega)
    unfold sumTo
    omega

structure Rcd where
  id : List UInt8
  fr : List UInt8
  to_ : List UInt8
  at_ : Int
  ring : Int
  talk : Int
  how : Int
  carrier : List UInt8
def noRcd : Rcd := ⟨[], [], [], 0, 0, 0, 0, []⟩
def Rcd.cells (r : Rcd) : List Value := [.string ⟨r.id.toArray⟩, .string ⟨r.fr.toArray⟩, .string ⟨r.to_.toArray⟩, .int .i64 r.at_, .int .i64 r.ring, .int .i64 r.talk, .int .i64 r.how, .string ⟨r.carrier.toArray⟩]
def recErr (l : List Carr) (rs : List Rcd) (i : Nat) : Int :=
  if isMomB (rs.getD i noRcd).at_ = false ∨ inB (rs.getD i noRcd).talk 0 86400000 = false then 1
  else if inB (rs.getD i noRcd).how 1 4 = false then 4
  else if (rs.getD i noRcd).carrier ≠ [] ∧ hasC l (rs.getD i noRcd).carrier = false then 8
  else 0
def winErr (f t : Int) : Int := if 0 ≤ f ∧ f ≤ t ∧ t ≤ 345686400000 then 0 else 1
def recsErr (l : List Carr) (rs : List Rcd) (f t : Int) : Int :=
  if 3000 < rs.length then 2 else if firstErr (recErr l rs) rs.length ≠ 0 then firstErr (recErr l rs) rs.length else winErr f t
def measE (l : List Carr) (rs : List Rcd) (f t : Int) : Int := if carrsErr l ≠ 0 then carrsErr l else recsErr l rs f t
/-- Calls, good ones, and how long these were talked, of a carrier among the first records. -/
structure Cnt where
  calls : Int
  good : Int
  talk : Int
def inWin (key : List UInt8) (f t : Int) (r : Rcd) : Prop := r.carrier = key ∧ f ≤ r.at_ ∧ r.at_ < t
instance (key : List UInt8) (f t : Int) (r : Rcd) : Decidable (inWin key f t r) := by unfold inWin; exact inferInstance
def cntTo (rs : List Rcd) (key : List UInt8) (f t : Int) : Nat → Cnt
  | 0 => ⟨0, 0, 0⟩
  | k + 1 =>
    let c := cntTo rs key f t k
    let r := rs.getD k noRcd
    if inWin key f t r then (if r.how = 1 then ⟨c.calls + 1, c.good + 1, c.talk + r.talk⟩ else ⟨c.calls + 1, c.good, c.talk⟩) else c
theorem cnt_bound {rs : List Rcd} {key : List UInt8} {f t : Int} (h : ∀ i, i < rs.length → 0 ≤ (rs.getD i noRcd).talk ∧ (rs.getD i noRcd).talk ≤ 86400000) : ∀ k, k ≤ rs.length →
    0 ≤ (cntTo rs key f t k).good ∧ (cntTo rs key f t k).good ≤ (cntTo rs key f t k).calls ∧ (cntTo rs key f t k).calls ≤ k ∧ 0 ≤ (cntTo rs key f t k).talk ∧ (cntTo rs key f t k).talk ≤ 86400000 * (cntTo rs key f t k).good
  | 0, _ => by simp [cntTo]
  | k + 1, hk => by
    have h1 := cnt_bound (key := key) (f := f) (t := t) h k (by omega)
    have h2 := h k (by omega)
    unfold cntTo
    simp only
    split
    · split
      · simp only; omega
      · simp only; omega
    · omega
structure Qual where
  c : List UInt8
  calls : Int
  good : Int
  num : Int
  den : Int
def Qual.cells (q : Qual) : List Value := [.string ⟨q.c.toArray⟩, .int .i64 q.calls, .int .i64 q.good, .int .i64 q.num, .int .i64 q.den]
/-- A fraction in lowest terms (b above 0). -/
def lowF (a b : Int) : Int × Int := (((a.toNat / Nat.gcd a.toNat b.toNat : Nat) : Int), ((b.toNat / Nat.gcd a.toNat b.toNat : Nat) : Int))
def qual (rs : List Rcd) (key : List UInt8) (f t : Int) : Option Qual :=
  let c := cntTo rs key f t rs.length
  if c.calls = 0 then none else some ⟨key, c.calls, 1000 * c.good / c.calls, (lowF c.talk (max c.good 1)).1, (lowF c.talk (max c.good 1)).2⟩
def quals (l : List Carr) (rs : List Rcd) (f t : Int) (k : Nat) : List Qual := (List.range k).filterMap fun i => qual rs (l.getD i noCarr).key f t
theorem quals_succ (l : List Carr) (rs : List Rcd) (f t : Int) (k : Nat) : quals l rs f t (k + 1) = quals l rs f t k ++ (qual rs (l.getD k noCarr).key f t).toList := by
  unfold quals
  rw [List.range_succ, List.filterMap_append]
  congr 1
end Go.Proofs.YtleagenhnchjdaaGreatDoor

namespace Go.Proofs.YtleagenhnchjdaaGreatDoor
open Go.RowKit

def belowI (x n : Int) : Int := if n < 1 then 0 else if x.tmod n < 0 then x.tmod n + n else x.tmod n

theorem belowI_range (x n : Int) (h : 1 ≤ n) : 0 ≤ belowI x n ∧ belowI x n ≤ n - 1 := by
  unfold belowI
  rw [if_neg (by omega)]
  have h1 := Int.tmod_lt_of_pos x (show 0 < n by omega)
  have h2 : -n < x.tmod n := Int.lt_tmod_of_pos x (by omega)
  split <;> omega

theorem below_any (x n : Int) (w : World) (h : 1 ≤ n) (hn : n ≤ 9223372036854775807) :
    Calls Tryz.prog 67 #[.int .i64 x, .int .i64 n] w fun e w' => e = .returned (.int .i64 (belowI x n)) ∧ w = w' := by
  have h1 := Int.tmod_lt_of_pos x (show 0 < n by omega)
  have h2 : -n < x.tmod n := Int.lt_tmod_of_pos x (by omega)
  have hlt : ¬ n < 1 := by omega
  by_cases hx : x.tmod n < 0
  · have hb : Hid (belowI x n = x.tmod n + n) := Lib.hid (by unfold belowI; rw [if_neg hlt, if_pos hx])
    go_enter Tryz.func67, Tryz.ntmps67
    go_wp2
    go_ret
    exact ⟨ret_int hb.out.symm, rfl⟩
  · have hb : Hid (belowI x n = x.tmod n) := Lib.hid (by unfold belowI; rw [if_neg hlt, if_neg hx])
    go_enter Tryz.func67, Tryz.ntmps67
    go_wp2
    go_ret
    exact ⟨ret_int hb.out.symm, rfl⟩

theorem stream_set {w w' : World} {S k : Nat} {a : Option Addr} {len cap : Nat} {zs : List Int} {n : Nat} (hn : n ≤ k) (hs : S < w.heap.size)
    (h0 : w.cell? ⟨S, 0, none⟩ = some (.slice a len cap)) (h1 : w.cell? ⟨S, 1, none⟩ = some (.int .i64 n)) (hf : w.frozen? ⟨S, 1, none⟩ = false) (hr : IntRow w S a len cap zs)
    (v : Value) (hv : v = .int .i64 ((n : Int) + 1)) (m : Nat) (hw : w' = (w.setCell ⟨S, 1, none⟩ v).drewN m) : StreamOk w' S (k + 1) ∧ Keeps S w w' := by
  subst hv
  have kp : Keeps S w (w.setCell ⟨S, 1, none⟩ (.int .i64 ((n : Int) + 1))) := (Keeps.refl S w).setCell rfl _
  have kp' : Keeps S w w' := by rw [hw]; exact kp.drewN m
  refine ⟨⟨a, len, cap, zs, n + 1, by omega, Nat.lt_of_lt_of_le hs kp'.size, ?_, ?_, ?_, hr.kept (kp'.below (Nat.le_of_lt hs) (Nat.le_refl _))⟩, kp'⟩
  · rw [hw]; simpa using (World.cell?_setCell_other _ _ _ _ (by simp)).trans h0
  · rw [hw]; simpa using World.cell?_setCell_same _ _ _ h1
  · rw [hw]; simpa using hf

set_option maxHeartbeats 1000000 in
theorem next_any (S k : Nat) (n : Int) (w : World) (h : StreamOk w S k) (hk : k ≤ 1000000000) (h1 : 1 ≤ n) (h2 : n ≤ 9223372036854775807) :
    Calls Tryz.prog 29 #[.pointer (some ⟨S, 0, none⟩), .int .i64 n] w (NextPost S (k + 1) 0 (n - 1) w) := by
  obtain ⟨a, len, cap, zs, m, hm, hs, c0, c1, cf, hr⟩ := h
  have fin := fun (x : Int) (w' : World) (v : Value) (hv : v = .int .i64 ((m : Int) + 1)) (j : Nat) (hw : w' = (w.setCell ⟨S, 1, none⟩ v).drewN j) =>
    show NextPost S (k + 1) 0 (n - 1) w (.returned (.int .i64 (belowI x n))) w' from
    ⟨_, rfl, (belowI_range x n h1).1, (belowI_range x n h1).2, stream_set hm hs c0 c1 cf hr v hv j hw⟩
  have Fin := Lib.hid fin
  clear fin
  rcases hr with hl | ⟨b, off, ha, hb, hlc, hcm, hz, hc⟩
  · subst hl
    go_enter Tryz.func29, Tryz.ntmps29
    go_wp2_with (go_at_call 67; refine (below_any _ _ _ h1 h2).mono ?_; rintro e w' ⟨rfl, rfl⟩)
    go_ret
    exact Fin.out _ _ _ rfl 0 rfl
  · subst ha
    unfold maxLen at hcm
    by_cases hl : len = 0
    · subst hl
      go_enter Tryz.func29, Tryz.ntmps29
      go_wp2_with (go_at_call 67; refine (below_any _ _ _ h1 h2).mono ?_; rintro e w' ⟨rfl, rfl⟩)
      go_ret
      exact Fin.out _ _ _ rfl 0 rfl
    · have hl0 : ((len : Int) == 0) = false := by simp; omega
      have hmod : m % len < len := Nat.mod_lt _ (by omega)
      have hcell := hc (m % len) hmod
      have hbm : b ≠ S := by omega
      clear hc
      go_enter Tryz.func29, Tryz.ntmps29
      go_wp2_with fail
      go_quiet (fail)
      go_wp2_with fail
      go_quiet (fail)
      go_wp2_with fail
      refine (below_any _ _ _ (by omega) (by omega)).mono ?_
      rintro e w' ⟨rfl, rfl⟩
      go_wp2_with fail
      refine (below_any _ _ _ h1 h2).mono ?_
      rintro e w' ⟨rfl, rfl⟩
      go_wp2_with fail
      go_ret
      exact Fin.out _ _ _ rfl _ rfl

/-- A statement's end: nothing that was there before has turned. -/
theorem law_end {w w9 : World} {o : Obj} (hk : Keeps w.heap.size (w.alloc o) w9) : Below w.heap.size w w9 :=
  ((Below.refl _ w).alloc (Nat.le_refl _) o).trans (hk.below (B := w.heap.size) (by simp) (Nat.le_refl _))

/-- The slice that came in. -/
def ArgRow (w : World) (a : Option Addr) (len cap : Nat) (zs : List Int) : Prop :=
  len = 0 ∨ ∃ b off, a = some ⟨b, off, none⟩ ∧ b < w.heap.size ∧ len ≤ cap ∧ cap ≤ maxLen ∧ len ≤ zs.length ∧ ∀ i, i < len → w.cell? ⟨b, off + i, none⟩ = some (.int .i64 (zs.getD i 0))

theorem argRow_of {w : World} {x : Addr} {len cap : Nat} {zs : List Int} (h1 : len ≤ cap) (h2 : cap ≤ maxLen) (h3 : zs.length = cap) (hc : ∀ i, i < zs.length → w.cell? (x.add i) = some (.int .i64 (zs.getD i 0))) : ArgRow w (some x) len cap zs := by
  by_cases h0 : len = 0
  · exact Or.inl h0
  · obtain ⟨b, off, spot⟩ := x
    have hc0 := hc 0 (by omega)
    have hspot : spot = none := by simpa [Addr.add] using World.cell?_spot hc0
    subst hspot
    refine Or.inr ⟨b, off, rfl, ?_, h1, h2, by omega, fun i hi => ?_⟩
    · rcases Nat.lt_or_ge b w.heap.size with h | h
      · exact h
      · simp [World.cell?, Addr.add, Array.getElem?_eq_none h] at hc0
    · have := hc i (by omega)
      have hp : (⟨b, off, none⟩ : Addr).add i = ⟨b, off + i, none⟩ := by unfold Addr.add; split <;> simp_all
      rwa [hp] at this

/-- The stream that a statement begins with. -/
theorem stream_start {w : World} {a : Option Addr} {len cap : Nat} {zs : List Int} (h : len = 0 ∨ ∃ b off, a = some ⟨b, off, none⟩ ∧ b < w.heap.size ∧ len ≤ cap ∧ cap ≤ maxLen ∧ len ≤ zs.length ∧ ∀ i, i < len → w.cell? ⟨b, off + i, none⟩ = some (.int .i64 (zs.getD i 0))) :
    StreamOk (w.alloc (.cells #[.slice a len cap, .int .i64 0] 25)) w.heap.size 0 := by
  refine ⟨a, len, cap, zs, 0, Nat.le_refl _, by simp, by simp, by simp, by simp, ?_⟩
  refine h.imp id ?_
  rintro ⟨b, off, ha, hb, h1, h2, h3, hc⟩
  refine ⟨b, off, ha, hb, h1, h2, h3, fun i hi => ?_⟩
  rw [World.cell?_alloc_lt _ _ _ (by show b < _; omega)]
  exact hc i hi

theorem range_any (S k : Nat) (lo hi : Int) (w : World) (h : StreamOk w S k) (hk : k ≤ 1000000000) (h1 : lo ≤ hi) (h2 : -4611686018427387904 ≤ lo) (h3 : hi ≤ 4611686018427387000) :
    Calls Tryz.prog 110 #[.pointer (some ⟨S, 0, none⟩), .int .i64 lo, .int .i64 hi] w (NextPost S (k + 1) lo hi w) := by
  have hlt : ¬ hi < lo := by omega
  go_enter Tryz.func110, Tryz.ntmps110
  go_wp2_with fail
  refine (next_any S k _ _ h hk (by omega) (by omega)).mono ?_
  rintro e w' ⟨r, rfl, r0, r1, hst, hkp⟩
  go_wp2_with fail
  go_ret
  exact ⟨lo + r, rfl, by omega, by omega, hst, hkp⟩

def FlipPost (S k : Nat) (w : World) (e : Ending) (w' : World) : Prop :=
  ∃ r : Bool, e = .returned (.bool r) ∧ StreamOk w' S k ∧ Keeps S w w'

theorem flip_any (S k : Nat) (n : Int) (w : World) (h : StreamOk w S k) (hk : k ≤ 1000000000) (h1 : 1 ≤ n) (h2 : n ≤ 9223372036854775807) :
    Calls Tryz.prog 30 #[.pointer (some ⟨S, 0, none⟩), .int .i64 n] w (FlipPost S (k + 1) w) := by
  go_enter Tryz.func30, Tryz.ntmps30
  go_wp2_with fail
  refine (next_any S k _ _ h hk h1 h2).mono ?_
  rintro e w' ⟨r, rfl, r0, r1, hst, hkp⟩
  go_wp2_with fail
  go_ret
  exact ⟨_, rfl, hst, hkp⟩
end Go.Proofs.YtleagenhnchjdaaGreatDoor

namespace Go.Proofs.YtleagenhnchjdaaGreatDoor
open Go.RowKit
set_option linter.unusedVariables false

/-- One of some values is handed out. -/
def PickPost (S k : Nat) (P : Int → Prop) (w : World) (e : Ending) (w' : World) : Prop :=
  ∃ r : Int, e = .returned (.int .i64 r) ∧ P r ∧ StreamOk w' S k ∧ Keeps S w w'
def SomePost (S k : Nat) (P : List UInt8 → Prop) (w : World) (e : Ending) (w' : World) : Prop :=
  ∃ r : List UInt8, e = .returned (.string ⟨r.toArray⟩) ∧ P r ∧ StreamOk w' S k ∧ Keeps S w w'

theorem pick_any (S k b n c : Nat) (vals : List Int) (P : Int → Prop) (w : World) (h : StreamOk w S k) (hk : k ≤ 1000000000) (hb : b < w.heap.size) (hS : b ≠ S) (h1 : 1 ≤ n) (h2 : n ≤ 1000) (hc : ∀ i, i < n → w.cell? ⟨b, i, none⟩ = some (.int .i64 (vals.getD i 0))) (hP : ∀ i, i < n → P (vals.getD i 0)) :
    Calls Tryz.prog 28 #[.pointer (some ⟨S, 0, none⟩), .slice (some ⟨b, 0, none⟩) n c] w (PickPost S (k + 1) P w) := by
  have Hc := Lib.hid hc
  have HP := Lib.hid hP
  have HS := Lib.hid h
  clear hc hP h
  go_enter Tryz.func28, Tryz.ntmps28
  go_wp2_with fail
  refine (next_any S k _ _ HS.out hk (by omega) (by omega)).mono ?_
  rintro e w' ⟨r, rfl, r0, r1, hst, hkp⟩
  obtain ⟨r, rfl⟩ := Int.eq_ofNat_of_zero_le r0
  have hr : r < n := by omega
  have c0 := (hkp.cell (p := ⟨b, r, none⟩) hb hS).trans (Hc.out r hr)
  have HP' := Lib.hid (HP.out r hr)
  have HK := Lib.hid hkp
  have HS' := Lib.hid hst
  clear hkp hst
  generalize vals.getD r 0 = x at c0 HP'
  go_wp2_with fail
  go_ret
  exact ⟨x, rfl, HP'.out, HS'.out, HK.out⟩

theorem some_any (S k b n c : Nat) (vals : List (List UInt8)) (P : List UInt8 → Prop) (w : World) (h : StreamOk w S k) (hk : k ≤ 1000000000) (hb : b < w.heap.size) (hS : b ≠ S) (h1 : 1 ≤ n) (h2 : n ≤ 1000) (hc : ∀ i, i < n → w.cell? ⟨b, i, none⟩ = some (.string ⟨(vals.getD i []).toArray⟩)) (hP : ∀ i, i < n → P (vals.getD i [])) :
    Calls Tryz.prog 31 #[.pointer (some ⟨S, 0, none⟩), .slice (some ⟨b, 0, none⟩) n c] w (SomePost S (k + 1) P w) := by
  have Hc := Lib.hid hc
  have HP := Lib.hid hP
  have HS := Lib.hid h
  clear hc hP h
  go_enter Tryz.func31, Tryz.ntmps31
  go_wp2_with fail
  refine (next_any S k _ _ HS.out hk (by omega) (by omega)).mono ?_
  rintro e w' ⟨r, rfl, r0, r1, hst, hkp⟩
  obtain ⟨r, rfl⟩ := Int.eq_ofNat_of_zero_le r0
  have hr : r < n := by omega
  have c0 := (hkp.cell (p := ⟨b, r, none⟩) hb hS).trans (Hc.out r hr)
  have HP' := Lib.hid (HP.out r hr)
  have HK := Lib.hid hkp
  have HS' := Lib.hid hst
  clear hkp hst
  generalize vals.getD r [] = x at c0 HP'
  go_wp2_with fail
  go_ret
  exact ⟨x, rfl, HP'.out, HS'.out, HK.out⟩

/-- Three, four, five values in a new block. -/
theorem cells3 {w : World} {b : Nat} {x0 x1 x2 : Int} (h0 : w.cell? ⟨b, 0, none⟩ = some (.int .i64 x0)) (h1 : w.cell? ⟨b, 1, none⟩ = some (.int .i64 x1)) (h2 : w.cell? ⟨b, 2, none⟩ = some (.int .i64 x2)) : ∀ i, i < 3 → w.cell? ⟨b, i, none⟩ = some (.int .i64 (([x0, x1, x2] : List Int).getD i 0))
  | 0, _ => h0
  | 1, _ => h1
  | 2, _ => h2
theorem cells4 {w : World} {b : Nat} {x0 x1 x2 x3 : Int} (h0 : w.cell? ⟨b, 0, none⟩ = some (.int .i64 x0)) (h1 : w.cell? ⟨b, 1, none⟩ = some (.int .i64 x1)) (h2 : w.cell? ⟨b, 2, none⟩ = some (.int .i64 x2)) (h3 : w.cell? ⟨b, 3, none⟩ = some (.int .i64 x3)) : ∀ i, i < 4 → w.cell? ⟨b, i, none⟩ = some (.int .i64 (([x0, x1, x2, x3] : List Int).getD i 0))
  | 0, _ => h0
  | 1, _ => h1
  | 2, _ => h2
  | 3, _ => h3
theorem cells5 {w : World} {b : Nat} {x0 x1 x2 x3 x4 : Int} (h0 : w.cell? ⟨b, 0, none⟩ = some (.int .i64 x0)) (h1 : w.cell? ⟨b, 1, none⟩ = some (.int .i64 x1)) (h2 : w.cell? ⟨b, 2, none⟩ = some (.int .i64 x2)) (h3 : w.cell? ⟨b, 3, none⟩ = some (.int .i64 x3)) (h4 : w.cell? ⟨b, 4, none⟩ = some (.int .i64 x4)) : ∀ i, i < 5 → w.cell? ⟨b, i, none⟩ = some (.int .i64 (([x0, x1, x2, x3, x4] : List Int).getD i 0))
  | 0, _ => h0
  | 1, _ => h1
  | 2, _ => h2
  | 3, _ => h3
  | 4, _ => h4

/-- Pick of three, four or five numbers that are written out. -/
theorem pick3 (S k b : Nat) (x0 x1 x2 : Int) (P : Int → Prop) (w : World) (h : StreamOk w S k) (hk : k ≤ 1000000000) (hb : b < w.heap.size) (hS : b ≠ S) (h0 : w.cell? ⟨b, 0, none⟩ = some (.int .i64 x0)) (h1 : w.cell? ⟨b, 1, none⟩ = some (.int .i64 x1)) (h2 : w.cell? ⟨b, 2, none⟩ = some (.int .i64 x2)) (p0 : P x0) (p1 : P x1) (p2 : P x2) :
    Calls Tryz.prog 28 #[.pointer (some ⟨S, 0, none⟩), .slice (some ⟨b, 0, none⟩) 3 3] w (PickPost S (k + 1) P w) :=
  pick_any S k b 3 3 [x0, x1, x2] P w h hk hb hS (by omega) (by omega) (cells3 h0 h1 h2) (fun i hi => by match i, hi with | 0, _ => exact p0 | 1, _ => exact p1 | 2, _ => exact p2)
theorem pick4 (S k b : Nat) (x0 x1 x2 x3 : Int) (P : Int → Prop) (w : World) (h : StreamOk w S k) (hk : k ≤ 1000000000) (hb : b < w.heap.size) (hS : b ≠ S) (h0 : w.cell? ⟨b, 0, none⟩ = some (.int .i64 x0)) (h1 : w.cell? ⟨b, 1, none⟩ = some (.int .i64 x1)) (h2 : w.cell? ⟨b, 2, none⟩ = some (.int .i64 x2)) (h3 : w.cell? ⟨b, 3, none⟩ = some (.int .i64 x3)) (p0 : P x0) (p1 : P x1) (p2 : P x2) (p3 : P x3) :
    Calls Tryz.prog 28 #[.pointer (some ⟨S, 0, none⟩), .slice (some ⟨b, 0, none⟩) 4 4] w (PickPost S (k + 1) P w) :=
  pick_any S k b 4 4 [x0, x1, x2, x3] P w h hk hb hS (by omega) (by omega) (cells4 h0 h1 h2 h3) (fun i hi => by match i, hi with | 0, _ => exact p0 | 1, _ => exact p1 | 2, _ => exact p2 | 3, _ => exact p3)
theorem pick5 (S k b : Nat) (x0 x1 x2 x3 x4 : Int) (P : Int → Prop) (w : World) (h : StreamOk w S k) (hk : k ≤ 1000000000) (hb : b < w.heap.size) (hS : b ≠ S) (h0 : w.cell? ⟨b, 0, none⟩ = some (.int .i64 x0)) (h1 : w.cell? ⟨b, 1, none⟩ = some (.int .i64 x1)) (h2 : w.cell? ⟨b, 2, none⟩ = some (.int .i64 x2)) (h3 : w.cell? ⟨b, 3, none⟩ = some (.int .i64 x3)) (h4 : w.cell? ⟨b, 4, none⟩ = some (.int .i64 x4)) (p0 : P x0) (p1 : P x1) (p2 : P x2) (p3 : P x3) (p4 : P x4) :
    Calls Tryz.prog 28 #[.pointer (some ⟨S, 0, none⟩), .slice (some ⟨b, 0, none⟩) 5 5] w (PickPost S (k + 1) P w) :=
  pick_any S k b 5 5 [x0, x1, x2, x3, x4] P w h hk hb hS (by omega) (by omega) (cells5 h0 h1 h2 h3 h4) (fun i hi => by match i, hi with | 0, _ => exact p0 | 1, _ => exact p1 | 2, _ => exact p2 | 3, _ => exact p3 | 4, _ => exact p4)
theorem some3 (S k b : Nat) (x0 x1 x2 : List UInt8) (P : List UInt8 → Prop) (w : World) (h : StreamOk w S k) (hk : k ≤ 1000000000) (hb : b < w.heap.size) (hS : b ≠ S) (h0 : w.cell? ⟨b, 0, none⟩ = some (.string ⟨x0.toArray⟩)) (h1 : w.cell? ⟨b, 1, none⟩ = some (.string ⟨x1.toArray⟩)) (h2 : w.cell? ⟨b, 2, none⟩ = some (.string ⟨x2.toArray⟩)) (p0 : P x0) (p1 : P x1) (p2 : P x2) :
    Calls Tryz.prog 31 #[.pointer (some ⟨S, 0, none⟩), .slice (some ⟨b, 0, none⟩) 3 3] w (SomePost S (k + 1) P w) :=
  some_any S k b 3 3 [x0, x1, x2] P w h hk hb hS (by omega) (by omega) (fun i hi => by match i, hi with | 0, _ => exact h0 | 1, _ => exact h1 | 2, _ => exact h2) (fun i hi => by match i, hi with | 0, _ => exact p0 | 1, _ => exact p1 | 2, _ => exact p2)
theorem some4 (S k b : Nat) (x0 x1 x2 x3 : List UInt8) (P : List UInt8 → Prop) (w : World) (h : StreamOk w S k) (hk : k ≤ 1000000000) (hb : b < w.heap.size) (hS : b ≠ S) (h0 : w.cell? ⟨b, 0, none⟩ = some (.string ⟨x0.toArray⟩)) (h1 : w.cell? ⟨b, 1, none⟩ = some (.string ⟨x1.toArray⟩)) (h2 : w.cell? ⟨b, 2, none⟩ = some (.string ⟨x2.toArray⟩)) (h3 : w.cell? ⟨b, 3, none⟩ = some (.string ⟨x3.toArray⟩)) (p0 : P x0) (p1 : P x1) (p2 : P x2) (p3 : P x3) :
    Calls Tryz.prog 31 #[.pointer (some ⟨S, 0, none⟩), .slice (some ⟨b, 0, none⟩) 4 4] w (SomePost S (k + 1) P w) :=
  some_any S k b 4 4 [x0, x1, x2, x3] P w h hk hb hS (by omega) (by omega) (fun i hi => by match i, hi with | 0, _ => exact h0 | 1, _ => exact h1 | 2, _ => exact h2 | 3, _ => exact h3) (fun i hi => by match i, hi with | 0, _ => exact p0 | 1, _ => exact p1 | 2, _ => exact p2 | 3, _ => exact p3)
end Go.Proofs.YtleagenhnchjdaaGreatDoor

namespace Go.Proofs.YtleagenhnchjdaaGreatDoor
open Go.RowKit

section
variable {P : Program} {ops : Array Oper} {Q : Exit → Act → World → Prop}

theorem wpAny_monoQ {Q' : Exit → Act → World → Prop} (hn : ∀ a w, Q .normal a w → Q' .normal a w) (ho : ∀ e a w, e ≠ .normal → Q e a w → Q' e a w) : ∀ (fuel : Nat) (l : Array Bool) (a : Act) (w : World), wpAny P .any ops Q fuel l a w → wpAny P .any ops Q' fuel l a w := by
  have up : ∀ (o : Oper) (a : Act) (K K' : Act → World → Prop), (∀ a w, K a w → K' a w) → ∀ r : Result Next, o.upon P a K Q r → o.upon P a K' Q' r := by
    intro o a K K' hK r h
    cases r with
    | ok n w' =>
      cases n <;> simp only [Oper.upon] at h ⊢ <;>
        first
          | exact hK _ _ h
          | exact Calls.mono h (fun e w'' he => by
              cases e with
              | returned v => exact hK _ _ he
              | panicked c => exact ho _ _ _ (by simp) he
              | outgrown => exact let ⟨a, w, q⟩ := he; ⟨a, w, ho _ _ _ (by simp) q⟩)
          | exact Rows.mono h (fun _ _ he => hK _ _ he)
    | halt x w' => cases x <;> simp only [Oper.upon] at h ⊢ <;> first | exact ho _ _ _ (by simp) h | exact h
  intro fuel
  induction fuel with
  | zero => intro l a w h; exact ⟨h.1, hn _ _ h.2⟩
  | succ fuel ih =>
    intro l a w h
    refine ⟨fun h0 => hn _ _ (h.1 h0), fun i hi => ?_⟩
    have h1 := h.2 i hi
    unfold wpOp at *
    split
    · simp only [*] at h1; exact ih _ _ _ h1
    · rename_i o hoo
      simp only [hoo] at h1
      split
      · rename_i hw
        simp only [hw, if_true] at h1
        rcases h1 with h1 | ⟨h1, a1, w1, h2⟩
        · exact Or.inl (up o a _ _ (fun a w h => ih _ a w h) _ h1)
        · exact Or.inr ⟨h1, a1, w1, ho _ _ _ (by simp) h2⟩
      · rename_i hw
        simp only [hw] at h1
        exact ih _ _ _ h1

/-- The post of the first operations: the rest is still to come, in the text's order. -/
def tailQ (P : Program) (ops : Array Oper) (Q : Exit → Act → World → Prop) (k : Nat) : Exit → Act → World → Prop
  | .normal, a, w => wpTail P Q (ops.toList.drop k) a w
  | e, a, w => Q e a w
where
  wpTail (P : Program) (Q : Exit → Act → World → Prop) : List Oper → Act → World → Prop
    | [], a, w => Q .normal a w
    | o :: rest, a, w => o.wp P a w (wpTail P Q rest) Q ∨ (o.asks P a w ∧ LetsOut Q)

theorem tailQ_other {k : Nat} {e : Exit} (hn : e ≠ .normal) : tailQ P ops Q k e = Q e := by cases e <;> first | rfl | exact absurd rfl hn

/-- Each of the operations from m on waits for all ahead of it, and has no guard. -/
def tailChk (ops : Array Oper) (m : Nat) : Bool :=
  (List.range ops.size).all fun k => decide (k < m) || (lastChk (ops.extract 0 (k + 1)) k && ((ops[k]?).map fun o => o.guard.isNone).getD false)

theorem ext_get (ops : Array Oper) (k i : Nat) (h : i < k) : (ops.extract 0 k)[i]? = ops[i]? := by
  rw [Array.getElem?_extract]
  by_cases hi : i < ops.size
  · rw [if_pos (by omega)]; simp
  · rw [if_neg (by omega), Array.getElem?_eq_none (by omega)]
theorem ext_get_no (ops : Array Oper) (k i : Nat) (h : ¬ i < k) : (ops.extract 0 k)[i]? = none := by
  rw [Array.getElem?_extract, if_neg (by omega)]

theorem tail_any (m : Nat) (hc : tailChk ops m = true) : ∀ (d k : Nat), k + d = ops.size → m ≤ k → ∀ (a : Act) (w : World), wpAny P .any (ops.extract 0 k) (tailQ P ops Q k) k (Array.replicate k false) a w → wpAny P .any ops Q ops.size (Array.replicate ops.size false) a w := by
  intro d
  induction d with
  | zero =>
    intro k hk hm a w h
    obtain rfl : k = ops.size := by omega
    rw [show ops.extract 0 ops.size = ops by simp] at h
    refine wpAny_monoQ (fun a w h => ?_) (fun e a w hn h => by rw [tailQ_other hn] at h; exact h) _ _ a w h
    have h' : tailQ.wpTail P Q (ops.toList.drop ops.size) a w := h
    rw [List.drop_of_length_le (by simp)] at h'
    exact h'
  | succ d ih =>
    intro k hk hm a w h
    refine ih (k + 1) (by omega) (by omega) a w ?_
    have hc' := List.all_eq_true.1 hc k (by simp; omega)
    simp only [Bool.or_eq_true, decide_eq_true_eq, Bool.and_eq_true] at hc'
    obtain ⟨hl, hg⟩ := hc'.resolve_left (by omega)
    have hlt : k < ops.size := by omega
    have ho : ops[k]? = some ops[k] := by simp [hlt]
    have hgn : ops[k].guard = none := by simpa [ho] using hg
    refine last_any (m := k) (st := ops[k]) (ops := ops.extract 0 (k + 1)) (ops' := ops.extract 0 k) (by simp; omega) (by rw [ext_get _ _ _ (Nat.lt_succ_self k)]; exact ho) hgn hl (by simp; omega) (fun i hi => by rw [ext_get _ _ _ hi, ext_get _ _ _ (Nat.lt_succ_of_lt hi)]) k (Array.replicate (k + 1) false) (Array.replicate k false) a w (by simp) (by simp) (fun i hi => by simp [hi, Nat.lt_succ_of_lt hi]) (by simp) ?_ ?_
    · intro i o _ hl
      exfalso
      by_cases h' : i < k + 1
      · simp [h'] at hl
      · simp [h'] at hl
    · refine wpAny_monoQ (fun a w h => ?_) (fun e a w hn h => ?_) _ _ a w h
      · have h' : tailQ.wpTail P Q (ops.toList.drop k) a w := h
        rw [List.drop_eq_getElem_cons (by simpa using hlt)] at h'
        have h2 : ops[k].wp P a w (tailQ.wpTail P Q (ops.toList.drop (k + 1))) Q ∨ (ops[k].asks P a w ∧ LetsOut Q) := by simpa [tailQ.wpTail] using h'
        show Oper.wp P ops[k] a w (fun a' w' => tailQ P ops Q (k + 1) .normal a' w') (tailQ P ops Q (k + 1)) ∨ (ops[k].asks P a w ∧ LetsOut (tailQ P ops Q (k + 1)))
        refine h2.imp (fun h2 => ?_) (fun h2 => h2)
        unfold Oper.wp at *
        generalize (execOp a.eval ops[k]).run P w = r at *
        cases r with
        | ok n w' =>
          cases n <;> simp only [Oper.upon] at h2 ⊢ <;>
            first
              | exact h2
              | exact Calls.mono h2 (fun e w'' he => by cases e <;> exact he)
              | exact Rows.mono h2 (fun _ _ he => he)
        | halt x w' => cases x <;> simp only [Oper.upon] at h2 ⊢ <;> exact h2
      · rw [tailQ_other hn] at h
        show lastQ P ops[k] (tailQ P ops Q (k + 1)) e a w
        cases e <;> first | exact absurd rfl hn | exact h

/-! ### The first operations, whatever their order -/

/-- What is known of an operation's value: a property of the value; or a slice over a block of its own, whose cells are listed. -/
inductive Spec where
  | val (p : Value → Prop)
  | arr (n : Nat) (p : List Value → Prop)
  | mem (p : World → Value → Prop)

def Spec.holds (S : Nat) (w : World) : Spec → Value → Prop
  | .val p, v => p v
  | .arr n p, v => ∃ b vs, v = .slice (some ⟨b, 0, none⟩) n n ∧ p vs ∧ b ≠ S ∧ b < w.heap.size ∧ ∀ (j : Nat) (u : Value), vs[j]? = some u → w.cell? ⟨b, j, none⟩ = some u
  | .mem p, v => ∀ w', Keeps S w w' → p w' v

theorem Spec.holds.keeps {S : Nat} {w w' : World} {s : Spec} {v : Value} (h : s.holds S w v) (k : Keeps S w w') : s.holds S w' v := by
  cases s with
  | val p => exact h
  | arr n p =>
    obtain ⟨b, vs, hv, hp, hb, hl, hc⟩ := h
    exact ⟨b, vs, hv, hp, hb, Nat.lt_of_lt_of_le hl k.size, fun j u hj => (k.cell (p := ⟨b, j, none⟩) hl hb).trans (hc j u hj)⟩
  | mem p => exact fun w'' k' => h w'' (k.trans k')

def dstOf (ops : Array Oper) (i : Nat) : Option Tmp := (ops[i]?).bind (·.dst)

/-- The frame with the values of what is listed. -/
def putSome (ops : Array Oper) (vals : Nat → Value) (listed : Nat → Bool) (l : List Nat) (a : Act) : Act := l.foldl (fun a i => if listed i then a.put (dstOf ops i) (vals i) else a) a

theorem putSome_put {ops : Array Oper} {d : Option Tmp} {v : Value} {vals : Nat → Value} {listed : Nat → Bool} : ∀ (l : List Nat) (a : Act), (∀ j ∈ l, ∀ t, dstOf ops j = some t → d ≠ some t) → putSome ops vals listed l (a.put d v) = (putSome ops vals listed l a).put d v
  | [], a, _ => rfl
  | j :: l, a, h => by
    simp only [putSome, List.foldl_cons]
    have hl := fun a => putSome_put (ops := ops) (d := d) (v := v) (vals := vals) (listed := listed) l a (fun j hj => h j (List.mem_cons_of_mem _ hj))
    simp only [putSome] at hl
    by_cases hj : listed j = true
    · simp only [hj, if_true]
      rw [← hl, Act.put_comm a _ _ (fun t ht => ?_)]
      intro h2
      exact h j (List.mem_cons_self) t h2 ht
    · simp only [hj, Bool.false_eq_true, if_false]
      exact hl a

theorem putSome_congr {ops : Array Oper} {vals vals' : Nat → Value} {listed listed' : Nat → Bool} : ∀ (l : List Nat) (a : Act), (∀ j ∈ l, listed j = listed' j ∧ (listed j = true → vals j = vals' j)) → putSome ops vals listed l a = putSome ops vals' listed' l a
  | [], a, _ => rfl
  | j :: l, a, h => by
    simp only [putSome, List.foldl_cons]
    obtain ⟨h1, h2⟩ := h j List.mem_cons_self
    have hl := fun a => putSome_congr (ops := ops) (vals := vals) (vals' := vals') (listed := listed) (listed' := listed') l a (fun j hj => h j (List.mem_cons_of_mem _ hj))
    simp only [putSome] at hl
    rw [hl, ← h1]
    by_cases hj : listed j = true
    · simp only [hj, if_true, h2 hj]
    · simp only [hj, Bool.false_eq_true, if_false]

theorem putSome_set {ops : Array Oper} {vals : Nat → Value} {listed : Nat → Bool} {i : Nat} (v : Value) : ∀ (l : List Nat) (a : Act), l.Nodup → i ∈ l → listed i = false → (∀ j ∈ l, j ≠ i → ∀ t, dstOf ops j = some t → dstOf ops i ≠ some t) →
    putSome ops (fun j => if j = i then v else vals j) (fun j => if j = i then true else listed j) l a = (putSome ops vals listed l a).put (dstOf ops i) v
  | [], a, _, h, _, _ => by cases h
  | j :: l, a, hn, h, hu, hd => by
    by_cases hji : j = i
    · subst hji
      have hnot : j ∉ l := (List.nodup_cons.1 hn).1
      have e1 : putSome ops (fun k => if k = j then v else vals k) (fun k => if k = j then true else listed k) l (a.put (dstOf ops j) v) = putSome ops vals listed l (a.put (dstOf ops j) v) :=
        putSome_congr l _ (fun k hk => by have : k ≠ j := fun e => hnot (e ▸ hk); simp [this])
      have e2 := putSome_put (ops := ops) (d := dstOf ops j) (v := v) (vals := vals) (listed := listed) l a (fun k hk t ht => hd k (List.mem_cons_of_mem _ hk) (fun e => hnot (e ▸ hk)) t ht)
      simp only [putSome, List.foldl_cons, if_true, hu, Bool.false_eq_true, if_false] at e1 e2 ⊢
      rw [e1, e2]
    · have ih := fun a => putSome_set (ops := ops) (vals := vals) (listed := listed) (i := i) v l a (List.nodup_cons.1 hn).2 ((List.mem_cons.1 h).resolve_left (Ne.symm hji)) hu (fun k hk => hd k (List.mem_cons_of_mem _ hk))
      simp only [putSome, List.foldl_cons, hji, if_false] at ih ⊢
      exact ih _

theorem putSome_eval_other {ops : Array Oper} {vals : Nat → Value} {listed : Nat → Bool} {t : Tmp} : ∀ (l : List Nat) (a : Act), (∀ j ∈ l, dstOf ops j ≠ some t) → (putSome ops vals listed l a).eval (.tmp t) = a.eval (.tmp t)
  | [], a, _ => rfl
  | j :: l, a, h => by
    simp only [putSome, List.foldl_cons]
    have hl := fun a => putSome_eval_other (ops := ops) (vals := vals) (listed := listed) (t := t) l a (fun j hj => h j (List.mem_cons_of_mem _ hj))
    simp only [putSome] at hl
    rw [hl]
    split
    · exact Act.eval_put (fun d hd e => h j List.mem_cons_self (by cases e; exact hd))
    · rfl

theorem putSome_size {ops : Array Oper} {vals : Nat → Value} {listed : Nat → Bool} : ∀ (l : List Nat) (a : Act), (putSome ops vals listed l a).tmps.size = a.tmps.size
  | [], a => rfl
  | j :: l, a => by
    simp only [putSome, List.foldl_cons]
    have hl := fun a => putSome_size (ops := ops) (vals := vals) (listed := listed) l a
    simp only [putSome] at hl
    rw [hl]
    split
    · cases dstOf ops j <;> simp [Act.put]
    · rfl

theorem eval_put_same {a : Act} {d : Tmp} {v : Value} (h : d < a.tmps.size) : (a.put (some d) v).eval (.tmp d) = v := by simp [Act.eval, Act.put, h]

theorem putSome_eval {ops : Array Oper} {vals : Nat → Value} {listed : Nat → Bool} {i : Nat} {t : Tmp} : ∀ (l : List Nat) (a : Act), l.Nodup → i ∈ l → listed i = true → dstOf ops i = some t → t < a.tmps.size → (∀ j ∈ l, j ≠ i → dstOf ops j ≠ some t) → (putSome ops vals listed l a).eval (.tmp t) = vals i
  | [], a, _, h, _, _, _, _ => by cases h
  | j :: l, a, hn, h, hi, ht, hs, hd => by
    by_cases hji : j = i
    · subst hji
      have hnot : j ∉ l := (List.nodup_cons.1 hn).1
      have := putSome_eval_other (ops := ops) (vals := vals) (listed := listed) (t := t) l (a.put (dstOf ops j) (vals j)) (fun k hk => hd k (List.mem_cons_of_mem _ hk) (fun e => hnot (e ▸ hk)))
      simp only [putSome, List.foldl_cons, hi, if_true] at this ⊢
      rw [this, ht]
      exact eval_put_same hs
    · have ih := fun a hs => putSome_eval (ops := ops) (vals := vals) (listed := listed) (i := i) (t := t) l a (List.nodup_cons.1 hn).2 ((List.mem_cons.1 h).resolve_left (Ne.symm hji)) hi ht hs (fun k hk => hd k (List.mem_cons_of_mem _ hk))
      simp only [putSome, List.foldl_cons] at ih ⊢
      refine ih _ ?_
      split
      · cases dstOf ops j <;> simpa [Act.put] using hs
      · exact hs

/-- The stream and what stays, c numbers on. -/
def GenB (S k : Nat) (w0 : World) (c : Nat) (w : World) : Prop := Keeps S w0 w ∧ StreamOk w S (k + c)

/-- What is to be shown of operation i: it may look at what it waits for, and at what was there. -/
def GenStep (P : Program) (ops : Array Oper) (Q : Exit → Act → World → Prop) (a0 : Act) (S k : Nat) (w0 : World) (specs : List Spec) (total : Nat) (calls : List Nat) (i : Nat) : Prop :=
  ∀ (o : Oper) (s : Spec) (a : Act) (w : World) (c : Nat), ops[i]? = some o → specs[i]? = some s → Keeps S w0 w → StreamOk w S (k + c) → c + (if calls.contains i then 1 else 0) ≤ total →
    (∀ t, (∀ j, dstOf ops j ≠ some t) → a.eval (.tmp t) = a0.eval (.tmp t)) →
    (∀ e ∈ o.after, Region.binds .any e = true → ∀ t s', dstOf ops e.on = some t → specs[e.on]? = some s' → s'.holds S w (a.eval (.tmp t))) →
    ∀ K : Act → World → Prop, (∀ v w', s.holds S w' v → Keeps S w w' → StreamOk w' S (k + (c + if calls.contains i then 1 else 0)) → K (a.put o.dst v) w') → Oper.wp P o a w K Q

/-- The operations' temporaries are different ones and lie in the frame; the first ones have no guard and each a spec. -/
def genChk (ops : Array Oper) (size m : Nat) (calls : List Nat) : Bool :=
  ((List.range ops.size).all fun i => (List.range ops.size).all fun j => i == j || (match dstOf ops i with | none => true | some d => decide (d < size) && dstOf ops j != some d)) &&
  ((List.range m).all fun i => ((ops[i]?).map fun o => o.guard.isNone).getD false) && decide (m ≤ ops.size) && decide (1 < ops.size) && decide calls.Nodup && calls.all (fun i => decide (i < m))

theorem countP_set (calls : List Nat) (hn : calls.Nodup) (f : Nat → Bool) (i : Nat) (hu : f i = false) : calls.countP (fun j => if j = i then true else f j) = calls.countP f + if calls.contains i then 1 else 0 := by
  induction calls with
  | nil => simp
  | cons x xs ih =>
    have ih := ih (List.nodup_cons.1 hn).2
    have hx := (List.nodup_cons.1 hn).1
    by_cases hxi : x = i
    · subst hxi
      have : xs.countP (fun j => if j = x then true else f j) = xs.countP f := by
        refine List.countP_congr fun j hj => ?_
        have : j ≠ x := fun e => hx (e ▸ hj)
        simp [this]
      rw [List.countP_cons, this, List.countP_cons]
      simp [hu]
    · have hc : (x :: xs).contains i = xs.contains i := by simp [Ne.symm hxi]
      rw [hc, List.countP_cons, List.countP_cons, ih]
      simp [hxi]
      omega

theorem gen_any {m : Nat} {a0 : Act} {S k : Nat} {w0 : World} {specs : List Spec} {calls : List Nat} (hc : genChk ops a0.tmps.size m calls = true) (hlen : specs.length = m)
    (hstep : ∀ i, i < m → GenStep P (ops.extract 0 m) Q a0 S k w0 specs calls.length calls i)
    (hend : ∀ (vals : Nat → Value) (w : World), Keeps S w0 w → StreamOk w S (k + calls.length) → (∀ (i : Nat) (s : Spec), specs[i]? = some s → s.holds S w (vals i)) → Q .normal (putSome (ops.extract 0 m) vals (fun _ => true) (List.range m) a0) w) :
    ∀ (fuel : Nat) (l : Array Bool) (vals : Nat → Value) (w : World), l.size = m → Keeps S w0 w → StreamOk w S (k + calls.countP (fun i => l.getD i true)) → (∀ (i : Nat) (s : Spec), l.getD i true = true → specs[i]? = some s → s.holds S w (vals i)) → (l.toList.countP (fun b => !b) ≤ fuel) →
      (∀ i, i < m → ∃ o, (ops.extract 0 m)[i]? = some o ∧ ∀ e ∈ o.after, Region.binds .any e = true → e.on < i) →
      wpAny P .any (ops.extract 0 m) Q fuel l (putSome (ops.extract 0 m) vals (fun i => l.getD i true) (List.range m) a0) w := by
  simp only [genChk, Bool.and_eq_true, List.all_eq_true, List.mem_range, decide_eq_true_eq, Bool.or_eq_true, beq_iff_eq] at hc
  obtain ⟨⟨⟨⟨⟨hdst, hgd⟩, hmn⟩, h1n⟩, hnd⟩, hcm⟩ := hc
  have dsub : ∀ i t, dstOf (ops.extract 0 m) i = some t → dstOf ops i = some t ∧ i < m := by
    intro i t h
    unfold dstOf at *
    by_cases hi : i < m
    · rw [ext_get _ _ _ hi] at h
      exact ⟨h, hi⟩
    · rw [ext_get_no _ _ _ hi] at h; cases h
  have dne : ∀ i j, i ≠ j → ∀ t, dstOf (ops.extract 0 m) j = some t → dstOf (ops.extract 0 m) i ≠ some t := by
    intro i j hij t hj hi
    obtain ⟨hi1, hi2⟩ := dsub i t hi
    obtain ⟨hj1, hj2⟩ := dsub j t hj
    have := (hdst i (by omega) j (by omega)).resolve_left hij
    simp [hi1, hj1] at this
  have dlt : ∀ i t, dstOf (ops.extract 0 m) i = some t → t < a0.tmps.size := by
    intro i t hi
    obtain ⟨hi1, hi2⟩ := dsub i t hi
    have hj : ∃ j, j < ops.size ∧ i ≠ j := if h : i = 0 then ⟨1, by omega, by omega⟩ else ⟨0, by omega, h⟩
    obtain ⟨j, hj, hij⟩ := hj
    have := (hdst i (by omega) j hj).resolve_left hij
    simp [hi1] at this
    exact this.1
  have getl : ∀ (l : Array Bool) i, i < l.size → l.getD i true = true → l.getD i false = true := fun l i hi h => by rw [getD_two hi false true]; exact h
  intro fuel
  induction fuel with
  | zero =>
    intro l vals w hl hk hst hs hf hdown
    have hall : ∀ i, i < m → l.getD i true = true := by
      intro i hi
      rcases Bool.eq_false_or_eq_true (l.getD i true) with h | h
      · exact h
      · exfalso
        have : 0 < l.toList.countP (fun b => !b) := List.countP_pos_iff.2 ⟨false, by
          have hlt : i < l.size := by omega
          have : l[i] = false := by simpa [hlt] using h
          rw [← this]; simp, rfl⟩
        omega
    refine ⟨?_, ?_⟩
    · refine List.eq_nil_iff_forall_not_mem.2 fun i hi => ?_
      obtain ⟨h0, o, ho, _⟩ := mem_ready.1 hi
      have hlt : i < m := by have := (Array.getElem?_eq_some_iff.1 ho).1; simp at this; omega
      rw [hall i hlt] at h0; cases h0
    · have e1 : putSome (ops.extract 0 m) vals (fun i => l.getD i true) (List.range m) a0 = putSome (ops.extract 0 m) vals (fun _ => true) (List.range m) a0 := putSome_congr _ _ (fun i hi => ⟨hall i (List.mem_range.1 hi), fun _ => rfl⟩)
      rw [e1]
      refine hend vals w hk ?_ (fun i s h => hs i s (by
        by_cases hi : i < m
        · exact hall i hi
        · simp [show ¬ i < l.size by omega]) h)
      have : calls.countP (fun i => l.getD i true) = calls.length := List.countP_eq_length.2 (fun i hi => hall i (by simpa using hcm i hi))
      rw [this] at hst; exact hst
  | succ fuel ih =>
    intro l vals w hl hk hst hs hf hdown
    have dn := listed_of_none (ops := ops.extract 0 m) (m := m)
    refine ⟨fun h0 => ?_, fun i hi => ?_⟩
    · have hall : ∀ i, i < m → l.getD i true = true := by
        intro i
        induction i using Nat.strongRecOn with
        | _ i ihi =>
          intro hi
          rcases Bool.eq_false_or_eq_true (l.getD i true) with h | h
          · exact h
          · exfalso
            obtain ⟨o, ho, hd⟩ := hdown i hi
            have : i ∈ Region.ready .any (ops.extract 0 m) l := mem_ready.2 ⟨h, o, ho, fun e he hb => getl l _ (by have := hd e he hb; omega) (ihi e.on (hd e he hb) (by have := hd e he hb; omega))⟩
            rw [h0] at this; cases this
      have e1 : putSome (ops.extract 0 m) vals (fun i => l.getD i true) (List.range m) a0 = putSome (ops.extract 0 m) vals (fun _ => true) (List.range m) a0 := putSome_congr _ _ (fun i hi => ⟨hall i (List.mem_range.1 hi), fun _ => rfl⟩)
      rw [e1]
      refine hend vals w hk ?_ (fun i s h => hs i s (by
        by_cases hi : i < m
        · exact hall i hi
        · simp [show ¬ i < l.size by omega]) h)
      have : calls.countP (fun i => l.getD i true) = calls.length := List.countP_eq_length.2 (fun i hi => hall i (by simpa using hcm i hi))
      rw [this] at hst; exact hst
    · obtain ⟨hun, o, ho, hall⟩ := mem_ready.1 hi
      have him : i < m := by have := (Array.getElem?_eq_some_iff.1 ho).1; simp at this; omega
      have hilt : i < l.size := by omega
      obtain ⟨s, hsi⟩ : ∃ s, specs[i]? = some s := ⟨specs[i]'(by omega), by simp⟩
      have hguard : o.guard = none := by
        have hx := hgd i him
        have : ops[i]? = some o := by rw [ext_get _ _ _ him] at ho; exact ho
        simpa [this] using hx
      have hdo : dstOf (ops.extract 0 m) i = o.dst := by simp [dstOf, ho]
      unfold wpOp
      simp only [ho]
      rw [if_pos (by simp [Region.wanted, hguard])]
      refine Or.inl ?_
      have hcnt := countP_set calls hnd (fun j => l.getD j true) i hun
      refine hstep i him o s _ w (calls.countP fun j => l.getD j true) ho hsi hk hst ?_ ?_ ?_ _ ?_
      · rw [← hcnt]; exact List.countP_le_length
      · intro t ht
        exact putSome_eval_other _ _ (fun j _ => ht j)
      · intro e he hb t s' ht hs'
        have hon := hall e he hb
        have hlt : e.on < m := (dsub e.on t ht).2
        have hon' : l.getD e.on true = true := by rw [getD_two (by omega) true false]; exact hon
        rw [putSome_eval (i := e.on) _ _ List.nodup_range (List.mem_range.2 hlt) hon' ht (dlt _ _ ht) (fun j _ hj => fun h2 => dne e.on j (Ne.symm hj) t h2 ht)]
        exact hs e.on s' hon' hs'
      · intro v w' hv hkw hst'
        have e2 := putSome_set (ops := ops.extract 0 m) (vals := vals) (listed := fun j => l.getD j true) (i := i) v (List.range m) a0 List.nodup_range (List.mem_range.2 him) hun (fun j _ hj t ht => dne i j (Ne.symm hj) t ht)
        have e3 : (fun j => if j = i then true else l.getD j true) = fun j => (l.setIfInBounds i true).getD j true := by
          funext j
          by_cases hji : j = i
          · subst hji; simp [hilt]
          · simp only [hji, if_false]; rw [getD_set_ne true (Ne.symm hji)]
        rw [← hdo, ← e2, e3]
        refine ih _ _ w' (by simpa using hl) (hk.trans hkw) ?_ ?_ ?_ hdown
        · rw [← e3, hcnt]; exact hst'
        · intro j s' hj hs'
          by_cases hji : j = i
          · subst hji
            rw [hsi] at hs'; cases hs'
            simp only [if_true]; exact hv
          · simp only [hji, if_false]
            rw [getD_set_ne true (Ne.symm hji)] at hj
            exact (hs j s' hj hs').keeps hkw
        · have : (l.setIfInBounds i true).toList.countP (fun b => !b) + 1 = l.toList.countP (fun b => !b) := by
            have hli : l[i] = false := by simpa [hilt] using hun
            have hpos : 0 < l.toList.countP (fun b => !b) := List.countP_pos_iff.2 ⟨false, by rw [← hli]; simp, rfl⟩
            have := List.countP_set (p := fun b : Bool => !b) (l := l.toList) (i := i) (a := true) (by simpa using hilt)
            have e4 : l.toList[i]'(by simpa using hilt) = false := by simpa using hli
            rw [Array.toList_setIfInBounds, this, e4]
            rw [if_pos (by decide : (!false) = true), if_neg (by decide : ¬ (!true) = true)]
            omega
          omega

/-! ### The whole -/

/-- What is to be shown of an operation: it may look at what it waits for, and at what was there. -/
def GenOp (P : Program) (ops : Array Oper) (Q : Exit → Act → World → Prop) (a0 : Act) (S k : Nat) (w0 : World) (specs : List Spec) (calls : List Nat) (i : Nat) (o : Oper) (s : Spec) : Prop :=
  ∀ (a : Act) (w : World) (c : Nat), Keeps S w0 w → StreamOk w S (k + c) → c + (if calls.contains i then 1 else 0) ≤ calls.length →
    (∀ t, ((ops.extract 0 specs.length).all fun o => o.dst != some t) = true → a.eval (.tmp t) = a0.eval (.tmp t)) →
    (∀ (j : Nat) (t : Tmp) (s' : Spec), (o.after.any fun e => Region.binds .any e && e.on == j) = true → dstOf ops j = some t → specs[j]? = some s' → s'.holds S w (a.eval (.tmp t))) →
    ∀ K : Act → World → Prop, (∀ v w', s.holds S w' v → Keeps S w w' → StreamOk w' S (k + (c + if calls.contains i then 1 else 0)) → K (a.put o.dst v) w') → Oper.wp P o a w K (tailQ P ops Q specs.length)

def GenOps (P : Program) (ops : Array Oper) (Q : Exit → Act → World → Prop) (a0 : Act) (S k : Nat) (w0 : World) (specs : List Spec) (calls : List Nat) : Nat → List Oper → List Spec → Prop
  | i, o :: os, s :: ss => GenOp P ops Q a0 S k w0 specs calls i o s ∧ GenOps P ops Q a0 S k w0 specs calls (i + 1) os ss
  | _, _, _ => True

/-- For all values that the specs allow, put into the frame. -/
def ForVals (S : Nat) (w : World) (K : Act → Prop) : List (Option Tmp) → List Spec → Act → Prop
  | d :: ds, s :: ss, a => ∀ v, s.holds S w v → ForVals S w K ds ss (a.put d v)
  | _, _, a => K a

def downChk (ops : Array Oper) (m : Nat) : Bool := (List.range m).all fun i => ((ops[i]?).map fun o => o.after.all fun e => !Region.binds .any e || decide (e.on < i)).getD false

theorem genOps_at {a0 : Act} {S k : Nat} {w0 : World} {specs : List Spec} {calls : List Nat} : ∀ (i : Nat) (os : List Oper) (ss : List Spec), GenOps P ops Q a0 S k w0 specs calls i os ss → ∀ (j : Nat) (o : Oper) (s : Spec), os[j]? = some o → ss[j]? = some s → GenOp P ops Q a0 S k w0 specs calls (i + j) o s
  | i, o :: os, s :: ss, h, 0, _, _, ho, hs => by simp at ho hs; subst ho; subst hs; exact h.1
  | i, o :: os, s :: ss, h, j + 1, o', s', ho, hs => by
    have := genOps_at (i + 1) os ss h.2 j o' s' (by simpa using ho) (by simpa using hs)
    rw [show i + (j + 1) = i + 1 + j by omega]; exact this
  | i, [], _, _, j, _, _, ho, _ => by simp at ho
  | i, _ :: _, [], _, j, _, _, _, hs => by simp at hs

theorem forVals_all {S : Nat} {w : World} {K : Act → Prop} {vals : Nat → Value} {ops : Array Oper} : ∀ (ss : List Spec) (i : Nat) (a : Act), ForVals S w K ((List.range' i ss.length).map (dstOf ops)) ss a → (∀ (j : Nat) (s : Spec), ss[j]? = some s → s.holds S w (vals (i + j))) → K (putSome ops vals (fun _ => true) (List.range' i ss.length) a)
  | [], i, a, h, _ => h
  | s :: ss, i, a, h, hs => by
    have h1 : ForVals S w K ((List.range' (i + 1) ss.length).map (dstOf ops)) ss (a.put (dstOf ops i) (vals i)) := h (vals i) (hs 0 s rfl)
    have := forVals_all ss (i + 1) _ h1 (fun j s' hj => by have := hs (j + 1) s' (by simpa using hj); rwa [show i + (j + 1) = i + 1 + j by omega] at this)
    exact this

/-- **A region that draws its order, in which a stream hands out numbers**: shown for all orders at once; what comes behind the first operations goes in the text's order. -/
theorem region_gen {L : List Oper} {id : Nat} {a0 : Act} {w : World} (S k m : Nat) (specs : List Spec) (calls : List Nat) (ds : List (Option Tmp)) (hm : P.follows .mixedOrders = true) (hc : genChk L.toArray a0.tmps.size m calls = true) (ht : tailChk L.toArray m = true) (hd : downChk L.toArray m = true) (hlen : specs.length = m)
    (hds : (List.range m).map (dstOf L.toArray) = ds) (h0 : StreamOk w S k)
    (hstep : GenOps P L.toArray Q a0 S k w.drew specs calls 0 (L.take m) specs)
    (hend : ∀ w', Keeps S w.drew w' → StreamOk w' S (k + calls.length) → ForVals S w' (fun a => wpList P L.toArray Q (L.drop m) a w') ds specs a0) : (Code.region id L.toArray true).wp P Q a0 w := by
  subst hlen
  have hc0 := hc
  simp only [genChk, Bool.and_eq_true, List.all_eq_true, List.mem_range, decide_eq_true_eq] at hc0
  obtain ⟨⟨⟨⟨⟨_, hgd⟩, hmn⟩, h1n⟩, hnd⟩, hcm⟩ := hc0
  have hmn' : specs.length ≤ L.length := by simpa using hmn
  have hdown : ∀ i, i < specs.length → ∃ o, (L.toArray.extract 0 specs.length)[i]? = some o ∧ ∀ e ∈ o.after, Region.binds .any e = true → e.on < i := by
    intro i hi
    have h := List.all_eq_true.1 hd i (List.mem_range.2 hi)
    rw [ext_get _ _ _ hi]
    cases ho : L.toArray[i]? with
    | none => rw [ho] at h; cases h
    | some o =>
      rw [ho] at h
      simp only [Option.map_some, Option.getD_some] at h
      refine ⟨o, rfl, fun e he hb => ?_⟩
      have h1 := Array.all_eq_true_iff_forall_mem.1 h e he
      simpa [hb] using h1
  have tailNone : ∀ (k' : Nat) (o : Oper), specs.length ≤ k' → L.toArray[k']? = some o → o.guard = none := by
    intro k' o hk' ho
    have hlt := (Array.getElem?_eq_some_iff.1 ho).1
    have h := List.all_eq_true.1 ht k' (List.mem_range.2 hlt)
    simp only [Bool.or_eq_true, decide_eq_true_eq, Bool.and_eq_true] at h
    have h2 := (h.resolve_left (by omega)).2
    rw [ho] at h2
    simpa using h2
  have toTail : ∀ (l : List Oper), (∀ o ∈ l, o.guard = none) → ∀ a w, wpList P L.toArray Q l a w → tailQ.wpTail P Q l a w := by
    intro l
    induction l with
    | nil => intro _ a w h; exact h
    | cons o l ih =>
      intro hg a w h
      unfold wpList at h
      rw [if_pos (by simp [Region.wanted, hg o List.mem_cons_self])] at h
      exact h.imp (Oper.wp_mono (fun a w h => ih (fun o ho => hg o (List.mem_cons_of_mem _ ho)) a w h)) (fun h => h)
  refine wp_region_any hm ?_
  refine tail_any specs.length ht (L.length - specs.length) specs.length (by simp; omega) (Nat.le_refl _) a0 _ ?_
  have dEq : ∀ j, j < specs.length → dstOf (L.toArray.extract 0 specs.length) j = dstOf L.toArray j := fun j hj => by unfold dstOf; rw [ext_get _ _ _ hj]
  have dLt : ∀ j t, dstOf (L.toArray.extract 0 specs.length) j = some t → j < specs.length := fun j t h => by
    rcases Nat.lt_or_ge j specs.length with h' | h'
    · exact h'
    · unfold dstOf at h; rw [ext_get_no _ _ _ (by omega)] at h; cases h
  have g := gen_any (P := P) (ops := L.toArray) (Q := tailQ P L.toArray Q specs.length) (m := specs.length) (a0 := a0) (S := S) (k := k) (w0 := w.drew) (specs := specs) (calls := calls) hc rfl ?_ ?_ specs.length (Array.replicate specs.length false) (fun _ => undef) w.drew (by simp) (Keeps.refl _ _) ?_ ?_ ?_ hdown
  · have e0 : putSome (L.toArray.extract 0 specs.length) (fun _ => undef) (fun i => (Array.replicate specs.length false).getD i true) (List.range specs.length) a0 = a0 := by
      have : ∀ (l : List Nat), (∀ i ∈ l, i < specs.length) → ∀ a, putSome (L.toArray.extract 0 specs.length) (fun _ => undef) (fun i => (Array.replicate specs.length false).getD i true) l a = a := by
        intro l
        induction l with
        | nil => intro _ a; rfl
        | cons j l ih =>
          intro hl a
          have hj := hl j List.mem_cons_self
          have ih' := ih (fun i hi => hl i (List.mem_cons_of_mem _ hi))
          simp only [putSome, List.foldl_cons] at ih' ⊢
          rw [show (Array.replicate specs.length false).getD j true = false by simp [hj]]
          exact ih' a
      exact this _ (fun i hi => List.mem_range.1 hi) a0
    rw [e0] at g
    exact g
  · intro i hi o s a w' c ho hs hk hst hcc hfr hdp K hK
    have hoL : L[i]? = some o := by rw [ext_get _ _ _ hi] at ho; simpa using ho
    have st := genOps_at 0 _ _ hstep i o s (by rw [List.getElem?_take_of_lt hi]; exact hoL) hs
    rw [Nat.zero_add] at st
    refine st a w' c hk hst hcc (fun t ht => hfr t (fun j hj => ?_)) (fun j t s' hj ht hs' => ?_) K hK
    · unfold dstOf at hj
      cases hoj : (L.toArray.extract 0 specs.length)[j]? with
      | none => rw [hoj] at hj; cases hj
      | some oj =>
        rw [hoj] at hj
        have := Array.all_eq_true_iff_forall_mem.1 ht oj (Array.mem_of_getElem? hoj)
        simp at this hj
        exact this hj
    · obtain ⟨e, he, hb⟩ := Array.any_eq_true'.1 hj
      simp only [Bool.and_eq_true, beq_iff_eq] at hb
      obtain ⟨hb, rfl⟩ := hb
      have hlt : e.on < specs.length := (List.getElem?_eq_some_iff.1 hs').1
      exact hdp e he hb t s' (by rw [dEq _ hlt]; exact ht) hs'
  · intro vals w' hk hst hs
    have h := hend w' hk hst
    subst hds
    have e1 : putSome (L.toArray.extract 0 specs.length) vals (fun _ => true) (List.range specs.length) a0 = putSome L.toArray vals (fun _ => true) (List.range specs.length) a0 := by
      have : ∀ (l : List Nat), (∀ i ∈ l, i < specs.length) → ∀ a, putSome (L.toArray.extract 0 specs.length) vals (fun _ => true) l a = putSome L.toArray vals (fun _ => true) l a := by
        intro l
        induction l with
        | nil => intro _ a; rfl
        | cons j l ih =>
          intro hl a
          have ih' := ih (fun i hi => hl i (List.mem_cons_of_mem _ hi))
          simp only [putSome, List.foldl_cons] at ih' ⊢
          rw [dEq j (hl j List.mem_cons_self)]
          exact ih' _
      exact this _ (fun i hi => List.mem_range.1 hi) a0
    rw [e1]
    have h2 := forVals_all (S := S) (w := w') (vals := vals) (ops := L.toArray) (K := fun a => wpList P L.toArray Q (L.drop specs.length) a w') specs 0 a0 (by rw [← List.range_eq_range']; exact h) (fun j s hj => by rw [Nat.zero_add]; exact hs j s hj)
    rw [← List.range_eq_range'] at h2
    refine toTail _ (fun o ho => ?_) _ _ h2
    obtain ⟨j, hj⟩ := List.getElem?_of_mem ho
    rw [List.getElem?_drop] at hj
    exact tailNone _ o (Nat.le_add_right _ _) (by simpa using hj)
  · have : calls.countP (fun i => (Array.replicate specs.length false).getD i true) = 0 := List.countP_eq_zero.2 (fun i hi => by
      have := hcm i hi
      simp [this])
    rw [this]
    exact h0
  · intro i s h hs
    have hlt := (List.getElem?_eq_some_iff.1 hs).1
    simp [hlt] at h
  · exact Nat.le_trans List.countP_le_length (by simp)

theorem Keeps.grown0 {S : Nat} {a w w' : World} {row : Option Nat} (h : Keeps S a w) (hg : w.grownBy w' row) (hr : ∀ b, row = some b → a.heap.size ≤ b) : Keeps S a w' :=
  ⟨hg.os.trans h.os, hg.tape.trans h.tape, hg.output.trans h.output, Nat.le_trans h.size hg.size, fun k hk hn => (hg.block k (Nat.lt_of_lt_of_le hk h.size) (fun e => by have := hr k e.symm; omega)).trans (h.block k hk hn)⟩
theorem own_slice {w : World} {base : Nat} {e : TypeId} {size : Nat} {v : Value} {n : Nat} {xs : List Value} (h : w.ownsRow base e size v n xs) : ∃ a c, v = .slice a n c := by
  rcases h.2 with ⟨rfl, rfl⟩ | ⟨g, cap, cur, rfl, _⟩
  · exact ⟨none, 0, rfl⟩
  · exact ⟨_, _, rfl⟩
theorem addr_add0 (b j : Nat) : (⟨b, 0, none⟩ : Addr).add j = ⟨b, j, none⟩ := by unfold Addr.add; split <;> simp_all

/-! ### One operation -/
/-- A new block with such cells. -/
theorem gen_alloc {o : Oper} {a : Act} {w : World} {K : Act → World → Prop} {S k n : Nat} {p : List Value → Prop} (cs : Array Value) (ty : TypeId) (h : (execOp a.eval o).run P w = .ok (.value (.slice (some ⟨w.heap.size, 0, none⟩) n n)) (w.alloc (.cells cs ty))) (hp : p cs.toList) (hst : StreamOk w S k)
    (hK : ∀ v w', (Spec.arr n p).holds S w' v → Keeps S w w' → StreamOk w' S k → K (a.put o.dst v) w') : Oper.wp P o a w K Q := by
  unfold Oper.wp; rw [h]
  refine hK _ _ ⟨w.heap.size, cs.toList, rfl, hp, ?_, by simp, fun j u hj => ?_⟩ ((Keeps.refl S w).alloc _) (hst.below (ext_alloc (Below.refl _ _)))
  · have := hst.lt; omega
  · simpa using hj
/-- A call of a Go function, whose arguments are known. -/
theorem gen_call {o : Oper} {a : Act} {w : World} {K : Act → World → Prop} {R : Ending → World → Prop} (f : Nat) (vs : Array Value) (h : (execOp a.eval o).run P w = .ok (.enter f vs) w) (hc : Calls P f vs w R) (hR : ∀ e w', R e w' → ∃ v, e = .returned v ∧ K (a.put o.dst v) w') : Oper.wp P o a w K Q := by
  unfold Oper.wp; rw [h]
  refine Calls.mono hc fun e w' he => ?_
  obtain ⟨v, rfl, hk⟩ := hR e w' he
  exact hk
theorem gen_pure {o : Oper} {a : Act} {w : World} {K : Act → World → Prop} {v : Value} (h : (execOp a.eval o).run P w = .ok (.value v) w) (hK : K (a.put o.dst v) w) : Oper.wp P o a w K Q := by
  unfold Oper.wp; rw [h]; exact hK
end
end Go.Proofs.YtleagenhnchjdaaGreatDoor
