/- What is proved here: lemmas and contracts for the statement, put together out of smaller texts (ActLaw, GrownW, OrN, OrI, R2Small, PortSmall, CmpStr, ActCmp, InsMem, ActSort, ActSrc, ActSml). No condition beyond those stated. -/
import Derived.Test.YtamoclofloijpaaGreatDoorAbPkC
import Derived.Test.YtamoclofloijpaaGreatDoorAbPkB
import Derived.Test.YtamoclofloijpaaGreatDoorAbPkA
import Derived.Test.YtamoclofloijpaaGreatDoorShelfPort
import Derived.IntWalk
import Derived.Test.YtamoclofloijpaaGreatDoorShelfAct
import Derived.Sort.LotA
import Derived.Lib.SliceRun
import Derived.Laws.StructEq
set_option linter.unusedVariables false
set_option linter.unusedSimpArgs false
namespace Go.Proofs.YtamoclofloijpaaGreatDoor
open Go.RowKit Go.Sort Go.Lib

/-- What the maker's acts are bound to. -/
structure ActB (a : Vact) : Prop where
  at0 : -4398046511104 ≤ a.at_
  at1 : a.at_ ≤ 4398046511104
  kind0 : -4398046511104 ≤ a.kind
  kind1 : a.kind ≤ 4398046511104
  long0 : -4398046511104 ≤ a.long
  long1 : a.long ≤ 4398046511104
  box : a.box.length ≤ 2
  id : a.id.length ≤ 2
  frm : a.frm.length ≤ 8
/-- From whom a message is: nobody, or + with digits. -/
def fromB (s : List UInt8) : Bool := decide (s = []) || (Lib.hasPrefix s [43] && (decide (4 ≤ (Lib.trimPrefix s [43]).length) && (decide ((Lib.trimPrefix s [43]).length ≤ 15) && allIn (Lib.trimPrefix s [43]) [48, 49, 50, 51, 52, 53, 54, 55, 56, 57])))
structure ActGood (a : Vact) : Prop where
  mom : isMomB a.at_ = true
  box : isKeyB a.box = true
  id : isKeyB a.id = true
  kind0 : 1 ≤ a.kind
  kind1 : a.kind ≤ 5
  left : a.kind = 1 → 1 ≤ a.long ∧ a.long ≤ 86400000 ∧ fromB a.frm = true
  other : a.kind ≠ 1 → a.long = 0 ∧ a.frm = []
structure ActsOk (l : List Vact) : Prop where
  good : ∀ a ∈ l, ActGood a
  asc : Asc l
theorem ActsOk.sub {l m : List Vact} (h : ActsOk l) (hs : m.Sublist l) : ActsOk m := ⟨fun a ha => h.good a (hs.subset ha), h.asc.sublist hs⟩
theorem ActsOk.nil : ActsOk [] := ⟨fun a h => (by cases h), List.Pairwise.nil⟩
theorem getD_mem {α : Type} [Inhabited α] {l : List α} {i : Nat} (h : i < l.length) : l.getD i default ∈ l := by
  rw [List.getD_eq_getElem?_getD, List.getElem?_eq_getElem h]
  exact List.getElem_mem h
theorem ActsOk.of_steps {l : List Vact} (h1 : ∀ i, i < l.length → ActGood (l.getD i default)) (h2 : ∀ i, i + 1 < l.length → (l.getD i default).lt (l.getD (i + 1) default)) : ActsOk l := by
  refine ⟨fun a ha => ?_, ?_⟩
  · obtain ⟨i, hi, rfl⟩ := List.getElem_of_mem ha
    have := h1 i hi
    rw [List.getD_eq_getElem?_getD, List.getElem?_eq_getElem hi] at this
    exact this
  · have key : ∀ d i, i + d + 1 < l.length → (l.getD i default).lt (l.getD (i + d + 1) default) := by
      intro d
      induction d with
      | zero => exact fun i hi => h2 i hi
      | succ d ih => exact fun i hi => (ih i (by omega)).tr (h2 (i + d + 1) (by omega))
    unfold Asc
    rw [List.pairwise_iff_getElem]
    intro i j hi hj hij
    have := key (j - i - 1) i (by omega)
    rw [show i + (j - i - 1) + 1 = j by omega, List.getD_eq_getElem?_getD, List.getElem?_eq_getElem hi, List.getD_eq_getElem?_getD, List.getElem?_eq_getElem hj] at this
    exact this
theorem Asc.at_ {l : List Vact} (h : Asc l) {i j : Nat} (hij : i < j) (hj : j < l.length) : (l.getD i default).lt (l.getD j default) := by
  rw [List.getD_eq_getElem?_getD, List.getElem?_eq_getElem (by omega), List.getD_eq_getElem?_getD, List.getElem?_eq_getElem hj]
  exact List.pairwise_iff_getElem.1 h i j (by omega) hj hij
/-- The condition of a binary search. -/
theorem Asc.search {l : List Vact} (h : Asc l) (y : Vact) : ∀ m1 m2, m1 < m2 → m2 < l.length → actCmp (l.getD m2 default) y ≤ 0 → actCmp (l.getD m1 default) y < 0 := fun m1 m2 h1 h2 hc => by
  rw [actCmp_neg]
  have hl := h.at_ h1 h2
  rcases Int.lt_or_eq_of_le hc with hc | hc
  · rw [actCmp_neg] at hc; exact hl.tr hc
  · rw [actCmp_zero] at hc
    obtain ⟨e0, e1, e2, e3⟩ := hc
    unfold Vact.lt at hl ⊢
    rw [← e0, ← e1, ← e2, ← e3]; exact hl
/-- Those of q that p has not, behind p. -/
def joinA (p q : List Vact) : List Vact := p ++ q.filter (fun a => decide (a ∉ p))
theorem joinA_nil (p : List Vact) : joinA p [] = p := by simp [joinA]
theorem joinA_step (p q : List Vact) (j : Nat) (hj : j < q.length) : joinA p (q.take (j + 1)) = if q.getD j default ∈ p then joinA p (q.take j) else joinA p (q.take j) ++ [q.getD j default] := by
  unfold joinA
  rw [List.take_add_one, List.getElem?_eq_getElem hj, List.getD_eq_getElem?_getD, List.getElem?_eq_getElem hj, List.filter_append]
  simp only [Option.toList_some, Option.getD_some, List.filter_cons, List.filter_nil]
  by_cases h : q[j] ∈ p
  · rw [if_pos h, if_neg (by simp [h])]; simp
  · rw [if_neg h, if_pos (by simp [h])]; simp [List.append_assoc]
theorem joinA_sorted {x p q : List Vact} (hx : Asc x) (hp : p.Sublist x) (hq : q.Sublist x) (hm : ∀ a ∈ x, a ∈ p ∨ a ∈ q) : insL (ltOf actCmp) (joinA p q) = x := by
  refine insA_asc hx ?_ (fun a => ?_)
  · unfold joinA
    rw [List.nodup_append]
    refine ⟨Asc.nodup (hx.sublist hp), (Asc.nodup (hx.sublist hq)).sublist List.filter_sublist, fun a ha b hb e => ?_⟩
    rw [List.mem_filter, decide_eq_true_eq] at hb
    exact hb.2 (e ▸ ha)
  · unfold joinA
    rw [List.mem_append, List.mem_filter, decide_eq_true_eq]
    constructor
    · rintro (h | ⟨h, -⟩)
      · exact hp.subset h
      · exact hq.subset h
    · intro h
      by_cases h1 : a ∈ p
      · exact Or.inl h1
      · exact Or.inr ⟨(hm a h).resolve_left h1, h1⟩
theorem joinA_len {x p q : List Vact} (hx : Asc x) (hp : p.Sublist x) (hq : q.Sublist x) (hm : ∀ a ∈ x, a ∈ p ∨ a ∈ q) (j : Nat) : (joinA p (q.take j)).length ≤ x.length := by
  have h1 : (joinA p q).length = x.length := by rw [← joinA_sorted hx hp hq hm, insL_len]
  have h2 : (joinA p (q.take j)).length ≤ (joinA p q).length := by
    unfold joinA
    rw [List.length_append, List.length_append]
    have := ((List.take_sublist j q).filter (fun a => decide (a ∉ p))).length_le
    omega
  omega
/-- Where the same key stands in p, the act itself stands there. -/
theorem same_in {x p : List Vact} (hx : Asc x) (hp : p.Sublist x) {y : Vact} (hy : y ∈ x) {i : Nat} (hi : i < p.length) (hc : actCmp (p.getD i default) y = 0) : p.getD i default = y :=
  hx.key (hp.subset (getD_mem hi)) hy ((actCmp_zero _ _).1 hc)
theorem not_in {p : List Vact} {y : Vact} (h : ∀ m, m < p.length → actCmp (p.getD m default) y ≠ 0) : y ∉ p := fun hy => by
  obtain ⟨i, hi, rfl⟩ := List.getElem_of_mem hy
  refine h i hi ?_
  rw [List.getD_eq_getElem?_getD, List.getElem?_eq_getElem hi, actCmp_zero]
  exact ⟨rfl, rfl, rfl, rfl⟩
/-- The words of an act. -/
def kindW (k : Int) : List UInt8 := if k = 1 then [108, 101, 102, 116] else if k = 2 then [104, 101, 97, 114, 100] else if k = 3 then [107, 101, 112, 116] else if k = 4 then [100, 101, 108, 101, 116, 101, 100] else [98, 97, 99, 107]
def frmW (s : List UInt8) : List UInt8 := if s = [] then [45] else s
def actW (a : Vact) : List (List UInt8) := [Lib.itoa a.at_, a.box, a.id, kindW a.kind] ++ if a.kind = 1 then [Lib.itoa a.long, frmW a.frm] else []
def actT (a : Vact) : List UInt8 := spaced (actW a) ++ [10]
def actsT (l : List Vact) : List UInt8 := (l.map actT).flatten
end Go.Proofs.YtamoclofloijpaaGreatDoor

set_option linter.unusedVariables false
set_option linter.unusedSimpArgs false
namespace Go.Proofs.YtamoclofloijpaaGreatDoor
open Go.RowKit Go.Sort

def Grown (w w' : World) : Prop := ∃ q os, w' = grow (w.drewN q) os
theorem Grown.refl (w : World) : Grown w w := ⟨0, #[], by rw [grow_empty]; rfl⟩
theorem Grown.alloc {w a : World} (h : Grown w a) (o : Obj) : Grown w (a.alloc o) := by
  obtain ⟨q, os, rfl⟩ := h
  exact ⟨q, os ++ #[o], by rw [alloc_eq_grow, grow_grow]⟩
theorem Grown.drewN {w a : World} (h : Grown w a) (n : Nat) : Grown w (a.drewN n) := by
  obtain ⟨q, os, rfl⟩ := h
  refine ⟨q + n, os, ?_⟩
  rw [← World.drewN_drewN]
  rfl
theorem Grown.drew {w a : World} (h : Grown w a) : Grown w a.drew := h.drewN 1
theorem Grown.trans {w a b : World} (h : Grown w a) (k : Grown a b) : Grown w b := by
  obtain ⟨q, os, rfl⟩ := k
  obtain ⟨q2, os2, e⟩ := h.drewN q
  rw [e]
  exact ⟨q2, os2 ++ os, by rw [grow_grow]⟩
theorem Grown.below {w a : World} (h : Grown w a) : Below w.heap.size w a := by
  obtain ⟨q, os, rfl⟩ := h
  exact below_grow _ _ _
/-- What a comparing function answers, with new blocks alone. -/
def CmpP (r : Int) (w : World) (e : Ending) (w' : World) : Prop := e = .returned (.int .i64 r) ∧ ∃ q os', w' = grow (w.drewN q) os'
theorem bs_4i (e : Operand → Value) (o : Oper) (w : World) (i0 i1 i2 i3 : Nat) (z0 z1 z2 z3 : Int) (ho : o.op = .buildSlice 22 4 #[(0, .tmp i0), (1, .tmp i1), (2, .tmp i2), (3, .tmp i3)]) (h0 : e (.tmp i0) = .int .i64 z0) (h1 : e (.tmp i1) = .int .i64 z1) (h2 : e (.tmp i2) = .int .i64 z2) (h3 : e (.tmp i3) = .int .i64 z3) :
   (execOp e o).run Tryz.prog w = .ok (.value (.slice (some ⟨w.heap.size, 0, none⟩) 4 4)) (w.alloc (.cells #[.int .i64 z0, .int .i64 z1, .int .i64 z2, .int .i64 z3] 3)) := by
  unfold execOp
  rw [ho]
  simp only [List.map_toArray, List.map_cons, List.map_nil, h0, h1, h2, h3]
  kernel_rfl
theorem bs_3i (e : Operand → Value) (o : Oper) (w : World) (i0 i1 i2 : Nat) (z0 z1 z2 : Int) (ho : o.op = .buildSlice 22 3 #[(0, .tmp i0), (1, .tmp i1), (2, .tmp i2)]) (h0 : e (.tmp i0) = .int .i64 z0) (h1 : e (.tmp i1) = .int .i64 z1) (h2 : e (.tmp i2) = .int .i64 z2) :
   (execOp e o).run Tryz.prog w = .ok (.value (.slice (some ⟨w.heap.size, 0, none⟩) 3 3)) (w.alloc (.cells #[.int .i64 z0, .int .i64 z1, .int .i64 z2] 3)) := by
  unfold execOp
  rw [ho]
  simp only [List.map_toArray, List.map_cons, List.map_nil, h0, h1, h2]
  kernel_rfl
end Go.Proofs.YtamoclofloijpaaGreatDoor

set_option linter.unusedVariables false
set_option linter.unusedSimpArgs false
namespace Go.Proofs.YtamoclofloijpaaGreatDoor
open Go.RowKit

/-- The first one that is not 0; 0 where there is none. -/
def firstL : List Int → Int
  | [] => 0
  | a :: l => if a ≠ 0 then a else firstL l
theorem firstL_at : ∀ (l : List Int) (k : Nat), k < l.length → firstL (l.drop k) = if l.getD k 0 ≠ 0 then l.getD k 0 else firstL (l.drop (k + 1))
  | [], k, h => by simp at h
  | a :: l, 0, _ => rfl
  | a :: l, k + 1, h => firstL_at l k (by simpa using h)
theorem first3 (a b c : Int) : firstL [a, b, c] = firstE a (firstE b c) := by
  unfold firstL firstL firstL firstL firstE
  split <;> first | rfl | (split <;> first | rfl | (split <;> first | rfl | omega))
end Go.Proofs.YtamoclofloijpaaGreatDoor

set_option linter.unusedVariables false
set_option linter.unusedSimpArgs false
namespace Go.Proofs.YtamoclofloijpaaGreatDoor
open Go.RowKit

set_option maxRecDepth 100000 in
theorem orNI_any (l : List Int) (B n : Nat) (hn : n = l.length) (hl : n ≤ 1000) (w : World) (hB : B < w.heap.size) (hc : ∀ i, i < n → w.cell? ⟨B, i, none⟩ = some (.int .i64 (l.getD i 0))) : Calls Tryz.prog 68 #[.slice (some ⟨B, 0, none⟩) n n] w fun r w' => r = .returned (.int .i64 (firstL l)) ∧ w = w' := by
  have HC := Lib.hid hc
  have HF : Hid (∀ k, k < n → firstL (l.drop k) = if l.getD k 0 ≠ 0 then l.getD k 0 else firstL (l.drop (k + 1))) := fun k hk => firstL_at l k (by omega)
  have HZ : Hid (firstL (l.drop n) = 0) := by show _ = _; rw [hn, List.drop_length]; rfl
  have HS : Hid (firstL l = firstL (l.drop 0)) := rfl
  clear hc hn
  generalize firstL l = R at HS ⊢
  go_enter Tryz.func68, Tryz.ntmps68
  go_wp2_with fail
  go_loopw [8] (fun i wr => ∃ k : Nat, k ≤ n ∧ i = .int .i64 k ∧ Hid (R = firstL (l.drop k)) ∧ Hid (w = wr)) (fun i _ => n - (intOf i).toNat)
  case atStart => exact ⟨0, by omega, rfl, HS.out, rfl⟩
  case round =>
    obtain ⟨k, hk, rfl, HD, HW⟩ := hrel
    obtain rfl : w = wr := HW.out
    by_cases hlt : k < n
    · have c0 := HC.out k hlt
      have HFk := Lib.hid (HF.out k hlt)
      generalize l.getD k 0 = x at c0 HFk
      by_cases hx : x = 0
      · subst hx
        go_wp2_with fail
        go_roundw
        case rel => exact ⟨k + 1, by omega, by go_num, by show _ = _; rw [HD.out, HFk.out, if_neg (by simp)], (by first | exact rfl | exact True.intro)⟩
        case measure => simp [intOf]; omega
      · have hxb : (x == 0) = false := by simpa using hx
        have HE : Hid (R = x) := by show _ = _; rw [HD.out, HFk.out, if_pos hx]
        go_wp2_with fail
        go_ret
        exact ⟨by rw [HE.out]; rfl, rfl⟩
    · obtain rfl : k = n := by omega
      have HE : Hid (R = 0) := by show _ = _; rw [HD.out, HZ.out]
      go_wp2_with fail
      go_ret
      exact ⟨by rw [HE.out]; rfl, rfl⟩
theorem first4 (a b c d : Int) : firstL [a, b, c, d] = firstE a (firstE b (firstE c d)) := by
  unfold firstL firstL firstL firstL firstL firstE
  split <;> first | rfl | (split <;> first | rfl | (split <;> first | rfl | (split <;> first | rfl | omega)))
theorem or4I_any (a b c d : Int) (B : Nat) (w : World) (hB : B < w.heap.size) (h0 : w.cell? ⟨B, 0, none⟩ = some (.int .i64 a)) (h1 : w.cell? ⟨B, 1, none⟩ = some (.int .i64 b)) (h2 : w.cell? ⟨B, 2, none⟩ = some (.int .i64 c)) (h3 : w.cell? ⟨B, 3, none⟩ = some (.int .i64 d)) : Calls Tryz.prog 68 #[.slice (some ⟨B, 0, none⟩) 4 4] w fun r w' => r = .returned (.int .i64 (firstE a (firstE b (firstE c d)))) ∧ w = w' := by
  rw [← first4]
  exact orNI_any [a, b, c, d] B 4 rfl (by decide) w hB (fun i hi => by match i, hi with | 0, _ => exact h0 | 1, _ => exact h1 | 2, _ => exact h2 | 3, _ => exact h3)
theorem or3I_any (a b c : Int) (B : Nat) (w : World) (hB : B < w.heap.size) (h0 : w.cell? ⟨B, 0, none⟩ = some (.int .i64 a)) (h1 : w.cell? ⟨B, 1, none⟩ = some (.int .i64 b)) (h2 : w.cell? ⟨B, 2, none⟩ = some (.int .i64 c)) : Calls Tryz.prog 68 #[.slice (some ⟨B, 0, none⟩) 3 3] w fun r w' => r = .returned (.int .i64 (firstE a (firstE b c))) ∧ w = w' := by
  rw [← first3]
  exact orNI_any [a, b, c] B 3 rfl (by decide) w hB (fun i hi => by match i, hi with | 0, _ => exact h0 | 1, _ => exact h1 | 2, _ => exact h2)
end Go.Proofs.YtamoclofloijpaaGreatDoor

set_option linter.unusedVariables false
set_option linter.unusedSimpArgs false
namespace Go.Proofs.YtamoclofloijpaaGreatDoor
open Go.RowKit

theorem in2_any (n lo hi : Int) (w : World) : Calls Tryz.prog 59 #[.int .i64 n, .int .i64 lo, .int .i64 hi] w fun e w' => e = .returned (.bool (decide (lo ≤ n) && decide (n ≤ hi))) ∧ w = w' := by
  by_cases h : lo ≤ n
  · rw [decide_eq_true h]
    go_enter Tryz.func59, Tryz.ntmps59
    go_wp2_with fail
    go_ret
    exact ⟨rfl, rfl⟩
  · rw [decide_eq_false h]
    go_enter Tryz.func59, Tryz.ntmps59
    go_wp2_with fail
    go_ret
    exact ⟨rfl, rfl⟩
def sgnI (n : Int) : Int := if n < 0 then -1 else if 0 < n then 1 else 0
theorem sign2_any (n : Int) (w : World) : Calls Tryz.prog 100 #[.int .i64 n] w fun e w' => e = .returned (.int .i64 (sgnI n)) ∧ w = w' := by
  unfold sgnI
  by_cases h : n < 0
  · rw [if_pos h]
    go_enter Tryz.func100, Tryz.ntmps100
    go_wp2_with fail
    go_ret
    exact ⟨rfl, rfl⟩
  · rw [if_neg h]
    by_cases h2 : 0 < n
    · rw [if_pos h2]
      go_enter Tryz.func100, Tryz.ntmps100
      go_wp2_with fail
      go_ret
      exact ⟨rfl, rfl⟩
    · rw [if_neg h2]
      go_enter Tryz.func100, Tryz.ntmps100
      go_wp2_with fail
      go_ret
      exact ⟨rfl, rfl⟩
theorem moment2_any (n : Int) (w : World) : Calls Tryz.prog 60 #[.int .i64 n] w fun e w' => e = .returned (.bool (isMomB n)) ∧ w = w' := by
  have hm : Hid ((decide (0 ≤ n) && decide (n ≤ 345686399999)) = isMomB n) := by
    show _ = _
    unfold isMomB
    congr 1
    exact decide_eq_decide.2 (by omega)
  go_enter Tryz.func60, Tryz.ntmps60
  go_wp2_with fail
  refine (in2_any _ _ _ _).mono ?_
  rintro e w' ⟨rfl, rfl⟩
  rw [hm.out]
  go_wp2_with fail
  go_ret
  exact ⟨rfl, rfl⟩
/-- Whether all of a string's bytes are some. -/
def onlyB (s t : List UInt8) : Bool := s.all (fun c => t.contains c)
theorem ix_has (t : List UInt8) (c : UInt8) : (0 ≤ Lib.indexByte t c) ↔ t.contains c = true := by
  induction t with
  | nil => simp [Lib.indexByte]
  | cons b t ih =>
    unfold Lib.indexByte
    by_cases h : b = c
    · subst h; simp
    · have h1 : (b == c) = false := by simpa using h
      have hge := Lib.indexByte_ge t c
      rw [h1]
      simp only [List.contains_cons]
      have h2 : (c == b) = false := by simpa using (Ne.symm h)
      rw [h2, Bool.false_or, ← ih]
      by_cases h3 : Lib.indexByte t c = -1
      · rw [h3]; simp
      · have h4 : (Lib.indexByte t c == -1) = false := by simpa using h3
        rw [h4]; simp; omega
theorem onlyB_take (s t : List UInt8) (i : Nat) (hi : i < s.length) (h : t.contains (s.getD i 0) = false) : onlyB s t = false := by
  unfold onlyB
  rw [Bool.eq_false_iff]
  intro hh
  rw [List.all_eq_true] at hh
  have := hh _ (List.getElem_mem hi)
  simp only [List.getD_eq_getElem?_getD, List.getElem?_eq_getElem hi, Option.getD_some] at h
  rw [this] at h
  cases h
theorem onlyB_all (s t : List UInt8) (h : ∀ i, i < s.length → t.contains (s.getD i 0) = true) : onlyB s t = true := by
  unfold onlyB
  rw [List.all_eq_true]
  intro x hx
  obtain ⟨i, hi, rfl⟩ := List.getElem_of_mem hx
  have := h i hi
  rw [List.getD_eq_getElem?_getD, List.getElem?_eq_getElem hi] at this
  exact this
theorem byte_at (s : List UInt8) (i : Nat) (h : i < s.length) (h' : i < (⟨s.toArray⟩ : ByteArray).size) : (⟨s.toArray⟩ : ByteArray)[i] = s.getD i 0 := by
  rw [List.getD_eq_getElem?_getD, List.getElem?_eq_getElem h]
  rfl
set_option maxRecDepth 100000 in
theorem only2_any (s t : List UInt8) (w : World) (hs : s.length ≤ 1000000) : Calls Tryz.prog 101 #[.string ⟨s.toArray⟩, .string ⟨t.toArray⟩] w fun e w' => e = .returned (.bool (onlyB s t)) ∧ w = w' := by
  have HIX : Hid (∀ (c : UInt8) W, Calls Tryz.prog 160 #[.string ⟨t.toArray⟩, .int .u8 c.toNat] W fun e w' => e = .returned (.int .i64 (Lib.indexByte t c)) ∧ w' = W) := fun c W => by
    have := Tryz.strings_IndexByte ⟨t.toArray⟩ c.toNat W
    rw [show ((c.toNat : Int).toNat.toUInt8) = c by simp] at this
    exact this
  have HT := Lib.hid (fun i (hi : i < s.length) => onlyB_take s t i hi)
  have HA := Lib.hid (onlyB_all s t)
  obtain ⟨n, hn⟩ : ∃ n, n = s.length := ⟨_, rfl⟩
  have HN := Lib.hid hn
  have HB : Hid (∀ i (h : i < n) (h' : i < (⟨s.toArray⟩ : ByteArray).size), (⟨s.toArray⟩ : ByteArray)[i] = s.getD i 0) := fun i h h' => byte_at s i (by omega) h'
  have hsz : (⟨s.toArray⟩ : ByteArray).size = n := by rw [hn]; show s.toArray.size = _; simp
  rw [← hn] at HT HA hs
  generalize onlyB s t = R at HT HA ⊢
  generalize hf : (⟨s.toArray⟩ : ByteArray) = f at HB hsz ⊢
  clear hn hf
  go_enter Tryz.func101, Tryz.ntmps101
  go_wp2_with fail
  go_loopw [8] (fun it wr => ∃ i : Nat, i ≤ n ∧ it = .int .i64 i ∧ Hid (∀ m, m < i → t.contains (s.getD m 0) = true) ∧ Hid (w = wr)) (fun it _ => n - (intOf it).toNat)
  case atStart => exact ⟨0, Nat.zero_le _, rfl, (fun m hm => absurd hm (by omega)), rfl⟩
  case round =>
    obtain ⟨i, hi, rfl, HM, HW⟩ := hrel
    obtain rfl : w = wr := HW.out
    by_cases hlt : i < n
    · have hsi : i < f.size := by omega
      have hbi := HB.out i hlt hsi
      have hin : (i : Int) < (n : Int) := by omega
      have HIC := Lib.hid (HIX.out (s.getD i 0))
      have HC := Lib.hid (ix_has t (s.getD i 0))
      have HTI := Lib.hid (HT.out i hlt)
      obtain ⟨c, hcc⟩ : ∃ c, c = s.getD i 0 := ⟨_, rfl⟩
      have HCC := Lib.hid hcc
      rw [← hcc] at hbi HIC HC HTI
      clear hcc
      go_wp2_with fail
      refine (HIC.out _).mono ?_
      rintro e w' ⟨rfl, rfl⟩
      by_cases hc : t.contains c = true
      · have hx : ¬ Lib.indexByte t c < 0 := by have := HC.out.2 hc; omega
        have HCT := Lib.hid hc
        generalize Lib.indexByte t c = ix at hx
        clear hc
        go_wp2_with fail
        go_roundw
        case rel => exact ⟨i + 1, by omega, by go_num, (fun m hm => (by
          by_cases e : m = i
          · rw [e, ← HCC.out]; exact HCT.out
          · exact HM.out m (by omega))), (by first | exact rfl | exact True.intro)⟩
        case measure => simp [intOf]; omega
      · have hx : Lib.indexByte t c < 0 := by
          have h1 : ¬ 0 ≤ Lib.indexByte t c := fun h => hc (HC.out.1 h)
          omega
        have HR : Hid (R = false) := HTI.out (by simpa using hc)
        generalize Lib.indexByte t c = ix at hx
        clear hc
        go_wp2_with fail
        go_ret
        exact ⟨by rw [HR.out]; rfl, rfl⟩
    · obtain rfl : i = n := by omega
      have hin : ¬ ((i : Int) < (i : Int)) := by omega
      have HR : Hid (R = true) := HA.out HM.out
      go_wp2_with fail
      go_ret
      exact ⟨by rw [HR.out]; rfl, rfl⟩
def smallsL : List UInt8 := [97, 98, 99, 100, 101, 102, 103, 104, 105, 106, 107, 108, 109, 110, 111, 112, 113, 114, 115, 116, 117, 118, 119, 120, 121, 122]
theorem small_iff (c : UInt8) : smallsL.contains c = (decide (97 ≤ c.toNat) && decide (c.toNat ≤ 122)) := by
  have key : ∀ n : Fin 256, smallsL.contains (UInt8.ofNat n.val) = (decide (97 ≤ n.val) && decide (n.val ≤ 122)) := by decide +kernel
  have := key ⟨c.toNat, UInt8.toNat_lt c⟩
  simpa using this
theorem key_parts (s : List UInt8) (h1 : 1 ≤ s.length) (h2 : s.length ≤ 40) : isKeyB s = (onlyB (s.take 1) smallsL && onlyB s keySet) := by
  cases s with
  | nil => simp at h1
  | cons c l =>
    have e : onlyB (c :: l) keySet = allIn (c :: l) keySet := (allIn_all _ _).symm
    have e2 : onlyB ((c :: l).take 1) smallsL = (decide (97 ≤ c.toNat) && decide (c.toNat ≤ 122)) := by
      rw [← small_iff]; simp [onlyB]
    rw [e, e2]
    unfold isKeyB
    rw [decide_eq_true h1, decide_eq_true h2, List.headD_cons, Bool.true_and, Bool.true_and, Bool.and_assoc]
theorem extract_one (s : List UInt8) (h : 1 ≤ s.length) : (⟨s.toArray⟩ : ByteArray).extract 0 1 = ⟨(s.take 1).toArray⟩ := by
  simp [ByteArray.extract, ByteArray.copySlice]
set_option maxRecDepth 100000 in
theorem key2_any (s : List UInt8) (w : World) (hs : s.length ≤ 1000000) : Calls Tryz.prog 58 #[.string ⟨s.toArray⟩] w fun e w' => e = .returned (.bool (isKeyB s)) ∧ w = w' := by
  have H1 : Hid (∀ W, Calls Tryz.prog 101 #[.string ⟨(s.take 1).toArray⟩, .string ⟨smallsL.toArray⟩] W fun e w' => e = .returned (.bool (onlyB (s.take 1) smallsL)) ∧ W = w') := fun W => only2_any _ _ W (by rw [List.length_take]; omega)
  have H2 : Hid (∀ W, Calls Tryz.prog 101 #[.string ⟨s.toArray⟩, .string ⟨keySet.toArray⟩] W fun e w' => e = .returned (.bool (onlyB s keySet)) ∧ W = w') := fun W => only2_any _ _ W hs
  by_cases hr : 1 ≤ s.length ∧ s.length ≤ 40
  case neg =>
    have HK : Hid (isKeyB s = false) := by
      show isKeyB s = false
      unfold isKeyB
      by_cases h1 : 1 ≤ s.length
      · rw [decide_eq_true h1, decide_eq_false (fun h2 => hr ⟨h1, h2⟩)]; rfl
      · rw [decide_eq_false h1]; rfl
    have HI : Hid ((decide ((1 : Int) ≤ (s.length : Int)) && decide ((s.length : Int) ≤ 40)) = false) := by
      show _ = _
      by_cases h1 : 1 ≤ s.length
      · rw [decide_eq_false (show ¬ ((s.length : Int) ≤ 40) by omega), Bool.and_false]
      · rw [decide_eq_false (show ¬ ((1 : Int) ≤ (s.length : Int)) by omega), Bool.false_and]
    clear hr
    generalize isKeyB s = R at HK ⊢
    go_enter Tryz.func58, Tryz.ntmps58
    go_wp2_with fail
    refine (in2_any _ _ _ _).mono ?_
    rintro e w' ⟨rfl, rfl⟩
    rw [HI.out]
    go_wp2_with fail
    go_ret
    exact ⟨by rw [HK.out]; rfl, rfl⟩
  have HK := Lib.hid (key_parts s hr.1 hr.2)
  have HI : Hid ((decide ((1 : Int) ≤ (s.length : Int)) && decide ((s.length : Int) ≤ 40)) = true) := by
    show _ = _
    rw [decide_eq_true (show (1 : Int) ≤ (s.length : Int) by omega), decide_eq_true (show (s.length : Int) ≤ 40 by omega)]; rfl
  have HX := Lib.hid (extract_one s hr.1)
  have hs1 : 1 ≤ s.length := hr.1
  clear hr
  generalize isKeyB s = R at HK ⊢
  generalize onlyB (s.take 1) smallsL = b1 at HK H1
  generalize onlyB s keySet = b2 at HK H2
  go_enter Tryz.func58, Tryz.ntmps58
  go_wp2_with fail
  refine (in2_any _ _ _ _).mono ?_
  rintro e w' ⟨rfl, rfl⟩
  rw [HI.out]
  go_wp2_with fail
  rw [HX.out]
  refine (H1.out _).mono ?_
  rintro e w' ⟨rfl, rfl⟩
  cases b1
  · go_wp2_with fail
    go_ret
    exact ⟨by rw [HK.out]; rfl, rfl⟩
  · go_wp2_with fail
    refine (H2.out _).mono ?_
    rintro e w' ⟨rfl, rfl⟩
    go_wp2_with fail
    go_ret
    exact ⟨by rw [HK.out]; rfl, rfl⟩
end Go.Proofs.YtamoclofloijpaaGreatDoor

set_option linter.unusedVariables false
set_option linter.unusedSimpArgs false
namespace Go.Proofs.YtamoclofloijpaaGreatDoor
open Go.RowKit

set_option maxRecDepth 100000 in
theorem orI_any (a b : Int) (B : Nat) (w : World) (hB : B < w.heap.size) (h0 : w.cell? ⟨B, 0, none⟩ = some (.int .i64 a)) (h1 : w.cell? ⟨B, 1, none⟩ = some (.int .i64 b)) : Calls Tryz.prog 68 #[.slice (some ⟨B, 0, none⟩) 2 2] w fun r w' => r = .returned (.int .i64 (firstE a b)) ∧ w = w' := by
  by_cases ha : a = 0
  · subst ha
    by_cases hb : b = 0
    · subst hb
      go_enter Tryz.func68, Tryz.ntmps68
      go_wp2_with fail
      go_loopw [8] (fun i wr => ∃ k : Nat, k ≤ 2 ∧ i = .int .i64 k ∧ wr = w) (fun i _ => 2 - (intOf i).toNat)
      case atStart => exact ⟨0, by omega, rfl, rfl⟩
      case round =>
        obtain ⟨k, hk, rfl, rfl⟩ := hrel
        have hkc : k = 0 ∨ k = 1 ∨ k = 2 := by omega
        rcases hkc with rfl | rfl | rfl
        · go_wp2_with fail
          go_roundw
          case rel => exact ⟨1, by omega, by go_num, trivial⟩
          case measure => simp [intOf]
        · go_wp2_with fail
          go_roundw
          case rel => exact ⟨2, by omega, by go_num, trivial⟩
          case measure => simp [intOf]
        · go_wp2_with fail
          go_ret
          exact ⟨rfl, rfl⟩
    · have hbb : (b == 0) = false := by simpa using hb
      have HF : Hid (firstE 0 b = b) := by show _ = _; unfold firstE; rw [if_neg (by simp)]
      go_enter Tryz.func68, Tryz.ntmps68
      go_wp2_with fail
      go_loopw [8] (fun i wr => ∃ k : Nat, k ≤ 1 ∧ i = .int .i64 k ∧ wr = w) (fun i _ => 2 - (intOf i).toNat)
      case atStart => exact ⟨0, by omega, rfl, rfl⟩
      case round =>
        obtain ⟨k, hk, rfl, rfl⟩ := hrel
        have hkc : k = 0 ∨ k = 1 := by omega
        rcases hkc with rfl | rfl
        · go_wp2_with fail
          go_roundw
          case rel => exact ⟨1, by omega, by go_num, trivial⟩
          case measure => simp [intOf]
        · go_wp2_with fail
          go_ret
          exact ⟨by rw [HF.out]; rfl, rfl⟩
  · have hab : (a == 0) = false := by simpa using ha
    have HF : Hid (firstE a b = a) := by show _ = _; unfold firstE; rw [if_pos ha]
    go_enter Tryz.func68, Tryz.ntmps68
    go_wp2_with fail
    go_loopw [8] (fun i wr => i = .int .i64 0 ∧ wr = w) (fun i _ => 0)
    case atStart => exact ⟨rfl, rfl⟩
    case round =>
      obtain ⟨rfl, rfl⟩ := hrel
      go_wp2_with fail
      go_ret
      exact ⟨by rw [HF.out]; rfl, rfl⟩

/-- The sign says how two things stand. -/
def SignPost (lt eq : Prop) (w : World) (e : Ending) (w' : World) : Prop := ∃ r : Int, e = .returned (.int .i64 r) ∧ (r < 0 ↔ lt) ∧ (r = 0 ↔ eq) ∧ w' = w
theorem cmpI_any (x y : Int) (w : World) : Calls Tryz.prog 69 #[.int .i64 x, .int .i64 y] w (SignPost (x < y) (x = y) w) := by
  refine (Tryz.cmp_Compare x y w).mono ?_
  rintro e w' ⟨rfl, rfl⟩
  refine ⟨_, rfl, ?_, ?_, rfl⟩ <;> unfold Lib.compareInt <;> split <;> first | omega | (split <;> omega)
theorem cmpB_any (x y : List UInt8) (w : World) : Calls Tryz.prog 87 #[.string ⟨x.toArray⟩, .string ⟨y.toArray⟩] w (SignPost (Op.bytesLess x y = true) (x = y) w) := by
  refine (Tryz.strings_Compare ⟨x.toArray⟩ ⟨y.toArray⟩ w).mono ?_
  rintro e w' ⟨rfl, rfl⟩
  exact ⟨_, rfl, cmp_neg x y, cmp_zero x y, rfl⟩
theorem nanS_any (x : List UInt8) (w : World) : Calls Tryz.prog 196 #[.string ⟨x.toArray⟩] w fun e w' => e = .returned (.bool false) ∧ w' = w := by
  go_enter Tryz.func196, Tryz.ntmps196
  go_wp2_with fail
  go_ret
  exact ⟨by first | rfl | simp, rfl⟩
theorem less_asym {x y : List UInt8} (h : Op.bytesLess x y = true) : Op.bytesLess y x = false ∧ x ≠ y := by
  refine ⟨?_, ?_⟩
  · cases h2 : Op.bytesLess y x with
    | false => rfl
    | true => rw [← less_irrefl x, ← less_trans h h2]
  · rintro rfl
    rw [less_irrefl] at h
    cases h
theorem cmpS_any (x y : List UInt8) (w : World) : Calls Tryz.prog 159 #[.string ⟨x.toArray⟩, .string ⟨y.toArray⟩] w (SignPost (Op.bytesLess x y = true) (x = y) w) := by
  by_cases h1 : Op.bytesLess x y = true
  · obtain ⟨h2, h3⟩ := less_asym h1
    have HL := Lib.hid h1
    have HN := Lib.hid h3
    have hxy : (x == y) = false := beq_eq_false_iff_ne.2 h3
    clear h3
    go_enter Tryz.func159, Tryz.ntmps159
    go_wp2_with (go_at_call 196; refine (nanS_any _ _).mono ?_; rintro e w' ⟨rfl, rfl⟩)
    go_ret
    exact ⟨-1, rfl, by simp [HL.out], by simp [HN.out], rfl⟩
  · have h1' : Op.bytesLess x y = false := by simpa using h1
    by_cases h3 : x = y
    · subst h3
      have HI := Lib.hid (less_irrefl x)
      go_enter Tryz.func159, Tryz.ntmps159
      go_wp2_with (go_at_call 196; refine (nanS_any _ _).mono ?_; rintro e w' ⟨rfl, rfl⟩)
      go_ret
      exact ⟨0, rfl, by simp [HI.out], by simp, rfl⟩
    · have h2 : Op.bytesLess y x = true := less_total x y h1' h3
      have hxy : (x == y) = false := beq_eq_false_iff_ne.2 h3
      have HL := Lib.hid h1'
      have HN := Lib.hid h3
      clear h3 h1
      go_enter Tryz.func159, Tryz.ntmps159
      go_wp2_with (go_at_call 196; refine (nanS_any _ _).mono ?_; rintro e w' ⟨rfl, rfl⟩)
      go_ret
      exact ⟨1, rfl, by simp [HL.out], by simp [HN.out], rfl⟩
theorem first_sign {a b : Int} {P Q R : Prop} (h1 : a < 0 ↔ P) (h2 : a = 0 ↔ Q) (h3 : b < 0 ↔ R) : firstE a b < 0 ↔ (P ∨ Q ∧ R) := by
  unfold firstE
  rw [← h1, ← h2, ← h3]
  split <;> omega

theorem idxS (n : Nat) (hn : n < 256) : Lib.indexByte [97, 98, 99, 100, 101, 102, 103, 104, 105, 106, 107, 108, 109, 110, 111, 112, 113, 114, 115, 116, 117, 118, 119, 120, 121, 122] ((n : Int).toNat.toUInt8) = if 97 ≤ n ∧ n ≤ 122 then ((n - 97 : Nat) : Int) else -1 := by
  have : ∀ i : Fin 256, Lib.indexByte [97, 98, 99, 100, 101, 102, 103, 104, 105, 106, 107, 108, 109, 110, 111, 112, 113, 114, 115, 116, 117, 118, 119, 120, 121, 122] ((i.val : Int).toNat.toUInt8) = if 97 ≤ i.val ∧ i.val ≤ 122 then ((i.val - 97 : Nat) : Int) else -1 := by decide +kernel
  exact this ⟨n, hn⟩
theorem smallS (n : Nat) (hn : n < 256) (w : World) : Calls Tryz.prog 160 #[.string ⟨#[97, 98, 99, 100, 101, 102, 103, 104, 105, 106, 107, 108, 109, 110, 111, 112, 113, 114, 115, 116, 117, 118, 119, 120, 121, 122]⟩, .int .u8 n] w fun e w' => e = .returned (.int .i64 (if 97 ≤ n ∧ n ≤ 122 then ((n - 97 : Nat) : Int) else -1)) ∧ w' = w := by
  rw [← idxS n hn]
  exact Tryz.strings_IndexByte _ _ w
end Go.Proofs.YtamoclofloijpaaGreatDoor

set_option linter.unusedVariables false
set_option linter.unusedSimpArgs false
namespace Go.Proofs.YtamoclofloijpaaGreatDoor
open Go.RowKit

theorem cb_range : ∀ (a b : List UInt8), -1 ≤ Lib.compareBytes a b ∧ Lib.compareBytes a b ≤ 1
  | [], [] => by simp [Lib.compareBytes]
  | [], _ :: _ => by simp [Lib.compareBytes]
  | _ :: _, [] => by simp [Lib.compareBytes]
  | a :: l1, b :: l2 => by
    unfold Lib.compareBytes
    split
    · omega
    · split
      · omega
      · exact cb_range l1 l2
theorem cmpX_any (x y : List UInt8) (w : World) : Calls Tryz.prog 159 #[.string ⟨x.toArray⟩, .string ⟨y.toArray⟩] w fun e w' => e = .returned (.int .i64 (Lib.compareBytes x y)) ∧ w' = w := by
  have hr := cb_range x y
  have h1 := cmp_neg x y
  have h0 := cmp_zero x y
  by_cases hl : Op.bytesLess x y = true
  · have h := h1.2 hl
    have HV : Hid (Lib.compareBytes x y = -1) := by show _ = _; omega
    obtain ⟨h2, h3⟩ := less_asym hl
    have hxy : (x == y) = false := beq_eq_false_iff_ne.2 h3
    generalize Lib.compareBytes x y = r at HV ⊢
    clear hr h1 h0 h h3
    go_enter Tryz.func159, Tryz.ntmps159
    go_wp2_with (go_at_call 196; refine (nanS_any _ _).mono ?_; rintro e w' ⟨rfl, rfl⟩)
    go_ret
    exact ⟨by rw [HV.out]; rfl, rfl⟩
  · have hl' : Op.bytesLess x y = false := by simpa using hl
    by_cases h3 : x = y
    · have HV : Hid (Lib.compareBytes x y = 0) := h0.2 h3
      subst h3
      generalize Lib.compareBytes x x = r at HV ⊢
      clear hr h1 h0 hl
      go_enter Tryz.func159, Tryz.ntmps159
      go_wp2_with (go_at_call 196; refine (nanS_any _ _).mono ?_; rintro e w' ⟨rfl, rfl⟩)
      go_ret
      exact ⟨by rw [HV.out]; rfl, rfl⟩
    · have h2 : Op.bytesLess y x = true := less_total x y hl' h3
      have hxy : (x == y) = false := beq_eq_false_iff_ne.2 h3
      have HV : Hid (Lib.compareBytes x y = 1) := by
        show _ = _
        have a1 : ¬ Lib.compareBytes x y < 0 := fun h => hl (h1.1 h)
        have a2 : ¬ Lib.compareBytes x y = 0 := fun h => h3 (h0.1 h)
        omega
      generalize Lib.compareBytes x y = r at HV ⊢
      clear hr h1 h0 hl h3
      go_enter Tryz.func159, Tryz.ntmps159
      go_wp2_with (go_at_call 196; refine (nanS_any _ _).mono ?_; rintro e w' ⟨rfl, rfl⟩)
      go_ret
      exact ⟨by rw [HV.out]; rfl, rfl⟩
set_option maxRecDepth 100000 in
set_option maxHeartbeats 2000000 in
theorem pairCmp_any (g1 g2 : Nat) (x1 x2 y1 y2 : List UInt8) (w : World) (h1 : w.cell? ⟨g1, 0, none⟩ = some (.string ⟨x1.toArray⟩)) (h2 : w.cell? ⟨g1, 1, none⟩ = some (.string ⟨x2.toArray⟩)) (h3 : w.cell? ⟨g2, 0, none⟩ = some (.string ⟨y1.toArray⟩)) (h4 : w.cell? ⟨g2, 1, none⟩ = some (.string ⟨y2.toArray⟩)) :
    Calls Tryz.prog 99 #[.slice (some ⟨g1, 0, none⟩) 2 2, .slice (some ⟨g2, 0, none⟩) 2 2] w fun e w' => e = .returned (.int .i64 (firstE (Lib.compareBytes x1 y1) (Lib.compareBytes x2 y2))) ∧ w' = w := by
  have HA := Lib.hid (fun w => cmpX_any x1 y1 w)
  have HB := Lib.hid (fun w => cmpX_any x2 y2 w)
  generalize Lib.compareBytes x1 y1 = r1 at HA ⊢
  generalize Lib.compareBytes x2 y2 = r2 at HB ⊢
  by_cases hr1 : r1 = 0
  · subst hr1
    by_cases hr2 : r2 = 0
    · subst hr2
      go_enter Tryz.func99, Tryz.ntmps99
      go_wp2_with fail
      go_loopw [11] (fun i wr => ∃ k : Nat, k ≤ 2 ∧ i = .int .i64 k ∧ wr = w) (fun i _ => 2 - (intOf i).toNat)
      case atStart => exact ⟨0, by omega, rfl, rfl⟩
      case round =>
        obtain ⟨k, hk, rfl, rfl⟩ := hrel
        have hkc : k = 0 ∨ k = 1 ∨ k = 2 := by omega
        rcases hkc with rfl | rfl | rfl
        · go_wp2_with fail
          refine (HA.out _).mono ?_
          rintro e w' ⟨rfl, hw⟩
          replace hw := hw.symm
          subst hw
          go_wp2_with fail
          go_roundw
          case rel => exact ⟨1, by omega, by go_num, trivial⟩
          case measure => simp [intOf]
        · go_wp2_with fail
          refine (HB.out _).mono ?_
          rintro e w' ⟨rfl, hw⟩
          replace hw := hw.symm
          subst hw
          go_wp2_with fail
          go_roundw
          case rel => exact ⟨2, by omega, by go_num, trivial⟩
          case measure => simp [intOf]
        · go_wp2_with fail
          go_ret
          exact ⟨rfl, rfl⟩
    · have hb2 : (r2 != 0) = true := bne_iff_ne.2 hr2
      have HF : Hid (firstE 0 r2 = r2) := by show _ = _; unfold firstE; rw [if_neg (by simp)]
      go_enter Tryz.func99, Tryz.ntmps99
      go_wp2_with fail
      go_loopw [11] (fun i wr => ∃ k : Nat, k ≤ 1 ∧ i = .int .i64 k ∧ wr = w) (fun i _ => 2 - (intOf i).toNat)
      case atStart => exact ⟨0, by omega, rfl, rfl⟩
      case round =>
        obtain ⟨k, hk, rfl, rfl⟩ := hrel
        have hkc : k = 0 ∨ k = 1 := by omega
        rcases hkc with rfl | rfl
        · go_wp2_with fail
          refine (HA.out _).mono ?_
          rintro e w' ⟨rfl, hw⟩
          replace hw := hw.symm
          subst hw
          go_wp2_with fail
          go_roundw
          case rel => exact ⟨1, by omega, by go_num, trivial⟩
          case measure => simp [intOf]
        · go_wp2_with fail
          refine (HB.out _).mono ?_
          rintro e w' ⟨rfl, hw⟩
          replace hw := hw.symm
          subst hw
          go_wp2_with fail
          go_ret
          exact ⟨by rw [HF.out]; rfl, rfl⟩
  · have hb1 : (r1 != 0) = true := bne_iff_ne.2 hr1
    have HF : Hid (firstE r1 r2 = r1) := by show _ = _; unfold firstE; rw [if_pos hr1]
    go_enter Tryz.func99, Tryz.ntmps99
    go_wp2_with fail
    go_loopw [11] (fun i wr => i = .int .i64 0 ∧ wr = w) (fun i _ => 0)
    case atStart => exact ⟨rfl, rfl⟩
    case round =>
      obtain ⟨rfl, rfl⟩ := hrel
      go_wp2_with fail
      refine (HA.out _).mono ?_
      rintro e w' ⟨rfl, hw⟩
      replace hw := hw.symm
      subst hw
      go_wp2_with fail
      go_ret
      exact ⟨by rw [HF.out]; rfl, rfl⟩
end Go.Proofs.YtamoclofloijpaaGreatDoor

set_option linter.unusedVariables false
set_option linter.unusedSimpArgs false
namespace Go.Proofs.YtamoclofloijpaaGreatDoor
open Go.RowKit Go.Sort Go.Lib

theorem wp_valA {P : Program} {o : Oper} {a : Act} {w w' : World} {v : Value} {K : Act → World → Prop} {Q : Exit → Act → World → Prop} (h : (execOp a.eval o).run P w = .ok (.value v) w') (hK : K (a.put o.dst v) w') : Oper.wp P o a w K Q := by
  unfold Oper.wp; rw [h]; exact hK
set_option maxRecDepth 100000 in
set_option maxHeartbeats 8000000 in
theorem cmpActs_core (x0 x3 x4 y0 y3 y4 : Int) (x1 x2 x5 y1 y2 y5 : ByteArray) (r0 r1 r2 r3 : Int) (W : World) (h0 : ∀ W, Calls Tryz.prog 69 #[.int .i64 x0, .int .i64 y0] W fun e w' => e = .returned (.int .i64 r0) ∧ w' = W) (h1 : ∀ W, Calls Tryz.prog 87 #[.string x1, .string y1] W fun e w' => e = .returned (.int .i64 r1) ∧ w' = W) (h2 : ∀ W, Calls Tryz.prog 87 #[.string x2, .string y2] W fun e w' => e = .returned (.int .i64 r2) ∧ w' = W) (h3 : ∀ W, Calls Tryz.prog 69 #[.int .i64 x3, .int .i64 y3] W fun e w' => e = .returned (.int .i64 r3) ∧ w' = W) :
    Calls Tryz.prog 38 #[.agg #[.int .i64 x0, .string x1, .string x2, .int .i64 x3, .int .i64 x4, .string x5], .agg #[.int .i64 y0, .string y1, .string y2, .int .i64 y3, .int .i64 y4, .string y5]] W (CmpP (firstE r0 (firstE r1 (firstE r2 r3))) W) := by
  have H0 := Lib.hid h0
  have H1 := Lib.hid h1
  have H2 := Lib.hid h2
  have H3 := Lib.hid h3
  clear h0 h1 h2 h3
  go_enter Tryz.func38, Tryz.ntmps38
  go_upto_region 1 with (fail)
  have HGR : Hid (Grown W ((W.alloc (.cells #[.int .i64 x0, .string x1, .string x2, .int .i64 x3, .int .i64 x4, .string x5] 45)).alloc (.cells #[.int .i64 y0, .string y1, .string y2, .int .i64 y3, .int .i64 y4, .string y5] 45))) := ((Grown.refl W).alloc _).alloc _
  have HX : Hid (Blk ((W.alloc (.cells #[.int .i64 x0, .string x1, .string x2, .int .i64 x3, .int .i64 x4, .string x5] 45)).alloc (.cells #[.int .i64 y0, .string y1, .string y2, .int .i64 y3, .int .i64 y4, .string y5] 45)) W.heap.size [.int .i64 x0, .string x1, .string x2, .int .i64 x3, .int .i64 x4, .string x5] 45) := (Blk.new W [.int .i64 x0, .string x1, .string x2, .int .i64 x3, .int .i64 x4, .string x5] 45).alloc _
  have HY : Hid (Blk ((W.alloc (.cells #[.int .i64 x0, .string x1, .string x2, .int .i64 x3, .int .i64 x4, .string x5] 45)).alloc (.cells #[.int .i64 y0, .string y1, .string y2, .int .i64 y3, .int .i64 y4, .string y5] 45)) (W.alloc (.cells #[.int .i64 x0, .string x1, .string x2, .int .i64 x3, .int .i64 x4, .string x5] 45)).heap.size [.int .i64 y0, .string y1, .string y2, .int .i64 y3, .int .i64 y4, .string y5] 45) := Blk.new _ _ _
  have hsz : (W.alloc (.cells #[.int .i64 x0, .string x1, .string x2, .int .i64 x3, .int .i64 x4, .string x5] 45)).heap.size = W.heap.size + 1 := by simp
  rw [hsz] at HY
  clear hsz
  generalize ((W.alloc (.cells #[.int .i64 x0, .string x1, .string x2, .int .i64 x3, .int .i64 x4, .string x5] 45)).alloc (.cells #[.int .i64 y0, .string y1, .string y2, .int .i64 y3, .int .i64 y4, .string y5] 45)) = w1 at HGR HX HY ⊢
  generalize W.heap.size = B at HX HY ⊢
  have hd : Below w1.heap.size w1 w1.drew := ext_drew (Below.refl _ _)
  have HXd := Lib.hid (HX.out.below hd)
  have HYd := Lib.hid (HY.out.below hd)
  have HGd := Lib.hid HGR.out.drew
  clear hd HX HY HGR
  have HCE : Hid (∀ W9, Below w1.drew.heap.size w1.drew W9 → (W9.cell? ⟨B, 0, none⟩ = some (.int .i64 x0) ∧ W9.cell? ⟨B, 1, none⟩ = some (.string x1) ∧ W9.cell? ⟨B, 2, none⟩ = some (.string x2) ∧ W9.cell? ⟨B, 3, none⟩ = some (.int .i64 x3)) ∧ (W9.cell? ⟨B + 1, 0, none⟩ = some (.int .i64 y0) ∧ W9.cell? ⟨B + 1, 1, none⟩ = some (.string y1) ∧ W9.cell? ⟨B + 1, 2, none⟩ = some (.string y2) ∧ W9.cell? ⟨B + 1, 3, none⟩ = some (.int .i64 y3))) := fun W9 hW => ⟨⟨(HXd.out.below hW).cell 0 rfl, (HXd.out.below hW).cell 1 rfl, (HXd.out.below hW).cell 2 rfl, (HXd.out.below hW).cell 3 rfl⟩, ⟨(HYd.out.below hW).cell 0 rfl, (HYd.out.below hW).cell 1 rfl, (HYd.out.below hW).cell 2 rfl, (HYd.out.below hW).cell 3 rfl⟩⟩
  refine region_seqI (S := fun W9 => Below w1.drew.heap.size w1.drew W9) [(true, 0), (true, 1), (true, 2), (true, 3), (true, 5), (true, 6), (true, 7), (true, 8), (true, 10), (true, 11), (true, 12), (true, 13), (true, 15), (true, 16), (true, 17), (true, 18), (false, 4), (false, 9), (false, 14), (false, 19), (false, 20), (false, 21), (true, 22)] (by kernel_rfl) (by kernel_rfl) rfl (by kernel_rfl) (Below.refl _ _) ?_
  generalize w1.drew = wd at HCE HXd HYd HGd ⊢
  simp only [seqOps, List.getD_cons_zero, List.getD_cons_succ]
  refine seqI_take (v := .pointer (some ⟨B, 0, none⟩)) rfl (fun W9 hW => by clear hW; go_simp) (fun _ _ _ h => h) ?_
  simp only [Act.put, List.setIfInBounds_toArray, List.set_cons_zero, List.set_cons_succ]
  refine seqI_take (v := .int .i64 x0) rfl (fun W9 hW => by obtain ⟨⟨p0, p1, p2, p3⟩, ⟨q0, q1, q2, q3⟩⟩ := HCE.out W9 hW; clear hW; go_simp) (fun _ _ _ h => h) ?_
  simp only [Act.put, List.setIfInBounds_toArray, List.set_cons_zero, List.set_cons_succ]
  refine seqI_take (v := .pointer (some ⟨B + 1, 0, none⟩)) rfl (fun W9 hW => by clear hW; go_simp) (fun _ _ _ h => h) ?_
  simp only [Act.put, List.setIfInBounds_toArray, List.set_cons_zero, List.set_cons_succ]
  refine seqI_take (v := .int .i64 y0) rfl (fun W9 hW => by obtain ⟨⟨p0, p1, p2, p3⟩, ⟨q0, q1, q2, q3⟩⟩ := HCE.out W9 hW; clear hW; go_simp) (fun _ _ _ h => h) ?_
  simp only [Act.put, List.setIfInBounds_toArray, List.set_cons_zero, List.set_cons_succ]
  refine seqI_take (v := .pointer (some ⟨B, 1, none⟩)) rfl (fun W9 hW => by clear hW; go_simp) (fun _ _ _ h => h) ?_
  simp only [Act.put, List.setIfInBounds_toArray, List.set_cons_zero, List.set_cons_succ]
  refine seqI_take (v := .string x1) rfl (fun W9 hW => by obtain ⟨⟨p0, p1, p2, p3⟩, ⟨q0, q1, q2, q3⟩⟩ := HCE.out W9 hW; clear hW; go_simp) (fun _ _ _ h => h) ?_
  simp only [Act.put, List.setIfInBounds_toArray, List.set_cons_zero, List.set_cons_succ]
  refine seqI_take (v := .pointer (some ⟨B + 1, 1, none⟩)) rfl (fun W9 hW => by clear hW; go_simp) (fun _ _ _ h => h) ?_
  simp only [Act.put, List.setIfInBounds_toArray, List.set_cons_zero, List.set_cons_succ]
  refine seqI_take (v := .string y1) rfl (fun W9 hW => by obtain ⟨⟨p0, p1, p2, p3⟩, ⟨q0, q1, q2, q3⟩⟩ := HCE.out W9 hW; clear hW; go_simp) (fun _ _ _ h => h) ?_
  simp only [Act.put, List.setIfInBounds_toArray, List.set_cons_zero, List.set_cons_succ]
  refine seqI_take (v := .pointer (some ⟨B, 2, none⟩)) rfl (fun W9 hW => by clear hW; go_simp) (fun _ _ _ h => h) ?_
  simp only [Act.put, List.setIfInBounds_toArray, List.set_cons_zero, List.set_cons_succ]
  refine seqI_take (v := .string x2) rfl (fun W9 hW => by obtain ⟨⟨p0, p1, p2, p3⟩, ⟨q0, q1, q2, q3⟩⟩ := HCE.out W9 hW; clear hW; go_simp) (fun _ _ _ h => h) ?_
  simp only [Act.put, List.setIfInBounds_toArray, List.set_cons_zero, List.set_cons_succ]
  refine seqI_take (v := .pointer (some ⟨B + 1, 2, none⟩)) rfl (fun W9 hW => by clear hW; go_simp) (fun _ _ _ h => h) ?_
  simp only [Act.put, List.setIfInBounds_toArray, List.set_cons_zero, List.set_cons_succ]
  refine seqI_take (v := .string y2) rfl (fun W9 hW => by obtain ⟨⟨p0, p1, p2, p3⟩, ⟨q0, q1, q2, q3⟩⟩ := HCE.out W9 hW; clear hW; go_simp) (fun _ _ _ h => h) ?_
  simp only [Act.put, List.setIfInBounds_toArray, List.set_cons_zero, List.set_cons_succ]
  refine seqI_take (v := .pointer (some ⟨B, 3, none⟩)) rfl (fun W9 hW => by clear hW; go_simp) (fun _ _ _ h => h) ?_
  simp only [Act.put, List.setIfInBounds_toArray, List.set_cons_zero, List.set_cons_succ]
  refine seqI_take (v := .int .i64 x3) rfl (fun W9 hW => by obtain ⟨⟨p0, p1, p2, p3⟩, ⟨q0, q1, q2, q3⟩⟩ := HCE.out W9 hW; clear hW; go_simp) (fun _ _ _ h => h) ?_
  simp only [Act.put, List.setIfInBounds_toArray, List.set_cons_zero, List.set_cons_succ]
  refine seqI_take (v := .pointer (some ⟨B + 1, 3, none⟩)) rfl (fun W9 hW => by clear hW; go_simp) (fun _ _ _ h => h) ?_
  simp only [Act.put, List.setIfInBounds_toArray, List.set_cons_zero, List.set_cons_succ]
  refine seqI_take (v := .int .i64 y3) rfl (fun W9 hW => by obtain ⟨⟨p0, p1, p2, p3⟩, ⟨q0, q1, q2, q3⟩⟩ := HCE.out W9 hW; clear hW; go_simp) (fun _ _ _ h => h) ?_
  simp only [Act.put, List.setIfInBounds_toArray, List.set_cons_zero, List.set_cons_succ]
  refine seqI_call _ _ rfl (by go_simp) (H0.out _) ?_
  rintro e w9 ⟨rfl, hw⟩
  replace hw := hw.symm
  subst hw
  refine ⟨_, rfl, Below.refl _ _, ?_⟩
  simp only [Act.put, List.setIfInBounds_toArray, List.set_cons_zero, List.set_cons_succ]
  refine seqI_call _ _ rfl (by go_simp) (H1.out _) ?_
  rintro e w9 ⟨rfl, hw⟩
  replace hw := hw.symm
  subst hw
  refine ⟨_, rfl, Below.refl _ _, ?_⟩
  simp only [Act.put, List.setIfInBounds_toArray, List.set_cons_zero, List.set_cons_succ]
  refine seqI_call _ _ rfl (by go_simp) (H2.out _) ?_
  rintro e w9 ⟨rfl, hw⟩
  replace hw := hw.symm
  subst hw
  refine ⟨_, rfl, Below.refl _ _, ?_⟩
  simp only [Act.put, List.setIfInBounds_toArray, List.set_cons_zero, List.set_cons_succ]
  refine seqI_call _ _ rfl (by go_simp) (H3.out _) ?_
  rintro e w9 ⟨rfl, hw⟩
  replace hw := hw.symm
  subst hw
  refine ⟨_, rfl, Below.refl _ _, ?_⟩
  simp only [Act.put, List.setIfInBounds_toArray, List.set_cons_zero, List.set_cons_succ]
  have hA : Below wd.heap.size wd (wd.alloc (.cells #[.int .i64 r0, .int .i64 r1, .int .i64 r2, .int .i64 r3] 3)) := ext_alloc (Below.refl _ _)
  have HA := Lib.hid hA
  have HL : Hid (Blk (wd.alloc (.cells #[.int .i64 r0, .int .i64 r1, .int .i64 r2, .int .i64 r3] 3)) wd.heap.size [.int .i64 r0, .int .i64 r1, .int .i64 r2, .int .i64 r3] 3) := Blk.new _ _ _
  refine seqI_do rfl (wp_valA (bs_4i _ _ _ 9 14 19 24 r0 r1 r2 r3 rfl rfl rfl rfl rfl) ⟨hA, ?_⟩)
  simp only [Act.put, List.setIfInBounds_toArray, List.set_cons_zero, List.set_cons_succ]
  refine seqI_call _ _ rfl (by go_simp) (or4I_any r0 r1 r2 r3 wd.heap.size _ HL.out.lt (HL.out.cell 0 rfl) (HL.out.cell 1 rfl) (HL.out.cell 2 rfl) (HL.out.cell 3 rfl)) ?_
  rintro e w9 ⟨rfl, hw⟩
  subst hw
  refine ⟨_, rfl, hA, ?_⟩
  simp only [Act.put, List.setIfInBounds_toArray, List.set_cons_zero, List.set_cons_succ]
  refine seqI_take (v := .int .i64 (firstE r0 (firstE r1 (firstE r2 r3)))) rfl (fun W9 hW => by clear hW; go_simp) (fun _ _ _ h => h) ?_
  simp only [Act.put, List.setIfInBounds_toArray, List.set_cons_zero, List.set_cons_succ]
  refine seqI_nil ?_
  have HF := Lib.hid (HGd.out.alloc (.cells #[.int .i64 r0, .int .i64 r1, .int .i64 r2, .int .i64 r3] 3))
  clear hA HA HL HCE HXd HYd HGd
  go_wp2_with fail
  go_ret
  exact ⟨rfl, HF.out⟩
theorem cmpActs_any (x y : Vact) (W : World) : Calls Tryz.prog 38 #[.agg x.cells.toArray, .agg y.cells.toArray] W (CmpP (actCmp x y) W) :=
  cmpActs_core x.at_ x.kind x.long y.at_ y.kind y.long ⟨x.box.toArray⟩ ⟨x.id.toArray⟩ ⟨x.frm.toArray⟩ ⟨y.box.toArray⟩ ⟨y.id.toArray⟩ ⟨y.frm.toArray⟩ _ _ _ _ W (fun W => Tryz.cmp_Compare _ _ W) (fun W => Tryz.strings_Compare ⟨x.box.toArray⟩ ⟨y.box.toArray⟩ W) (fun W => Tryz.strings_Compare ⟨x.id.toArray⟩ ⟨y.id.toArray⟩ W) (fun W => Tryz.cmp_Compare _ _ W)
theorem cmpActs_b (x y : Vact) (W : World) : Calls Tryz.prog 38 #[x.val, y.val] W fun e w' => e = .returned (.int .i64 (actCmp x y)) ∧ Below W.heap.size W w' := (cmpActs_any x y W).mono fun e w' h => ⟨h.1, Grown.below h.2⟩
/-- What ActOrder answers, for whatever numbers. -/
def actOrd (a b : Vact) : Int := if a.at_ ≠ b.at_ then sgnI (IntKind.i64.wrap (a.at_ - b.at_)) else if firstE (Lib.compareBytes a.box b.box) (Lib.compareBytes a.id b.id) ≠ 0 then firstE (Lib.compareBytes a.box b.box) (Lib.compareBytes a.id b.id) else sgnI (IntKind.i64.wrap (a.kind - b.kind))
theorem sgnI_neg (n : Int) : sgnI n < 0 ↔ n < 0 := by unfold sgnI; repeat' split <;> omega
theorem actOrd_neg {a b : Vact} (ha : ActB a) (hb : ActB b) (h : actOrd a b < 0) : a.lt b := by
  obtain ⟨a0, a1, a2, a3, -⟩ := ha
  obtain ⟨b0, b1, b2, b3, -⟩ := hb
  have w1 : IntKind.i64.wrap (a.at_ - b.at_) = a.at_ - b.at_ := IntWalk.i64_in _ (by omega)
  have w2 : IntKind.i64.wrap (a.kind - b.kind) = a.kind - b.kind := IntWalk.i64_in _ (by omega)
  unfold actOrd at h
  rw [w1, w2] at h
  unfold Vact.lt
  by_cases h1 : a.at_ = b.at_
  · rw [if_neg (by simpa using h1)] at h
    by_cases h2 : firstE (Lib.compareBytes a.box b.box) (Lib.compareBytes a.id b.id) = 0
    · rw [if_neg (by simpa using h2), sgnI_neg] at h
      rw [firstE_zero, cmp_zero, cmp_zero] at h2
      exact Or.inr ⟨h1, Or.inr ⟨h2.1, Or.inr ⟨h2.2, by omega⟩⟩⟩
    · rw [if_pos h2, firstE_neg, cmpS_neg, cmp_zero, cmpS_neg] at h
      rcases h with h | ⟨h, k⟩
      · exact Or.inr ⟨h1, Or.inl h⟩
      · exact Or.inr ⟨h1, Or.inr ⟨h, Or.inl k⟩⟩
  · rw [if_pos h1, sgnI_neg] at h
    left; omega
set_option maxRecDepth 100000 in
set_option maxHeartbeats 8000000 in
theorem actOrd_core (x0 x3 x4 y0 y3 y4 : Int) (x1 x2 x5 y1 y2 y5 : ByteArray) (C : Int) (W : World) (hC : ∀ (w : World) g1 g2, w.cell? ⟨g1, 0, none⟩ = some (.string x1) → w.cell? ⟨g1, 1, none⟩ = some (.string x2) → w.cell? ⟨g2, 0, none⟩ = some (.string y1) → w.cell? ⟨g2, 1, none⟩ = some (.string y2) → Calls Tryz.prog 99 #[.slice (some ⟨g1, 0, none⟩) 2 2, .slice (some ⟨g2, 0, none⟩) 2 2] w fun e w' => e = .returned (.int .i64 C) ∧ w' = w) :
    Calls Tryz.prog 82 #[.agg #[.int .i64 x0, .string x1, .string x2, .int .i64 x3, .int .i64 x4, .string x5], .agg #[.int .i64 y0, .string y1, .string y2, .int .i64 y3, .int .i64 y4, .string y5]] W (CmpP (if x0 ≠ y0 then sgnI (IntKind.i64.wrap (x0 - y0)) else if C ≠ 0 then C else sgnI (IntKind.i64.wrap (x3 - y3))) W) := by
  have HCC := Lib.hid hC
  clear hC
  by_cases h0 : x0 = y0
  case neg =>
    have hb0 : (x0 != y0) = true := bne_iff_ne.2 h0
    rw [if_pos h0]
    have HS : Hid (∀ W, Calls Tryz.prog 100 #[.int .i64 (IntKind.i64.wrap (x0 - y0))] W fun e w' => e = .returned (.int .i64 (sgnI (IntKind.i64.wrap (x0 - y0)))) ∧ W = w') := fun W => sign2_any _ W
    obtain ⟨z, hz⟩ : ∃ z, z = IntKind.i64.wrap (x0 - y0) := ⟨_, rfl⟩
    rw [← hz] at HS ⊢
    replace hz := hz.symm
    generalize sgnI z = sz at HS ⊢
    go_enter Tryz.func82, Tryz.ntmps82
    go_upto_region 1 with (fail)
    have HGR : Hid (Grown W ((W.alloc (.cells #[.int .i64 x0, .string x1, .string x2, .int .i64 x3, .int .i64 x4, .string x5] 45)).alloc (.cells #[.int .i64 y0, .string y1, .string y2, .int .i64 y3, .int .i64 y4, .string y5] 45))) := ((Grown.refl W).alloc _).alloc _
    have HX : Hid (Blk ((W.alloc (.cells #[.int .i64 x0, .string x1, .string x2, .int .i64 x3, .int .i64 x4, .string x5] 45)).alloc (.cells #[.int .i64 y0, .string y1, .string y2, .int .i64 y3, .int .i64 y4, .string y5] 45)) W.heap.size [.int .i64 x0, .string x1, .string x2, .int .i64 x3, .int .i64 x4, .string x5] 45) := (Blk.new W [.int .i64 x0, .string x1, .string x2, .int .i64 x3, .int .i64 x4, .string x5] 45).alloc _
    have HY : Hid (Blk ((W.alloc (.cells #[.int .i64 x0, .string x1, .string x2, .int .i64 x3, .int .i64 x4, .string x5] 45)).alloc (.cells #[.int .i64 y0, .string y1, .string y2, .int .i64 y3, .int .i64 y4, .string y5] 45)) (W.alloc (.cells #[.int .i64 x0, .string x1, .string x2, .int .i64 x3, .int .i64 x4, .string x5] 45)).heap.size [.int .i64 y0, .string y1, .string y2, .int .i64 y3, .int .i64 y4, .string y5] 45) := Blk.new _ _ _
    have hsz : (W.alloc (.cells #[.int .i64 x0, .string x1, .string x2, .int .i64 x3, .int .i64 x4, .string x5] 45)).heap.size = W.heap.size + 1 := by simp
    rw [hsz] at HY
    clear hsz
    generalize ((W.alloc (.cells #[.int .i64 x0, .string x1, .string x2, .int .i64 x3, .int .i64 x4, .string x5] 45)).alloc (.cells #[.int .i64 y0, .string y1, .string y2, .int .i64 y3, .int .i64 y4, .string y5] 45)) = w1 at HGR HX HY ⊢
    generalize W.heap.size = B at HX HY ⊢
    have p0 := HX.out.cell 0 rfl
    have q0 := HY.out.cell 0 rfl
    go_wp2_with fail
    refine (HS.out _).mono ?_
    rintro e w' ⟨rfl, rfl⟩
    go_wp2_with fail
    go_ret
    exact ⟨rfl, HGR.out⟩
  subst h0
  rw [if_neg (by simp)]
  by_cases hC0 : C = 0
  case neg =>
    have hbC : (C != 0) = true := bne_iff_ne.2 hC0
    rw [if_pos hC0]
    go_enter Tryz.func82, Tryz.ntmps82
    go_upto_region 1 with (fail)
    have HGR : Hid (Grown W ((W.alloc (.cells #[.int .i64 x0, .string x1, .string x2, .int .i64 x3, .int .i64 x4, .string x5] 45)).alloc (.cells #[.int .i64 x0, .string y1, .string y2, .int .i64 y3, .int .i64 y4, .string y5] 45))) := ((Grown.refl W).alloc _).alloc _
    have HX : Hid (Blk ((W.alloc (.cells #[.int .i64 x0, .string x1, .string x2, .int .i64 x3, .int .i64 x4, .string x5] 45)).alloc (.cells #[.int .i64 x0, .string y1, .string y2, .int .i64 y3, .int .i64 y4, .string y5] 45)) W.heap.size [.int .i64 x0, .string x1, .string x2, .int .i64 x3, .int .i64 x4, .string x5] 45) := (Blk.new W [.int .i64 x0, .string x1, .string x2, .int .i64 x3, .int .i64 x4, .string x5] 45).alloc _
    have HY : Hid (Blk ((W.alloc (.cells #[.int .i64 x0, .string x1, .string x2, .int .i64 x3, .int .i64 x4, .string x5] 45)).alloc (.cells #[.int .i64 x0, .string y1, .string y2, .int .i64 y3, .int .i64 y4, .string y5] 45)) (W.alloc (.cells #[.int .i64 x0, .string x1, .string x2, .int .i64 x3, .int .i64 x4, .string x5] 45)).heap.size [.int .i64 x0, .string y1, .string y2, .int .i64 y3, .int .i64 y4, .string y5] 45) := Blk.new _ _ _
    have hsz : (W.alloc (.cells #[.int .i64 x0, .string x1, .string x2, .int .i64 x3, .int .i64 x4, .string x5] 45)).heap.size = W.heap.size + 1 := by simp
    rw [hsz] at HY
    clear hsz
    generalize ((W.alloc (.cells #[.int .i64 x0, .string x1, .string x2, .int .i64 x3, .int .i64 x4, .string x5] 45)).alloc (.cells #[.int .i64 x0, .string y1, .string y2, .int .i64 y3, .int .i64 y4, .string y5] 45)) = w1 at HGR HX HY ⊢
    generalize W.heap.size = B at HX HY ⊢
    have p0 := HX.out.cell 0 rfl
    have p1 := HX.out.cell 1 rfl
    have p2 := HX.out.cell 2 rfl
    have q0 := HY.out.cell 0 rfl
    have q1 := HY.out.cell 1 rfl
    have q2 := HY.out.cell 2 rfl
    have HG3 : Hid (Grown W ((w1.alloc (.cells #[.string x1, .string x2] 9)).alloc (.cells #[.string y1, .string y2] 9))) := (HGR.out.alloc _).alloc _
    have HX3 : Hid (Blk ((w1.alloc (.cells #[.string x1, .string x2] 9)).alloc (.cells #[.string y1, .string y2] 9)) B [.int .i64 x0, .string x1, .string x2, .int .i64 x3, .int .i64 x4, .string x5] 45) := (HX.out.alloc _).alloc _
    have HY3 : Hid (Blk ((w1.alloc (.cells #[.string x1, .string x2] 9)).alloc (.cells #[.string y1, .string y2] 9)) (B + 1) [.int .i64 x0, .string y1, .string y2, .int .i64 y3, .int .i64 y4, .string y5] 45) := (HY.out.alloc _).alloc _
    have HL1 : Hid (Blk ((w1.alloc (.cells #[.string x1, .string x2] 9)).alloc (.cells #[.string y1, .string y2] 9)) w1.heap.size [.string x1, .string x2] 9) := (Blk.new w1 [.string x1, .string x2] 9).alloc _
    have HL2 : Hid (Blk ((w1.alloc (.cells #[.string x1, .string x2] 9)).alloc (.cells #[.string y1, .string y2] 9)) (w1.heap.size + 1) [.string y1, .string y2] 9) := by
      have := Blk.new (w1.alloc (.cells #[.string x1, .string x2] 9)) [.string y1, .string y2] 9
      rw [show (w1.alloc (.cells #[.string x1, .string x2] 9)).heap.size = w1.heap.size + 1 by simp] at this
      exact this
    have hbx : B < w1.heap.size := HX.out.lt
    have hby : B + 1 < w1.heap.size := HY.out.lt
    clear HGR
    as_aux_lemma =>
      go_wp2_with fail
      clear p0 p1 p2 q0 q1 q2 hbx hby HX HY
      generalize ((w1.alloc (.cells #[.string x1, .string x2] 9)).alloc (.cells #[.string y1, .string y2] 9)) = w3 at HG3 HX3 HY3 HL1 HL2 ⊢
      refine (HCC.out _ _ _ (HL1.out.cell 0 rfl) (HL1.out.cell 1 rfl) (HL2.out.cell 0 rfl) (HL2.out.cell 1 rfl)).mono ?_
      rintro e w4 ⟨rfl, hw⟩
      replace hw := hw.symm
      subst hw
      have p3 := HX3.out.cell 3 rfl
      have q3 := HY3.out.cell 3 rfl
      clear HX3 HY3 HL1 HL2
      go_wp2_with fail
      go_ret
      exact ⟨rfl, HG3.out⟩
  subst hC0
  rw [if_neg (by simp)]
  have HS : Hid (∀ W, Calls Tryz.prog 100 #[.int .i64 (IntKind.i64.wrap (x3 - y3))] W fun e w' => e = .returned (.int .i64 (sgnI (IntKind.i64.wrap (x3 - y3)))) ∧ W = w') := fun W => sign2_any _ W
  obtain ⟨z, hz⟩ : ∃ z, z = IntKind.i64.wrap (x3 - y3) := ⟨_, rfl⟩
  rw [← hz] at HS ⊢
  replace hz := hz.symm
  generalize sgnI z = sz at HS ⊢
  go_enter Tryz.func82, Tryz.ntmps82
  go_upto_region 1 with (fail)
  have HGR : Hid (Grown W ((W.alloc (.cells #[.int .i64 x0, .string x1, .string x2, .int .i64 x3, .int .i64 x4, .string x5] 45)).alloc (.cells #[.int .i64 x0, .string y1, .string y2, .int .i64 y3, .int .i64 y4, .string y5] 45))) := ((Grown.refl W).alloc _).alloc _
  have HX : Hid (Blk ((W.alloc (.cells #[.int .i64 x0, .string x1, .string x2, .int .i64 x3, .int .i64 x4, .string x5] 45)).alloc (.cells #[.int .i64 x0, .string y1, .string y2, .int .i64 y3, .int .i64 y4, .string y5] 45)) W.heap.size [.int .i64 x0, .string x1, .string x2, .int .i64 x3, .int .i64 x4, .string x5] 45) := (Blk.new W [.int .i64 x0, .string x1, .string x2, .int .i64 x3, .int .i64 x4, .string x5] 45).alloc _
  have HY : Hid (Blk ((W.alloc (.cells #[.int .i64 x0, .string x1, .string x2, .int .i64 x3, .int .i64 x4, .string x5] 45)).alloc (.cells #[.int .i64 x0, .string y1, .string y2, .int .i64 y3, .int .i64 y4, .string y5] 45)) (W.alloc (.cells #[.int .i64 x0, .string x1, .string x2, .int .i64 x3, .int .i64 x4, .string x5] 45)).heap.size [.int .i64 x0, .string y1, .string y2, .int .i64 y3, .int .i64 y4, .string y5] 45) := Blk.new _ _ _
  have hsz : (W.alloc (.cells #[.int .i64 x0, .string x1, .string x2, .int .i64 x3, .int .i64 x4, .string x5] 45)).heap.size = W.heap.size + 1 := by simp
  rw [hsz] at HY
  clear hsz
  generalize ((W.alloc (.cells #[.int .i64 x0, .string x1, .string x2, .int .i64 x3, .int .i64 x4, .string x5] 45)).alloc (.cells #[.int .i64 x0, .string y1, .string y2, .int .i64 y3, .int .i64 y4, .string y5] 45)) = w1 at HGR HX HY ⊢
  generalize W.heap.size = B at HX HY ⊢
  have p0 := HX.out.cell 0 rfl
  have p1 := HX.out.cell 1 rfl
  have p2 := HX.out.cell 2 rfl
  have q0 := HY.out.cell 0 rfl
  have q1 := HY.out.cell 1 rfl
  have q2 := HY.out.cell 2 rfl
  have HG3 : Hid (Grown W ((w1.alloc (.cells #[.string x1, .string x2] 9)).alloc (.cells #[.string y1, .string y2] 9))) := (HGR.out.alloc _).alloc _
  have HX3 : Hid (Blk ((w1.alloc (.cells #[.string x1, .string x2] 9)).alloc (.cells #[.string y1, .string y2] 9)) B [.int .i64 x0, .string x1, .string x2, .int .i64 x3, .int .i64 x4, .string x5] 45) := (HX.out.alloc _).alloc _
  have HY3 : Hid (Blk ((w1.alloc (.cells #[.string x1, .string x2] 9)).alloc (.cells #[.string y1, .string y2] 9)) (B + 1) [.int .i64 x0, .string y1, .string y2, .int .i64 y3, .int .i64 y4, .string y5] 45) := (HY.out.alloc _).alloc _
  have HL1 : Hid (Blk ((w1.alloc (.cells #[.string x1, .string x2] 9)).alloc (.cells #[.string y1, .string y2] 9)) w1.heap.size [.string x1, .string x2] 9) := (Blk.new w1 [.string x1, .string x2] 9).alloc _
  have HL2 : Hid (Blk ((w1.alloc (.cells #[.string x1, .string x2] 9)).alloc (.cells #[.string y1, .string y2] 9)) (w1.heap.size + 1) [.string y1, .string y2] 9) := by
    have := Blk.new (w1.alloc (.cells #[.string x1, .string x2] 9)) [.string y1, .string y2] 9
    rw [show (w1.alloc (.cells #[.string x1, .string x2] 9)).heap.size = w1.heap.size + 1 by simp] at this
    exact this
  have hbx : B < w1.heap.size := HX.out.lt
  have hby : B + 1 < w1.heap.size := HY.out.lt
  clear HGR
  as_aux_lemma =>
    go_wp2_with fail
    clear p0 p1 p2 q0 q1 q2 hbx hby HX HY
    generalize ((w1.alloc (.cells #[.string x1, .string x2] 9)).alloc (.cells #[.string y1, .string y2] 9)) = w3 at HG3 HX3 HY3 HL1 HL2 ⊢
    refine (HCC.out _ _ _ (HL1.out.cell 0 rfl) (HL1.out.cell 1 rfl) (HL2.out.cell 0 rfl) (HL2.out.cell 1 rfl)).mono ?_
    rintro e w4 ⟨rfl, hw⟩
    replace hw := hw.symm
    subst hw
    have p3 := HX3.out.cell 3 rfl
    have q3 := HY3.out.cell 3 rfl
    clear HX3 HY3 HL1 HL2
    go_wp2_with fail
    refine (HS.out _).mono ?_
    rintro e w' ⟨rfl, rfl⟩
    go_wp2_with fail
    go_ret
    exact ⟨rfl, HG3.out⟩
theorem actOrd_any (x y : Vact) (W : World) : Calls Tryz.prog 82 #[.agg x.cells.toArray, .agg y.cells.toArray] W (CmpP (actOrd x y) W) :=
  actOrd_core x.at_ x.kind x.long y.at_ y.kind y.long ⟨x.box.toArray⟩ ⟨x.id.toArray⟩ ⟨x.frm.toArray⟩ ⟨y.box.toArray⟩ ⟨y.id.toArray⟩ ⟨y.frm.toArray⟩ _ W (fun w g1 g2 h1 h2 h3 h4 => pairCmp_any g1 g2 x.box x.id y.box y.id w h1 h2 h3 h4)
set_option maxRecDepth 100000 in
set_option maxHeartbeats 4000000 in
theorem actSame_any (x y : Vact) (W : World) : Calls Tryz.prog 84 #[x.val, y.val] W (BoolP (actOrd x y == 0) W) := by
  have HO : Hid (∀ W, Calls Tryz.prog 82 #[.agg #[.int .i64 x.at_, .string ⟨x.box.toArray⟩, .string ⟨x.id.toArray⟩, .int .i64 x.kind, .int .i64 x.long, .string ⟨x.frm.toArray⟩], .agg #[.int .i64 y.at_, .string ⟨y.box.toArray⟩, .string ⟨y.id.toArray⟩, .int .i64 y.kind, .int .i64 y.long, .string ⟨y.frm.toArray⟩]] W (CmpP (actOrd x y) W)) := fun W => actOrd_any x y W
  show Calls Tryz.prog 84 #[.agg #[.int .i64 x.at_, .string ⟨x.box.toArray⟩, .string ⟨x.id.toArray⟩, .int .i64 x.kind, .int .i64 x.long, .string ⟨x.frm.toArray⟩], .agg #[.int .i64 y.at_, .string ⟨y.box.toArray⟩, .string ⟨y.id.toArray⟩, .int .i64 y.kind, .int .i64 y.long, .string ⟨y.frm.toArray⟩]] W _
  generalize actOrd x y = r at HO ⊢
  generalize x.at_ = x0 at HO ⊢
  generalize (⟨x.box.toArray⟩ : ByteArray) = x1 at HO ⊢
  generalize (⟨x.id.toArray⟩ : ByteArray) = x2 at HO ⊢
  generalize x.kind = x3 at HO ⊢
  generalize x.long = x4 at HO ⊢
  generalize (⟨x.frm.toArray⟩ : ByteArray) = x5 at HO ⊢
  generalize y.at_ = y0 at HO ⊢
  generalize (⟨y.box.toArray⟩ : ByteArray) = y1 at HO ⊢
  generalize (⟨y.id.toArray⟩ : ByteArray) = y2 at HO ⊢
  generalize y.kind = y3 at HO ⊢
  generalize y.long = y4 at HO ⊢
  generalize (⟨y.frm.toArray⟩ : ByteArray) = y5 at HO ⊢
  go_enter Tryz.func84, Tryz.ntmps84
  go_upto_region 1 with (fail)
  have HGR : Hid (Grown W ((W.alloc (.cells #[.int .i64 x0, .string x1, .string x2, .int .i64 x3, .int .i64 x4, .string x5] 45)).alloc (.cells #[.int .i64 y0, .string y1, .string y2, .int .i64 y3, .int .i64 y4, .string y5] 45))) := ((Grown.refl W).alloc _).alloc _
  have HX : Hid (Blk ((W.alloc (.cells #[.int .i64 x0, .string x1, .string x2, .int .i64 x3, .int .i64 x4, .string x5] 45)).alloc (.cells #[.int .i64 y0, .string y1, .string y2, .int .i64 y3, .int .i64 y4, .string y5] 45)) W.heap.size [.int .i64 x0, .string x1, .string x2, .int .i64 x3, .int .i64 x4, .string x5] 45) := (Blk.new W [.int .i64 x0, .string x1, .string x2, .int .i64 x3, .int .i64 x4, .string x5] 45).alloc _
  have HY : Hid (Blk ((W.alloc (.cells #[.int .i64 x0, .string x1, .string x2, .int .i64 x3, .int .i64 x4, .string x5] 45)).alloc (.cells #[.int .i64 y0, .string y1, .string y2, .int .i64 y3, .int .i64 y4, .string y5] 45)) (W.alloc (.cells #[.int .i64 x0, .string x1, .string x2, .int .i64 x3, .int .i64 x4, .string x5] 45)).heap.size [.int .i64 y0, .string y1, .string y2, .int .i64 y3, .int .i64 y4, .string y5] 45) := Blk.new _ _ _
  have hsz : (W.alloc (.cells #[.int .i64 x0, .string x1, .string x2, .int .i64 x3, .int .i64 x4, .string x5] 45)).heap.size = W.heap.size + 1 := by simp
  rw [hsz] at HY
  clear hsz
  generalize ((W.alloc (.cells #[.int .i64 x0, .string x1, .string x2, .int .i64 x3, .int .i64 x4, .string x5] 45)).alloc (.cells #[.int .i64 y0, .string y1, .string y2, .int .i64 y3, .int .i64 y4, .string y5] 45)) = w1 at HGR HX HY ⊢
  generalize W.heap.size = B at HX HY ⊢
  have HRX : Hid (w1.rangeAt B 0 [.int .i64 x0, .string x1, .string x2, .int .i64 x3, .int .i64 x4, .string x5]) := fun j v hj => by rw [Nat.zero_add]; exact HX.out.cell j hj
  have HRY : Hid (w1.rangeAt (B + 1) 0 [.int .i64 y0, .string y1, .string y2, .int .i64 y3, .int .i64 y4, .string y5]) := fun j v hj => by rw [Nat.zero_add]; exact HY.out.cell j hj
  clear HX HY
  go_wp2_with (first | (refine wpList_load_mid rfl 45 (.tmp 2) rfl B 0 rfl [.int .i64 x0, .string x1, .string x2, .int .i64 x3, .int .i64 x4, .string x5] _ HRX.out Tryz.underlying45 rfl Tryz.actSz ?_) | (refine wpList_load_mid rfl 45 (.tmp 3) rfl (B + 1) 0 rfl [.int .i64 y0, .string y1, .string y2, .int .i64 y3, .int .i64 y4, .string y5] _ HRY.out Tryz.underlying45 rfl Tryz.actSz ?_))
  refine (HO.out _).mono ?_
  rintro e w2 ⟨rfl, hg⟩
  have HB : Hid (Below W.heap.size W w2) := (HGR.out.trans hg).below
  clear hg
  go_wp2_with fail
  go_ret
  exact ⟨rfl, HB.out⟩
end Go.Proofs.YtamoclofloijpaaGreatDoor

set_option linter.unusedVariables false
set_option linter.unusedSimpArgs false
namespace Go.Proofs.YtamoclofloijpaaGreatDoor
open Go.RowKit Go.Sort Go.Lib

theorem swp_mem {α : Type} [Inhabited α] {d : Array α} {i j : Nat} (hi : i < d.size) (hj : j < d.size) {x : α} (h : x ∈ swp d i j) : x ∈ d := by
  unfold swp at h
  have e : ∀ k, k < d.size → d[k]! ∈ d := fun k hk => by rw [getElem!_pos d k hk]; exact Array.getElem_mem hk
  rcases Array.mem_or_eq_of_mem_setIfInBounds h with h | h
  · rcases Array.mem_or_eq_of_mem_setIfInBounds h with h | h
    · exact h
    · rw [h]; exact e _ hj
  · rw [h]; exact e _ hi
theorem insInner_mem {α : Type} [Inhabited α] (lt : α → α → Bool) (a : Nat) : ∀ (j : Nat) (d : Array α), j < d.size → (insInner lt a j d).size = d.size ∧ ∀ x, x ∈ insInner lt a j d → x ∈ d
  | 0, d, _ => ⟨rfl, fun x h => h⟩
  | j + 1, d, hj => by
    unfold insInner
    split
    · have hs : (swp d (j + 1) j).size = d.size := by unfold swp; simp
      have ih := insInner_mem lt a j (swp d (j + 1) j) (by omega)
      exact ⟨ih.1.trans hs, fun x h => swp_mem hj (by omega) (ih.2 x h)⟩
    · exact ⟨rfl, fun x h => h⟩
theorem insOuter_mem {α : Type} [Inhabited α] (lt : α → α → Bool) (a b : Nat) : ∀ (n i : Nat) (d : Array α), b - i = n → b ≤ d.size → ∀ x, x ∈ insOuter lt a b i d → x ∈ d
  | 0, i, d, hn, hb => fun x h => by
    unfold insOuter at h
    rw [if_neg (by omega)] at h
    exact h
  | n + 1, i, d, hn, hb => fun x h => by
    unfold insOuter at h
    rw [if_pos (by omega)] at h
    have h1 := insInner_mem lt a i d (by omega)
    exact h1.2 x (insOuter_mem lt a b n (i + 1) _ (by omega) (by omega) x h)
theorem insL_mem {α : Type} [Inhabited α] (lt : α → α → Bool) (l : List α) {x : α} (h : x ∈ insL lt l) : x ∈ l := by
  have h2 : x ∈ insertionSort lt l.toArray 0 l.length := by rw [insL_arr]; simpa using h
  unfold insertionSort at h2
  have := insOuter_mem lt 0 l.length _ _ l.toArray rfl (by simp) x h2
  simpa using this
end Go.Proofs.YtamoclofloijpaaGreatDoor

set_option linter.unusedVariables false
set_option linter.unusedSimpArgs false
namespace Go.Proofs.YtamoclofloijpaaGreatDoor
open Go.RowKit Go.Sort Go.Lib

theorem sortK_blockA {α : Type} [Inhabited α] (enc : α → List Value) (k : Nat) (w : World) (g q K : Nat) (d : Array α) (os : Array Obj) (hK : K < w.heap.size) (hne : K ≠ g) : (sortWorldK enc k w g 0 q d os).heap[K]? = w.heap[K]? := by
  unfold sortWorldK grow putRowK putRow mapBlock Sort.ahead
  rw [Array.getElem?_append_left (by simp; omega)]
  simp [Array.getElem?_modify, Ne.symm hne]
theorem gb_sortKA {α : Type} [Inhabited α] (enc : α → List Value) (k : Nat) (w : World) (g q : Nat) (d : Array α) (os : Array Obj) : w.grownBy (sortWorldK enc k w g 0 q d os) (some g) := by
  have h := below_sortK enc k os (q := q) (d := d) (Below.refl 0 w) (Nat.zero_le g) (Nat.zero_le _)
  exact ⟨h.os, h.tape, h.output, h.size, fun j hj hn => sortK_blockA enc k w g q j d os hj (fun e => hn (by rw [e]))⟩
def stAPost (base : Nat) (v : Value) (l : List Vact) (w : World) (e : Ending) (w' : World) : Prop := e = .returned (.tuple #[]) ∧ VactRow w' base v l ∧ w.grownBy w' v.ownBlock
theorem stA_lays (blk size : Nat) (w : World) : CmpLays Tryz.prog 82 #[] Vact.cells 6 actOrd blk 0 size w := fun m os dk _ x y => actOrd_any x y _
/-- Nothing is sorted. -/
theorem stA_nil (c : Nat) (a : Option Addr) (fv : Value) (w : World) : Calls Tryz.prog 140 #[.slice a 0 c, .int .i64 0, .int .i64 0, fv] w fun e w' => e = .returned (.tuple #[]) ∧ w = w' := by
  go_enter Tryz.func140, Tryz.ntmps140
  go_wp2_with fail
  go_loopw [8] (fun i wr => i = .int .i64 1 ∧ wr = w) (fun _ _ => 0)
  case atStart => exact ⟨rfl, rfl⟩
  case round =>
    obtain ⟨rfl, rfl⟩ := hrel
    go_wp2_with fail
    go_end0
    exact ⟨rfl, rfl⟩
theorem stA_any (w : World) (base : Nat) (v : Value) (l : List Vact) (h : VactRow w base v l) (hl : l.length ≤ 12) : Calls Tryz.prog 81 #[v, .func (.func 82) #[] #[]] w (stAPost base v (insL (ltOf actOrd) l) w) := by
  unfold VactRow at h
  obtain ⟨a, c, rfl⟩ := own_shape h
  have HINS : Hid (Calls Tryz.prog 140 #[.slice a l.length c, .int .i64 0, .int .i64 l.length, .func (.func 82) #[] #[]] w (stAPost base (.slice a l.length c) (insL (ltOf actOrd) l) w)) := by
    show Calls _ _ _ _ _
    by_cases h0 : l.length = 0
    · have hx : l = [] := List.eq_nil_of_length_eq_zero h0
      subst hx
      have e1 : insL (ltOf actOrd) ([] : List Vact) = [] := by unfold insL insertionSort insOuter; simp
      rw [e1]
      refine (stA_nil c a _ w).mono ?_
      rintro e w' ⟨rfl, rfl⟩
      exact ⟨rfl, h, gb_of_below (Below.refl _ _)⟩
    · obtain ⟨g, rfl, hg1, hg2⟩ := own_pos h (by omega)
      have hcon := Tryz.slices_insVact Vact.cells (fun _ => rfl) act_one actOrd 82 #[] g 0 c 0 l.length l.toArray w (enters_of Tryz.func82 (by kernel_rfl) rfl) (stA_lays g _ w) (holdsK_own Vact.cells (fun _ => rfl) (by omega) h) hg2 (Nat.zero_le _) (by simp) (by simp; omega)
      refine Calls.mono hcon ?_
      rintro e w' ⟨rfl, q, os, rfl⟩
      rw [insL_arr]
      refine ⟨rfl, ?_, gb_sortKA Vact.cells 6 w g q _ os⟩
      unfold VactRow
      rw [insL_len]
      exact own_putK Vact.cells (fun _ => rfl) (by omega) h (insL_len _ _) q os
  have hl12 := hl
  clear h
  have HPR : Hid (∀ e W2, stAPost base (.slice a l.length c) (insL (ltOf actOrd) l) w e W2 → e = .returned (.tuple #[]) ∧ Hid (stAPost base (.slice a l.length c) (insL (ltOf actOrd) l) w (.returned (.tuple #[])) W2)) := fun e W2 h => ⟨h.1, by obtain ⟨rfl, h2⟩ := h; exact ⟨rfl, h2⟩⟩
  generalize hPP : stAPost base (.slice a l.length c) (insL (ltOf actOrd) l) w = PP at HINS HPR ⊢
  clear hPP
  generalize l.length = n at HINS hl12 ⊢
  clear hl
  have HSTB : Hid (Calls Tryz.prog 138 #[.slice a n c, .int .i64 n, .func (.func 82) #[] #[]] w fun e w' => e = .returned (.tuple #[]) ∧ PP (.returned (.tuple #[])) w') := by
    show Calls _ _ _ _ _
    have q1 : ¬ ((20 : Int) ≤ (n : Int)) := by omega
    have q2 : ¬ ((20 : Int) < (n : Int)) := by omega
    go_enter Tryz.func138, Tryz.ntmps138
    go_wp2_with fail
    go_loopw [7, 8] (fun a b wr => a = .int .i64 0 ∧ b = .int .i64 20 ∧ wr = w) (fun _ _ _ => 0)
    case atStart => exact ⟨rfl, rfl, rfl⟩
    case round =>
      obtain ⟨rfl, rfl, rfl⟩ := hrel
      go_wp2_with fail
      refine HINS.out.mono ?_
      rintro e W2 hp
      obtain ⟨rfl, HPW⟩ : e = .returned (.tuple #[]) ∧ Hid (PP (.returned (.tuple #[])) W2) := HPR.out e W2 hp
      go_wp2_with fail
      go_loopw [6] (fun a wr => a = .int .i64 20 ∧ wr = W2) (fun _ _ => 0)
      case atStart => exact ⟨rfl, rfl⟩
      case round =>
        obtain ⟨rfl, rfl⟩ := hrel
        go_wp2_with fail
        go_end0
        exact ⟨rfl, HPW.out⟩
  clear HINS
  go_enter Tryz.func81, Tryz.ntmps81
  go_wp2_with fail
  refine HSTB.out.mono ?_
  rintro e w' ⟨rfl, hp⟩
  have HP := Lib.hid hp
  clear hp
  go_wp2_with fail
  go_end0
  exact HP.out
theorem sfA_lays (blk size : Nat) (w : World) : CmpLays Tryz.prog 38 #[] Vact.cells 6 actCmp blk 0 size w := fun m os dk _ x y => cmpActs_any x y _
theorem sfA_pdq (c : Nat) (a : Option Addr) (lim : Int) (fv : Value) (w : World) : Calls Tryz.prog 88 #[.slice a 0 c, .int .i64 0, .int .i64 0, .int .i64 lim, fv] w fun e w' => e = .returned (.tuple #[]) ∧ w = w' := by
  go_enter Tryz.func88, Tryz.ntmps88
  go_wp2_with fail
  go_loopw [1, 2] (fun x1 x2 wr => x1 = .int .i64 0 ∧ x2 = .int .i64 0 ∧ wr = w) (fun _ _ _ => 0)
  case atStart => exact ⟨rfl, rfl, rfl⟩
  case round =>
    obtain ⟨rfl, rfl, rfl⟩ := hrel
    go_wp2_with fail
    refine (stA_nil c a fv _).mono ?_
    rintro e w' ⟨rfl, rfl⟩
    go_wp2_with fail
    refine bodyPost_ret (results_none rfl _ _ _) rfl ?_
    exact ⟨rfl, rfl⟩
theorem sfA_any (w : World) (base : Nat) (v : Value) (l : List Vact) (h : VactRow w base v l) (hl : l.length ≤ 12) : Calls Tryz.prog 39 #[v, .func (.func 38) #[] #[]] w (stAPost base v (insL (ltOf actCmp) l) w) := by
  unfold VactRow at h
  obtain ⟨a, c, rfl⟩ := own_shape h
  by_cases h0 : l.length = 0
  · have hx : l = [] := List.eq_nil_of_length_eq_zero h0
    subst hx
    have e1 : insL (ltOf actCmp) ([] : List Vact) = [] := by unfold insL insertionSort insOuter; simp
    rw [e1]
    have HP : Hid (VactRow w base (.slice a 0 c) []) := h
    show Calls Tryz.prog 39 #[.slice a 0 c, .func (.func 38) #[] #[]] w _
    clear h h0 e1
    go_enter Tryz.func39, Tryz.ntmps39
    go_wp2_with fail
    refine (Tryz.bits_Len 0 _ (by omega) (by omega)).mono ?_
    rintro e w' ⟨rfl, rfl⟩
    go_wp2_with fail
    refine (sfA_pdq c a _ _ _).mono ?_
    rintro e w' ⟨rfl, rfl⟩
    go_wp2_with fail
    go_end0
    exact ⟨rfl, HP.out, gb_of_below (Below.refl _ _)⟩
  · obtain ⟨g, rfl, hg1, hg2⟩ := own_pos h (by omega)
    have hcon := Tryz.slices_sortVact Vact.cells (fun _ => rfl) act_one actCmp 38 #[] g 0 c l.toArray w (enters_of Tryz.func38 (by kernel_rfl) rfl) (sfA_lays g _ w) (holdsK_own Vact.cells (fun _ => rfl) (by omega) h) hg2 (by simpa using hl) (fun n W hn => (Tryz.bits_Len n W (by omega) (by omega)).mono (fun e w' ⟨h1, h2⟩ => ⟨⟨_, h1⟩, h2⟩))
    refine Calls.mono hcon ?_
    rintro e w' ⟨rfl, q, os, rfl⟩
    have e2 : l.toArray.size = l.length := by simp
    rw [e2, insL_arr]
    refine ⟨rfl, ?_, gb_sortKA Vact.cells 6 w g q _ os⟩
    unfold VactRow
    rw [insL_len]
    exact own_putK Vact.cells (fun _ => rfl) (by omega) h (insL_len _ _) q os
end Go.Proofs.YtamoclofloijpaaGreatDoor

set_option linter.unusedVariables false
set_option linter.unusedSimpArgs false
namespace Go.Proofs.YtamoclofloijpaaGreatDoor
open Go.RowKit Go.Sort Go.Lib

def bsAPost (l : List Vact) (y : Vact) (w : World) (e : Ending) (w' : World) : Prop := ∃ (i : Nat) (f : Bool), e = .returned (.tuple #[.int .i64 i, .bool f]) ∧ (f = true → i < l.length ∧ actCmp (l.getD i default) y = 0) ∧ (f = false → ∀ m, m < l.length → actCmp (l.getD m default) y ≠ 0) ∧ Below w.heap.size w w'
set_option maxRecDepth 100000 in
set_option maxHeartbeats 8000000 in
theorem bsA_any (w : World) (base : Nat) (v : Value) (l : List Vact) (h : VactRow w base v l) (hl : l.length ≤ 1000000) (y : Vact) (hm : ∀ m1 m2, m1 < m2 → m2 < l.length → actCmp (l.getD m2 default) y ≤ 0 → actCmp (l.getD m1 default) y < 0) :
    Calls Tryz.prog 37 #[v, y.val, .func (.func 38) #[] #[]] w (bsAPost l y w) := by
  unfold VactRow at h
  obtain ⟨a, cap, rfl⟩ := own_shape h
  have HO := Lib.hid h
  have HM := Lib.hid hm
  have HY : Hid (∀ (x : Vact) W, Calls Tryz.prog 38 #[x.val, y.val] W fun e w' => e = .returned (.int .i64 (actCmp x y)) ∧ Below W.heap.size W w') := fun x W => cmpActs_b x y W
  show Calls Tryz.prog 37 #[.slice a l.length cap, .agg #[.int .i64 y.at_, .string ⟨y.box.toArray⟩, .string ⟨y.id.toArray⟩, .int .i64 y.kind, .int .i64 y.long, .string ⟨y.frm.toArray⟩], .func (.func 38) #[] #[]] w _
  have HY2 : Hid (∀ (x : Vact) W, Calls Tryz.prog 38 #[.agg #[.int .i64 x.at_, .string ⟨x.box.toArray⟩, .string ⟨x.id.toArray⟩, .int .i64 x.kind, .int .i64 x.long, .string ⟨x.frm.toArray⟩], .agg #[.int .i64 y.at_, .string ⟨y.box.toArray⟩, .string ⟨y.id.toArray⟩, .int .i64 y.kind, .int .i64 y.long, .string ⟨y.frm.toArray⟩]] W fun e w' => e = .returned (.int .i64 (actCmp x y)) ∧ Below W.heap.size W w') := HY.out
  clear HY
  have HY := HY2
  clear HY2 h hm
  obtain ⟨y0, hy0⟩ : ∃ z, z = y.at_ := ⟨_, rfl⟩
  rw [← hy0] at HY ⊢
  clear hy0
  generalize (⟨y.box.toArray⟩ : ByteArray) = y1 at HY ⊢
  generalize (⟨y.id.toArray⟩ : ByteArray) = y2 at HY ⊢
  obtain ⟨y3, hy3⟩ : ∃ z, z = y.kind := ⟨_, rfl⟩
  rw [← hy3] at HY ⊢
  clear hy3
  obtain ⟨y4, hy4⟩ : ∃ z, z = y.long := ⟨_, rfl⟩
  rw [← hy4] at HY ⊢
  clear hy4
  generalize (⟨y.frm.toArray⟩ : ByteArray) = y5 at HY ⊢
  obtain ⟨n, hn⟩ : ∃ n, n = l.length := ⟨_, rfl⟩
  have HN := Lib.hid hn
  rw [← hn] at HO hl ⊢
  clear hn
  have YB0 : Hid (Blk (w.alloc (.cells #[.int .i64 y0, .string y1, .string y2, .int .i64 y3, .int .i64 y4, .string y5] 45)) w.heap.size [.int .i64 y0, .string y1, .string y2, .int .i64 y3, .int .i64 y4, .string y5] 45) := Blk.new _ _ _
  have HB0 : Hid (Below w.heap.size w (w.alloc (.cells #[.int .i64 y0, .string y1, .string y2, .int .i64 y3, .int .i64 y4, .string y5] 45))) := ext_alloc (Below.refl _ _)
  go_enter Tryz.func37, Tryz.ntmps37
  go_upto_region 1 with (fail)
  generalize (w.alloc (.cells #[.int .i64 y0, .string y1, .string y2, .int .i64 y3, .int .i64 y4, .string y5] 45)) = w0 at YB0 HB0 ⊢
  obtain ⟨Y, hYY⟩ : ∃ Y, Y = w.heap.size := ⟨_, rfl⟩
  have HYY := Lib.hid hYY
  rw [← hYY] at YB0 ⊢
  clear hYY
  go_wp2_with fail
  go_loopw [9, 10] (fun s9 s10 wr => ∃ i j : Nat, i ≤ j ∧ j ≤ n ∧ s9 = .int .i64 i ∧ s10 = .int .i64 j ∧ Hid (Below w.heap.size w wr) ∧ Hid (Blk wr Y [.int .i64 y0, .string y1, .string y2, .int .i64 y3, .int .i64 y4, .string y5] 45) ∧ Hid (∀ m, m < i → actCmp (l.getD m default) y < 0) ∧ Hid (∀ m, j ≤ m → m < n → 0 ≤ actCmp (l.getD m default) y)) (fun s9 s10 _ => (intOf s10).toNat - (intOf s9).toNat)
  case atStart => exact ⟨0, n, Nat.zero_le _, Nat.le_refl _, rfl, rfl, HB0.out, YB0.out, fun m hm => absurd hm (by omega), fun m h1 h2 => absurd h1 (by omega)⟩
  case round =>
    clear YB0 HB0
    obtain ⟨i, j, hij, hjn, rfl, rfl, HB, YB, HL, HU⟩ := hrel
    by_cases hlt : i < j
    · have hmid : (i + j) / 2 < l.length := by have := HN.out; omega
      have hOd := own_keep (own_keep HO.out HB.out) (ext_drew (Below.refl wr.heap.size wr))
      have hYd := YB.out.below (ext_drew (Below.refl wr.heap.size wr))
      have hBd := ext_trans HB.out (ext_drew (Below.refl wr.heap.size wr))
      obtain ⟨b, rfl, hb0, hbw⟩ := own_pos hOd (by omega)
      have HX : Hid (∀ W9, Below wr.drew.heap.size wr.drew W9 → (W9.cell? ⟨b, ((i + j) / 2) * 6, none⟩ = some (.int .i64 (l.getD ((i + j) / 2) default).at_) ∧ W9.cell? ⟨b, ((i + j) / 2) * 6 + 1, none⟩ = some (.string ⟨(l.getD ((i + j) / 2) default).box.toArray⟩) ∧ W9.cell? ⟨b, ((i + j) / 2) * 6 + 2, none⟩ = some (.string ⟨(l.getD ((i + j) / 2) default).id.toArray⟩) ∧ W9.cell? ⟨b, ((i + j) / 2) * 6 + 3, none⟩ = some (.int .i64 (l.getD ((i + j) / 2) default).kind) ∧ W9.cell? ⟨b, ((i + j) / 2) * 6 + 4, none⟩ = some (.int .i64 (l.getD ((i + j) / 2) default).long) ∧ W9.cell? ⟨b, ((i + j) / 2) * 6 + 5, none⟩ = some (.string ⟨(l.getD ((i + j) / 2) default).frm.toArray⟩)) ∧ (W9.cell? ⟨Y, 0, none⟩ = some (.int .i64 y0) ∧ W9.cell? ⟨Y, 1, none⟩ = some (.string y1) ∧ W9.cell? ⟨Y, 2, none⟩ = some (.string y2) ∧ W9.cell? ⟨Y, 3, none⟩ = some (.int .i64 y3) ∧ W9.cell? ⟨Y, 4, none⟩ = some (.int .i64 y4) ∧ W9.cell? ⟨Y, 5, none⟩ = some (.string y5))) := fun W9 hW => by
        have hO9 := own_keep hOd hW
        have hY9 := hYd.below hW
        refine ⟨⟨(own_field Vact.cells (fun _ => rfl) hO9 ((i + j) / 2) 0 default (hmid) (by omega) rfl : _), (own_field Vact.cells (fun _ => rfl) hO9 ((i + j) / 2) 1 default (hmid) (by omega) rfl : _), (own_field Vact.cells (fun _ => rfl) hO9 ((i + j) / 2) 2 default (hmid) (by omega) rfl : _), (own_field Vact.cells (fun _ => rfl) hO9 ((i + j) / 2) 3 default (hmid) (by omega) rfl : _), (own_field Vact.cells (fun _ => rfl) hO9 ((i + j) / 2) 4 default (hmid) (by omega) rfl : _), (own_field Vact.cells (fun _ => rfl) hO9 ((i + j) / 2) 5 default (hmid) (by omega) rfl : _)⟩, ⟨hY9.cell 0 rfl, hY9.cell 1 rfl, hY9.cell 2 rfl, hY9.cell 3 rfl, hY9.cell 4 rfl, hY9.cell 5 rfl⟩⟩
      have HCM : Hid (∀ W, Calls Tryz.prog 38 #[.agg #[.int .i64 (l.getD ((i + j) / 2) default).at_, .string ⟨(l.getD ((i + j) / 2) default).box.toArray⟩, .string ⟨(l.getD ((i + j) / 2) default).id.toArray⟩, .int .i64 (l.getD ((i + j) / 2) default).kind, .int .i64 (l.getD ((i + j) / 2) default).long, .string ⟨(l.getD ((i + j) / 2) default).frm.toArray⟩], .agg #[.int .i64 y0, .string y1, .string y2, .int .i64 y3, .int .i64 y4, .string y5]] W fun e w' => e = .returned (.int .i64 (actCmp (l.getD ((i + j) / 2) default) y)) ∧ Below W.heap.size W w') := fun W => HY.out _ W
      have HBd := Lib.hid hBd
      have HYd := Lib.hid hYd
      clear hOd hYd hBd
      obtain ⟨r, hr⟩ : ∃ r, r = actCmp (l.getD ((i + j) / 2) default) y := ⟨_, rfl⟩
      have HR := Lib.hid hr
      rw [← hr] at HCM
      clear hr
      generalize (l.getD ((i + j) / 2) default).at_ = x0 at HX HCM
      generalize (⟨(l.getD ((i + j) / 2) default).box.toArray⟩ : ByteArray) = x1 at HX HCM
      generalize (⟨(l.getD ((i + j) / 2) default).id.toArray⟩ : ByteArray) = x2 at HX HCM
      generalize (l.getD ((i + j) / 2) default).kind = x3 at HX HCM
      generalize (l.getD ((i + j) / 2) default).long = x4 at HX HCM
      generalize (⟨(l.getD ((i + j) / 2) default).frm.toArray⟩ : ByteArray) = x5 at HX HCM
      clear hmid
      have hm0 : (0 : Int) ≤ ((i : Int) + (j : Int)) / 2 := by omega
      have hm1 : ((i : Int) + (j : Int)) / 2 < (n : Int) := by omega
      have hm2 : (((i : Int) + (j : Int)) / 2).toNat = (i + j) / 2 := by omega
      as_aux_lemma =>
        go_upto_region 5 with (fail)
        refine region_seqI (S := fun W9 => Below wr.drew.heap.size wr.drew W9) [(true, 0), (true, 1), (true, 2), (true, 3), (true, 4), (true, 5), (false, 6), (true, 7)] (by kernel_rfl) (by kernel_rfl) rfl (by kernel_rfl) (Below.refl _ _) ?_
        generalize wr.drew = wd at HX HBd HYd ⊢
        simp only [seqOps, List.getD_cons_zero, List.getD_cons_succ]
        refine seqI_take (v := .func (.func 38) #[] #[]) rfl (fun W9 hW => by clear hW; go_simp) (fun _ _ _ h => h) ?_
        simp only [Act.put, List.setIfInBounds_toArray, List.set_cons_zero, List.set_cons_succ]
        refine seqI_take (v := .slice (some ⟨b, 0, none⟩) n cap) rfl (fun W9 hW => by clear hW; go_simp) (fun _ _ _ h => h) ?_
        simp only [Act.put, List.setIfInBounds_toArray, List.set_cons_zero, List.set_cons_succ]
        refine seqI_take (v := .int .i64 ((i + j) / 2 : Nat)) rfl (fun W9 hW => by clear hW; go_simp) (fun _ _ _ h => h) ?_
        simp only [Act.put, List.setIfInBounds_toArray, List.set_cons_zero, List.set_cons_succ]
        refine seqI_take (v := .pointer (some ⟨b, (i + j) / 2 * 6, none⟩)) rfl (fun W9 hW => by clear hW; go_simp) (fun _ _ _ h => h) ?_
        simp only [Act.put, List.setIfInBounds_toArray, List.set_cons_zero, List.set_cons_succ]
        refine seqI_take (v := .agg #[.int .i64 x0, .string x1, .string x2, .int .i64 x3, .int .i64 x4, .string x5]) rfl (fun W9 hW => by obtain ⟨⟨p0, p1, p2, p3, p4, p5⟩, ⟨q0, q1, q2, q3, q4, q5⟩⟩ := HX.out W9 hW; clear hW; go_simp) (fun _ _ _ h => h) ?_
        simp only [Act.put, List.setIfInBounds_toArray, List.set_cons_zero, List.set_cons_succ]
        refine seqI_take (v := .agg #[.int .i64 y0, .string y1, .string y2, .int .i64 y3, .int .i64 y4, .string y5]) rfl (fun W9 hW => by obtain ⟨⟨p0, p1, p2, p3, p4, p5⟩, ⟨q0, q1, q2, q3, q4, q5⟩⟩ := HX.out W9 hW; clear hW; go_simp) (fun _ _ _ h => h) ?_
        simp only [Act.put, List.setIfInBounds_toArray, List.set_cons_zero, List.set_cons_succ]
        refine seqI_call _ _ rfl (by go_simp) (HCM.out wd) ?_
        rintro e w1 ⟨rfl, hB1⟩
        refine ⟨_, rfl, hB1, ?_⟩
        simp only [Act.put, List.setIfInBounds_toArray, List.set_cons_zero, List.set_cons_succ]
        have HB1 := Lib.hid (ext_trans HBd.out hB1)
        have YB1 := Lib.hid (HYd.out.below hB1)
        clear hB1 HX HBd HYd
        by_cases hr0 : r < 0
        · refine seqI_take (v := .bool true) rfl (fun W9 hW => by clear hW; go_simp) (fun _ _ _ h => h) ?_
          simp only [Act.put, List.setIfInBounds_toArray, List.set_cons_zero, List.set_cons_succ]
          refine seqI_nil ?_
          as_aux_lemma =>
            go_wp2_with fail
            go_roundw
            case rel => exact ⟨(i + j) / 2 + 1, j, by omega, hjn, by go_num, rfl, HB1.out, YB1.out, fun m hm => (by
              by_cases e : m = (i + j) / 2
              · rw [e, ← HR.out]; exact hr0
              · exact HM.out m ((i + j) / 2) (by omega) (by have := HN.out; omega) (by rw [← HR.out]; omega)), HU⟩
            case measure => simp [intOf]; omega
        · refine seqI_take (v := .bool false) rfl (fun W9 hW => by clear hW; go_simp) (fun _ _ _ h => h) ?_
          simp only [Act.put, List.setIfInBounds_toArray, List.set_cons_zero, List.set_cons_succ]
          refine seqI_nil ?_
          as_aux_lemma =>
            go_wp2_with fail
            go_roundw
            case rel => exact ⟨i, (i + j) / 2, by omega, by omega, rfl, by go_num, HB1.out, YB1.out, HL, fun m h1 h2 => Int.not_lt.1 (fun hm => (by
              by_cases e : m = (i + j) / 2
              · rw [e, ← HR.out] at hm; exact hr0 hm
              · exact hr0 (by rw [HR.out]; exact HM.out ((i + j) / 2) m (by omega) (by have := HN.out; omega) (by omega))))⟩
            case measure => simp [intOf]; omega
    · obtain rfl : i = j := by omega
      by_cases hin : i < n
      · have hil : i < l.length := by have := HN.out; omega
        have hOd := own_keep (own_keep HO.out HB.out) (ext_drew (Below.refl wr.heap.size wr))
        have hYd := YB.out.below (ext_drew (Below.refl wr.heap.size wr))
        have hBd := ext_trans HB.out (ext_drew (Below.refl wr.heap.size wr))
        obtain ⟨b, rfl, hb0, hbw⟩ := own_pos hOd (by omega)
        have HX : Hid (∀ W9, Below wr.drew.heap.size wr.drew W9 → (W9.cell? ⟨b, (i) * 6, none⟩ = some (.int .i64 (l.getD (i) default).at_) ∧ W9.cell? ⟨b, (i) * 6 + 1, none⟩ = some (.string ⟨(l.getD (i) default).box.toArray⟩) ∧ W9.cell? ⟨b, (i) * 6 + 2, none⟩ = some (.string ⟨(l.getD (i) default).id.toArray⟩) ∧ W9.cell? ⟨b, (i) * 6 + 3, none⟩ = some (.int .i64 (l.getD (i) default).kind) ∧ W9.cell? ⟨b, (i) * 6 + 4, none⟩ = some (.int .i64 (l.getD (i) default).long) ∧ W9.cell? ⟨b, (i) * 6 + 5, none⟩ = some (.string ⟨(l.getD (i) default).frm.toArray⟩)) ∧ (W9.cell? ⟨Y, 0, none⟩ = some (.int .i64 y0) ∧ W9.cell? ⟨Y, 1, none⟩ = some (.string y1) ∧ W9.cell? ⟨Y, 2, none⟩ = some (.string y2) ∧ W9.cell? ⟨Y, 3, none⟩ = some (.int .i64 y3) ∧ W9.cell? ⟨Y, 4, none⟩ = some (.int .i64 y4) ∧ W9.cell? ⟨Y, 5, none⟩ = some (.string y5))) := fun W9 hW => by
          have hO9 := own_keep hOd hW
          have hY9 := hYd.below hW
          refine ⟨⟨(own_field Vact.cells (fun _ => rfl) hO9 (i) 0 default (hil) (by omega) rfl : _), (own_field Vact.cells (fun _ => rfl) hO9 (i) 1 default (hil) (by omega) rfl : _), (own_field Vact.cells (fun _ => rfl) hO9 (i) 2 default (hil) (by omega) rfl : _), (own_field Vact.cells (fun _ => rfl) hO9 (i) 3 default (hil) (by omega) rfl : _), (own_field Vact.cells (fun _ => rfl) hO9 (i) 4 default (hil) (by omega) rfl : _), (own_field Vact.cells (fun _ => rfl) hO9 (i) 5 default (hil) (by omega) rfl : _)⟩, ⟨hY9.cell 0 rfl, hY9.cell 1 rfl, hY9.cell 2 rfl, hY9.cell 3 rfl, hY9.cell 4 rfl, hY9.cell 5 rfl⟩⟩
        have HCM : Hid (∀ W, Calls Tryz.prog 38 #[.agg #[.int .i64 (l.getD (i) default).at_, .string ⟨(l.getD (i) default).box.toArray⟩, .string ⟨(l.getD (i) default).id.toArray⟩, .int .i64 (l.getD (i) default).kind, .int .i64 (l.getD (i) default).long, .string ⟨(l.getD (i) default).frm.toArray⟩], .agg #[.int .i64 y0, .string y1, .string y2, .int .i64 y3, .int .i64 y4, .string y5]] W fun e w' => e = .returned (.int .i64 (actCmp (l.getD (i) default) y)) ∧ Below W.heap.size W w') := fun W => HY.out _ W
        have HBd := Lib.hid hBd
        have HYd := Lib.hid hYd
        clear hOd hYd hBd
        obtain ⟨r, hr⟩ : ∃ r, r = actCmp (l.getD (i) default) y := ⟨_, rfl⟩
        have HR := Lib.hid hr
        rw [← hr] at HCM
        clear hr
        generalize (l.getD (i) default).at_ = x0 at HX HCM
        generalize (⟨(l.getD (i) default).box.toArray⟩ : ByteArray) = x1 at HX HCM
        generalize (⟨(l.getD (i) default).id.toArray⟩ : ByteArray) = x2 at HX HCM
        generalize (l.getD (i) default).kind = x3 at HX HCM
        generalize (l.getD (i) default).long = x4 at HX HCM
        generalize (⟨(l.getD (i) default).frm.toArray⟩ : ByteArray) = x5 at HX HCM
        have hin2 : (i : Int) < (n : Int) := by omega
        clear hil
        as_aux_lemma =>
          go_upto_region 8 with (fail)
          refine region_seqI (S := fun W9 => Below wr.drew.heap.size wr.drew W9) [(true, 0), (true, 1), (true, 2), (true, 3), (true, 4), (true, 5), (true, 6), (true, 7), (true, 8), (true, 9), (true, 10), (false, 11), (true, 12), (true, 13), (true, 14), (true, 15)] (by kernel_rfl) (by kernel_rfl) rfl (by kernel_rfl) (Below.refl _ _) ?_
          generalize wr.drew = wd at HX HBd HYd ⊢
          simp only [seqOps, List.getD_cons_zero, List.getD_cons_succ]
          refine seqI_take (v := .int .i64 i) rfl (fun W9 hW => by clear hW; go_simp) (fun _ _ _ h => h) ?_
          simp only [Act.put, List.setIfInBounds_toArray, List.set_cons_zero, List.set_cons_succ]
          refine seqI_take (v := .int .i64 i) rfl (fun W9 hW => by clear hW; go_simp) (fun _ _ _ h => h) ?_
          simp only [Act.put, List.setIfInBounds_toArray, List.set_cons_zero, List.set_cons_succ]
          refine seqI_take (v := .int .i64 n) rfl (fun W9 hW => by clear hW; go_simp) (fun _ _ _ h => h) ?_
          simp only [Act.put, List.setIfInBounds_toArray, List.set_cons_zero, List.set_cons_succ]
          refine seqI_take (v := .bool true) rfl (fun W9 hW => by clear hW; go_simp) (fun _ _ _ h => h) ?_
          simp only [Act.put, List.setIfInBounds_toArray, List.set_cons_zero, List.set_cons_succ]
          refine seqI_take (v := .bool true) rfl (fun W9 hW => by clear hW; go_simp) (fun _ _ _ h => h) ?_
          simp only [Act.put, List.setIfInBounds_toArray, List.set_cons_zero, List.set_cons_succ]
          refine seqI_take (v := .func (.func 38) #[] #[]) rfl (fun W9 hW => by clear hW; go_simp) (fun _ _ _ h => h) ?_
          simp only [Act.put, List.setIfInBounds_toArray, List.set_cons_zero, List.set_cons_succ]
          refine seqI_take (v := .slice (some ⟨b, 0, none⟩) n cap) rfl (fun W9 hW => by clear hW; go_simp) (fun _ _ _ h => h) ?_
          simp only [Act.put, List.setIfInBounds_toArray, List.set_cons_zero, List.set_cons_succ]
          refine seqI_take (v := .int .i64 i) rfl (fun W9 hW => by clear hW; go_simp) (fun _ _ _ h => h) ?_
          simp only [Act.put, List.setIfInBounds_toArray, List.set_cons_zero, List.set_cons_succ]
          refine seqI_take (v := .pointer (some ⟨b, i * 6, none⟩)) rfl (fun W9 hW => by clear hW; go_simp) (fun _ _ _ h => h) ?_
          simp only [Act.put, List.setIfInBounds_toArray, List.set_cons_zero, List.set_cons_succ]
          refine seqI_take (v := .agg #[.int .i64 x0, .string x1, .string x2, .int .i64 x3, .int .i64 x4, .string x5]) rfl (fun W9 hW => by obtain ⟨⟨p0, p1, p2, p3, p4, p5⟩, ⟨q0, q1, q2, q3, q4, q5⟩⟩ := HX.out W9 hW; clear hW; go_simp) (fun _ _ _ h => h) ?_
          simp only [Act.put, List.setIfInBounds_toArray, List.set_cons_zero, List.set_cons_succ]
          refine seqI_take (v := .agg #[.int .i64 y0, .string y1, .string y2, .int .i64 y3, .int .i64 y4, .string y5]) rfl (fun W9 hW => by obtain ⟨⟨p0, p1, p2, p3, p4, p5⟩, ⟨q0, q1, q2, q3, q4, q5⟩⟩ := HX.out W9 hW; clear hW; go_simp) (fun _ _ _ h => h) ?_
          simp only [Act.put, List.setIfInBounds_toArray, List.set_cons_zero, List.set_cons_succ]
          refine seqI_call _ _ rfl (by go_simp) (HCM.out wd) ?_
          rintro e w1 ⟨rfl, hB1⟩
          refine ⟨_, rfl, hB1, ?_⟩
          simp only [Act.put, List.setIfInBounds_toArray, List.set_cons_zero, List.set_cons_succ]
          have HB1 := Lib.hid (ext_trans HBd.out hB1)
          clear hB1 HX HBd HYd
          by_cases hr0 : r = 0
          · subst hr0
            refine seqI_take (v := .bool true) rfl (fun W9 hW => by clear hW; go_simp) (fun _ _ _ h => h) ?_
            simp only [Act.put, List.setIfInBounds_toArray, List.set_cons_zero, List.set_cons_succ]
            refine seqI_take (v := .bool true) rfl (fun W9 hW => by clear hW; go_simp) (fun _ _ _ h => h) ?_
            simp only [Act.put, List.setIfInBounds_toArray, List.set_cons_zero, List.set_cons_succ]
            refine seqI_take (v := .int .i64 i) rfl (fun W9 hW => by clear hW; go_simp) (fun _ _ _ h => h) ?_
            simp only [Act.put, List.setIfInBounds_toArray, List.set_cons_zero, List.set_cons_succ]
            refine seqI_take (v := .bool true) rfl (fun W9 hW => by clear hW; go_simp) (fun _ _ _ h => h) ?_
            simp only [Act.put, List.setIfInBounds_toArray, List.set_cons_zero, List.set_cons_succ]
            refine seqI_nil ?_
            go_wp2_with fail
            go_ret2
            exact ⟨i, true, rfl, (fun _ => ⟨by have := HN.out; omega, HR.out.symm⟩), (fun h => by cases h), HB1.out⟩
          · have hr1 : (r == 0) = false := by simpa using hr0
            have HNO : Hid (∀ m, m < l.length → actCmp (l.getD m default) y ≠ 0) := fun m hm h0 => by
              rcases Nat.lt_trichotomy m i with h1 | h1 | h1
              · have := HL.out m h1; omega
              · rw [h1, ← HR.out] at h0; exact hr0 h0
              · have h2 := HM.out i m h1 hm (by omega)
                have h3 := HU.out i (Nat.le_refl _) hin
                omega
            refine seqI_take (v := .bool false) rfl (fun W9 hW => by clear hW; go_simp) (fun _ _ _ h => h) ?_
            simp only [Act.put, List.setIfInBounds_toArray, List.set_cons_zero, List.set_cons_succ]
            refine seqI_take (v := .bool false) rfl (fun W9 hW => by clear hW; go_simp) (fun _ _ _ h => h) ?_
            simp only [Act.put, List.setIfInBounds_toArray, List.set_cons_zero, List.set_cons_succ]
            refine seqI_take (v := .int .i64 i) rfl (fun W9 hW => by clear hW; go_simp) (fun _ _ _ h => h) ?_
            simp only [Act.put, List.setIfInBounds_toArray, List.set_cons_zero, List.set_cons_succ]
            refine seqI_take (v := .bool false) rfl (fun W9 hW => by clear hW; go_simp) (fun _ _ _ h => h) ?_
            simp only [Act.put, List.setIfInBounds_toArray, List.set_cons_zero, List.set_cons_succ]
            refine seqI_nil ?_
            go_wp2_with fail
            go_ret2
            exact ⟨i, false, rfl, (fun h => by cases h), fun _ => HNO.out, HB1.out⟩
      · have hin2 : ¬ (i : Int) < (n : Int) := by omega
        have HNO : Hid (∀ m, m < l.length → actCmp (l.getD m default) y ≠ 0) := fun m hm h0 => by
          have := HL.out m (by have := HN.out; omega)
          omega
        have hBd := Lib.hid (ext_trans HB.out (ext_drew (Below.refl wr.heap.size wr)))
        as_aux_lemma =>
          go_upto_region 8 with (fail)
          refine region_seqI (S := fun W9 => True) [(true, 0), (true, 1), (true, 2), (true, 3), (true, 4), (true, 5), (true, 6), (true, 7), (true, 8), (true, 9), (true, 10), (true, 11), (true, 12), (true, 13), (true, 14), (true, 15)] (by kernel_rfl) (by kernel_rfl) rfl (by kernel_rfl) True.intro ?_
          generalize wr.drew = wd at hBd ⊢
          simp only [seqOps, List.getD_cons_zero, List.getD_cons_succ]
          refine seqI_take (v := .int .i64 i) rfl (fun W9 hW => by clear hW; go_simp) (fun _ _ _ h => h) ?_
          simp only [Act.put, List.setIfInBounds_toArray, List.set_cons_zero, List.set_cons_succ]
          refine seqI_take (v := .int .i64 i) rfl (fun W9 hW => by clear hW; go_simp) (fun _ _ _ h => h) ?_
          simp only [Act.put, List.setIfInBounds_toArray, List.set_cons_zero, List.set_cons_succ]
          refine seqI_take (v := .int .i64 n) rfl (fun W9 hW => by clear hW; go_simp) (fun _ _ _ h => h) ?_
          simp only [Act.put, List.setIfInBounds_toArray, List.set_cons_zero, List.set_cons_succ]
          refine seqI_take (v := .bool false) rfl (fun W9 hW => by clear hW; go_simp) (fun _ _ _ h => h) ?_
          simp only [Act.put, List.setIfInBounds_toArray, List.set_cons_zero, List.set_cons_succ]
          refine seqI_take (v := .bool false) rfl (fun W9 hW => by clear hW; go_simp) (fun _ _ _ h => h) ?_
          simp only [Act.put, List.setIfInBounds_toArray, List.set_cons_zero, List.set_cons_succ]
          refine seqI_skip rfl (fun _ _ _ h => h) ?_
          simp only [Act.put, List.setIfInBounds_toArray, List.set_cons_zero, List.set_cons_succ]
          refine seqI_skip rfl (fun _ _ _ h => h) ?_
          simp only [Act.put, List.setIfInBounds_toArray, List.set_cons_zero, List.set_cons_succ]
          refine seqI_skip rfl (fun _ _ _ h => h) ?_
          simp only [Act.put, List.setIfInBounds_toArray, List.set_cons_zero, List.set_cons_succ]
          refine seqI_skip rfl (fun _ _ _ h => h) ?_
          simp only [Act.put, List.setIfInBounds_toArray, List.set_cons_zero, List.set_cons_succ]
          refine seqI_skip rfl (fun _ _ _ h => h) ?_
          simp only [Act.put, List.setIfInBounds_toArray, List.set_cons_zero, List.set_cons_succ]
          refine seqI_skip rfl (fun _ _ _ h => h) ?_
          simp only [Act.put, List.setIfInBounds_toArray, List.set_cons_zero, List.set_cons_succ]
          refine seqI_skip rfl (fun _ _ _ h => h) ?_
          simp only [Act.put, List.setIfInBounds_toArray, List.set_cons_zero, List.set_cons_succ]
          refine seqI_skip rfl (fun _ _ _ h => h) ?_
          simp only [Act.put, List.setIfInBounds_toArray, List.set_cons_zero, List.set_cons_succ]
          refine seqI_take (v := .bool false) rfl (fun W9 hW => by clear hW; go_simp) (fun _ _ _ h => h) ?_
          simp only [Act.put, List.setIfInBounds_toArray, List.set_cons_zero, List.set_cons_succ]
          refine seqI_take (v := .int .i64 i) rfl (fun W9 hW => by clear hW; go_simp) (fun _ _ _ h => h) ?_
          simp only [Act.put, List.setIfInBounds_toArray, List.set_cons_zero, List.set_cons_succ]
          refine seqI_take (v := .bool false) rfl (fun W9 hW => by clear hW; go_simp) (fun _ _ _ h => h) ?_
          simp only [Act.put, List.setIfInBounds_toArray, List.set_cons_zero, List.set_cons_succ]
          refine seqI_nil ?_
          go_wp2_with fail
          go_ret2
          exact ⟨i, false, rfl, (fun h => by cases h), fun _ => HNO.out, hBd.out⟩
theorem clA_z (w : World) (base : Nat) (hb : base ≤ w.heap.size) : (w.alloc (.cells #[] 45)).ownsRow base 45 6 (.slice (some ⟨w.heap.size, 0, none⟩) 0 0) 0 [] := World.ownsRow_lit w #[] 0 hb (by simp only [maxLen]; omega) rfl
def clAPost (l : List Vact) (w : World) (e : Ending) (w' : World) : Prop := ∃ v', e = .returned v' ∧ VactRow w' w.heap.size v' l ∧ Below w.heap.size w w'
set_option maxRecDepth 100000 in
set_option maxHeartbeats 2000000 in
theorem clA_any (w : World) (base : Nat) (v : Value) (l : List Vact) (h : VactRow w base v l) (hfew : l.length ≤ 100000) : Calls Tryz.prog 36 #[v] w (clAPost l w) := by
  unfold VactRow at h
  obtain ⟨i0, hi, hz0, hz1, hz2⟩ := info_parts Tryz.actInfo
  have qeq : ∀ (w : World) (a : Option Addr) (n c n' c' : Nat), (binOp .eql 42 (.slice a n c) (.slice none n' c')).run Tryz.prog w = .ok (.bool a.isNone) w := fun w a n c n' c' => Lib.run_eql_slice_nil w _ _ a n c n' c' Tryz.underlying42
  obtain ⟨a, c, rfl⟩ := own_shape h
  cases a with
  | none =>
    have h0 : l.length = 0 := by
      rcases h.2 with ⟨e, h0⟩ | ⟨g, cap, cur, e, _⟩
      · injection e with _ e2 _
      · cases e
    have hx : l = [] := List.eq_nil_of_length_eq_zero h0
    subst hx
    clear h
    show Calls Tryz.prog 36 #[.slice none 0 c] w _
    go_enter Tryz.func36, Tryz.ntmps36
    go_wp2_with fail
    go_ret
    exact ⟨_, rfl, World.ownsRow_nil _ _ _ _, (by (try show Below _ _ _); repeat (with_reducible first | exact Below.refl _ _ | assumption | exact Hid.out (by assumption) | refine ext_alloc ?_ | refine ext_drewN ?_ | refine ext_drew ?_ | refine ext_setCell ?_ (Nat.le_refl _) | refine ext_setCell ?_ (Nat.le_succ _) | refine ext_trans ?_ (by assumption) | (refine ext_setCell ?_ (by simp)) | (refine ext_setCell ?_ (by simp at *; omega))))⟩
  | some ad =>
    have hgt : ∃ g, ad = ⟨g, 0, none⟩ ∧ g < w.heap.size := by
      rcases h.2 with ⟨e, h0⟩ | ⟨g, cap, cur, e, _, h2, _⟩
      · cases e
      · injection e with e1
        injection e1 with e1
        exact ⟨g, e1, (Array.getElem?_eq_some_iff.1 h2).1⟩
    obtain ⟨g, rfl, hg⟩ := hgt
    have HLN : Hid (((l.map Vact.cells).flatten).length = l.length * 6) := flat_length Vact.cells 6 (fun _ => rfl) l
    have HCE : Hid (∀ (j : Nat) u, ((l.map Vact.cells).flatten)[j]? = some u → (w.alloc (.cells #[] 45)).cell? ((⟨g, 0, none⟩ : Addr).add j) = some u) := (own_keep h (ext_alloc (Below.refl _ _))).cells rfl
    have HON : Hid (∀ u ∈ (l.map Vact.cells).flatten, u.oneCell' = true) := fun u hu => by
      obtain ⟨cs, h1, h2⟩ := List.mem_flatten.1 hu
      obtain ⟨y, -, rfl⟩ := List.mem_map.1 h1
      exact act_one y u h2
    have HOA := Lib.hid (clA_z w w.heap.size (Nat.le_refl _))
    obtain ⟨n, hn⟩ : ∃ n, n = l.length := ⟨_, rfl⟩
    have HOK : Hid (∀ (v' : Value) (W : World), W.ownsRow w.heap.size 45 6 v' n ((l.map Vact.cells).flatten) → Below w.heap.size w W → clAPost l w (.returned v') W) := fun v' W h1 h2 => ⟨v', rfl, by unfold VactRow; rw [← hn]; exact h1, h2⟩
    generalize hPP : clAPost l w = PP at HOK ⊢
    generalize (l.map Vact.cells).flatten = fl at HLN HCE HON HOK
    rw [← hn] at HLN hfew ⊢
    clear h hPP hn
    go_enter Tryz.func36, Tryz.ntmps36
    go_wp2_with (at_builtin; refine wpList_append_own_at _ rfl (.tmp 5) (.tmp 6) 42 rfl w.heap.size 45 i0 _ 6 72 Tryz.underlying42 hi hz0 hz1 hz2 rfl (by omega) _ 0 _ rfl HOA.out ⟨g, 0, none⟩ n c fl rfl HLN.out HCE.out HON.out (by simp only [maxLen]; omega) (by omega) (by simp) ?_; intro v6 w6 hown6 hgr6 _ _)
    have HO6 : Hid (w6.ownsRow w.heap.size 45 6 v6 n fl) := by
      show World.ownsRow _ _ _ _ _ _ _
      rw [Nat.zero_add, List.nil_append] at hown6
      exact hown6
    have HB6 : Hid (Below w.heap.size w w6) := upto_grown hgr6 (Nat.le_refl _) (fun b e => (HOA.out.lt b e).1)
    clear hown6 hgr6
    exact HOK.out _ _ HO6.out HB6.out
def eqAE (x y : Vact) : Bool := x.at_ == y.at_ && (x.box == y.box && (x.id == y.id && (x.kind == y.kind && (x.long == y.long && (x.frm == y.frm)))))
theorem eqA_neq : NeqAt Tryz.prog 45 (fun x : Vact => .agg (Vact.cells x).toArray) eqAE := by
  refine ⟨fun x y w => ?_, GuardAt.agg _ (by kernel_rfl)⟩
  obtain ⟨x0, x1, x2, x3, x4, x5⟩ := x
  obtain ⟨y0, y1, y2, y3, y4, y5⟩ := y
  show (binOp .neq 45 (.agg #[.int .i64 x0, .string ⟨x1.toArray⟩, .string ⟨x2.toArray⟩, .int .i64 x3, .int .i64 x4, .string ⟨x5.toArray⟩]) (.agg #[.int .i64 y0, .string ⟨y1.toArray⟩, .string ⟨y2.toArray⟩, .int .i64 y3, .int .i64 y4, .string ⟨y5.toArray⟩])).run Tryz.prog w = _
  go_simp
  unfold eqAE
  by_cases h0 : x0 = y0 <;> by_cases h1 : x1 = y1 <;> by_cases h2 : x2 = y2 <;> by_cases h3 : x3 = y3 <;> by_cases h4 : x4 = y4 <;> by_cases h5 : x5 = y5 <;> simp [*]
theorem eqA_self : ∀ (l : List Vact), Lib.allEq eqAE l l = true
  | [] => rfl
  | x :: l => by
    show (eqAE x x && Lib.allEq eqAE l l) = true
    rw [show eqAE x x = true by simp [eqAE], eqA_self l]; rfl
theorem eqA_none (w : World) (a a2 : Option Addr) (c c2 : Nat) : Calls Tryz.prog 18 #[.slice a 0 c, .slice a2 0 c2] w fun e w' => e = .returned (.bool true) ∧ Below w.heap.size w w' := by
  go_enter Tryz.func18, Tryz.ntmps18
  go_wp2_with fail
  go_loopw [13] (fun i wr => i = .int .i64 0 ∧ Hid (Below w.heap.size w wr)) (fun _ _ => 0)
  case atStart => exact ⟨rfl, (by (try show Below _ _ _); repeat (with_reducible first | exact Below.refl _ _ | assumption | exact Hid.out (by assumption) | refine ext_alloc ?_ | refine ext_drewN ?_ | refine ext_drew ?_ | refine ext_setCell ?_ (Nat.le_refl _) | refine ext_setCell ?_ (Nat.le_succ _) | refine ext_trans ?_ (by assumption) | (refine ext_setCell ?_ (by simp)) | (refine ext_setCell ?_ (by simp at *; omega))))⟩
  case round =>
    obtain ⟨rfl, HB⟩ := hrel
    go_wp2_with fail
    go_ret
    exact ⟨rfl, (by (try show Below _ _ _); repeat (with_reducible first | exact Below.refl _ _ | assumption | exact Hid.out (by assumption) | refine ext_alloc ?_ | refine ext_drewN ?_ | refine ext_drew ?_ | refine ext_setCell ?_ (Nat.le_refl _) | refine ext_setCell ?_ (Nat.le_succ _) | refine ext_trans ?_ (by assumption) | (refine ext_setCell ?_ (by simp)) | (refine ext_setCell ?_ (by simp at *; omega))))⟩
theorem eqA_any {w : World} {base base2 : Nat} {v v2 : Value} {xs : List Vact} (h : VactRow w base v xs) (h2 : VactRow w base2 v2 xs) (hn : xs.length ≤ 100000) :
    Calls Tryz.prog 18 #[v, v2] w (BoolP true w) := by
  by_cases h0 : xs.length = 0
  · obtain ⟨a, c, rfl⟩ := own_shape h
    obtain ⟨a2, c2, rfl⟩ := own_shape h2
    rw [h0]
    exact eqA_none w a a2 c c2
  · obtain ⟨a, c, rfl⟩ := own_shape h
    obtain ⟨a2, c2, rfl⟩ := own_shape h2
    obtain ⟨g, rfl, -, -⟩ := own_pos h (by omega)
    obtain ⟨g2, rfl, -, -⟩ := own_pos h2 (by omega)
    refine (Tryz.slices_eqVact Vact.cells (fun _ => rfl) eqAE eqA_neq g 0 xs.length c g2 0 xs.length c2 xs xs w (Nat.le_refl _) (Nat.le_refl _) (by omega) (by omega) (fun j hj i v hv => ?_) (fun j hj i v hv => ?_)).mono ?_
    · rw [bang_is hj] at hv
      rw [Nat.zero_add]
      exact own_field Vact.cells (fun _ => rfl) h j i default hj (by have := (List.getElem?_eq_some_iff.1 hv).1; exact this) hv
    · rw [bang_is hj] at hv
      rw [Nat.zero_add]
      exact own_field Vact.cells (fun _ => rfl) h2 j i default hj (by have := (List.getElem?_eq_some_iff.1 hv).1; exact this) hv
    · rintro e w' ⟨rfl, q, rfl⟩
      rw [List.take_length, eqA_self]
      exact ⟨rfl, ext_drewN (Below.refl _ _)⟩
end Go.Proofs.YtamoclofloijpaaGreatDoor

set_option linter.unusedVariables false
set_option linter.unusedSimpArgs false
namespace Go.Proofs.YtamoclofloijpaaGreatDoor
open Go.RowKit Go.Sort Go.Lib

theorem fromDigs (s : List UInt8) : fromB s = (decide (s = []) || (Lib.hasPrefix s [43] && ((decide ((4 : Int) ≤ ((Lib.trimPrefix s [43]).length : Int)) && decide (((Lib.trimPrefix s [43]).length : Int) ≤ 15)) && onlyB (Lib.trimPrefix s [43]) [48, 49, 50, 51, 52, 53, 54, 55, 56, 57]))) := by
  unfold fromB
  rw [show allIn (Lib.trimPrefix s [43]) [48, 49, 50, 51, 52, 53, 54, 55, 56, 57] = onlyB (Lib.trimPrefix s [43]) [48, 49, 50, 51, 52, 53, 54, 55, 56, 57] from allIn_all _ _,
    show decide ((4 : Int) ≤ ((Lib.trimPrefix s [43]).length : Int)) = decide (4 ≤ (Lib.trimPrefix s [43]).length) from decide_eq_decide.2 (by omega), show decide (((Lib.trimPrefix s [43]).length : Int) ≤ 15) = decide ((Lib.trimPrefix s [43]).length ≤ 15) from decide_eq_decide.2 (by omega), Bool.and_assoc]
theorem trimP_len (s p : List UInt8) : (Lib.trimPrefix s p).length ≤ s.length := by
  unfold Lib.trimPrefix
  split
  · rw [List.length_drop]; omega
  · exact Nat.le_refl _
theorem within_voi (n lo hi : Int) (w : World) : Calls Tryz.prog 62 #[.int .i64 n, .int .i64 lo, .int .i64 hi] w fun e w' => e = .returned (.bool (decide (lo ≤ n) && decide (n ≤ hi))) ∧ w = w' := by
  by_cases h : lo ≤ n
  · rw [decide_eq_true h]
    go_enter Tryz.func62, Tryz.ntmps62
    go_wp2_with fail
    go_ret
    exact ⟨rfl, rfl⟩
  · rw [decide_eq_false h]
    go_enter Tryz.func62, Tryz.ntmps62
    go_wp2_with fail
    go_ret
    exact ⟨rfl, rfl⟩
set_option maxRecDepth 100000 in
set_option maxHeartbeats 2000000 in
theorem callerId_any (s : List UInt8) (w : World) (hs : s.length ≤ 1000) : Calls Tryz.prog 85 #[.string ⟨s.toArray⟩] w (BoolP (fromB s) w) := by
  have HC : Hid (∀ W, Calls Tryz.prog 134 #[.string ⟨s.toArray⟩, .string ⟨#[43]⟩] W fun e w' => e = .returned (.tuple #[.string ⟨(Lib.trimPrefix s [43]).toArray⟩, .bool (Lib.hasPrefix s [43])]) ∧ w' = W) := fun W => Tryz.strings_CutPrefix ⟨s.toArray⟩ ⟨#[43]⟩ W
  have HL := trimP_len s [43]
  have HT : Hid (∀ W, Calls Tryz.prog 101 #[.string ⟨(Lib.trimPrefix s [43]).toArray⟩, .string ⟨#[48, 49, 50, 51, 52, 53, 54, 55, 56, 57]⟩] W fun e w' => e = .returned (.bool (onlyB (Lib.trimPrefix s [43]) [48, 49, 50, 51, 52, 53, 54, 55, 56, 57])) ∧ W = w') := fun W => only2_any _ [48, 49, 50, 51, 52, 53, 54, 55, 56, 57] W (by omega)
  have HD := Lib.hid (fromDigs s)
  have hsz : (⟨(Lib.trimPrefix s [43]).toArray⟩ : ByteArray).size = (Lib.trimPrefix s [43]).length := by show (Lib.trimPrefix s [43]).toArray.size = _; simp
  generalize Lib.trimPrefix s [43] = d at HC HT HD hsz
  generalize Lib.hasPrefix s [43] = p at HC HD
  clear HL
  clear hsz
  generalize onlyB d [48, 49, 50, 51, 52, 53, 54, 55, 56, 57] = ob at HT HD
  generalize fromB s = R at HD ⊢
  by_cases hs0 : s = []
  case pos =>
    subst hs0
    go_enter Tryz.func85, Tryz.ntmps85
    go_wp2_with fail
    refine (HC.out _).mono ?_
    rintro e w' ⟨rfl, hw⟩
    replace hw := hw.symm
    subst hw
    go_wp2_with fail
    go_ret
    exact ⟨by rw [HD.out]; rfl, Below.refl _ _⟩
  have HS0 : Hid (decide (s = []) = false) := decide_eq_false hs0
  have hse : (s == []) = false := beq_eq_false_iff_ne.2 hs0
  have hse2 : s.isEmpty = false := by cases s with | nil => exact absurd rfl hs0 | cons => rfl
  clear hs0
  go_enter Tryz.func85, Tryz.ntmps85
  go_wp2_with fail
  refine (HC.out _).mono ?_
  rintro e w' ⟨rfl, hw⟩
  replace hw := hw.symm
  subst hw
  rw [HS0.out, Bool.false_or] at HD
  clear HS0
  cases p
  · go_wp2_with fail
    go_ret
    exact ⟨by rw [HD.out]; rfl, Below.refl _ _⟩
  rw [Bool.true_and] at HD
  obtain ⟨bi, hbi⟩ : ∃ b, b = (decide ((4 : Int) ≤ (d.length : Int)) && decide ((d.length : Int) ≤ 15)) := ⟨_, rfl⟩
  rw [← hbi] at HD
  have HBI := Lib.hid hbi
  clear hbi
  go_wp2_with fail
  refine (in2_any _ _ _ _).mono ?_
  rintro e w' ⟨rfl, hw⟩
  subst hw
  rw [← HBI.out]
  clear HBI
  cases bi
  · go_wp2_with fail
    go_ret
    exact ⟨by rw [HD.out]; rfl, Below.refl _ _⟩
  rw [Bool.true_and] at HD
  go_wp2_with fail
  refine (HT.out _).mono ?_
  rintro e w' ⟨rfl, hw⟩
  subst hw
  go_wp2_with fail
  go_ret
  exact ⟨by rw [HD.out]; rfl, Below.refl _ _⟩
set_option maxRecDepth 100000 in
set_option maxHeartbeats 2000000 in
theorem isFrom_any (s : List UInt8) (w : World) (hs : s.length ≤ 1000) : Calls Tryz.prog 86 #[.string ⟨s.toArray⟩] w (BoolP (fromB s) w) := by
  have HC : Hid (∀ W, Calls Tryz.prog 134 #[.string ⟨s.toArray⟩, .string ⟨#[43]⟩] W fun e w' => e = .returned (.tuple #[.string ⟨(Lib.trimPrefix s [43]).toArray⟩, .bool (Lib.hasPrefix s [43])]) ∧ w' = W) := fun W => Tryz.strings_CutPrefix ⟨s.toArray⟩ ⟨#[43]⟩ W
  have HL := trimP_len s [43]
  have HT : Hid (∀ W, Calls Tryz.prog 65 #[.string ⟨(Lib.trimPrefix s [43]).toArray⟩, .string ⟨#[48, 49, 50, 51, 52, 53, 54, 55, 56, 57]⟩] W fun e w' => e = .returned (.string ⟨(Lib.trimS (Lib.trimPrefix s [43]) digitSet).toArray⟩) ∧ Below W.heap.size W w') := fun W => trim_digits ⟨(Lib.trimPrefix s [43]).toArray⟩ W (by show (Lib.trimPrefix s [43]).toArray.size ≤ _; simp; omega)
  have HE : Hid (onlyB (Lib.trimPrefix s [43]) [48, 49, 50, 51, 52, 53, 54, 55, 56, 57] = (Lib.trimS (Lib.trimPrefix s [43]) digitSet).isEmpty) := (allIn_all _ _).symm
  have HD := Lib.hid (fromDigs s)
  have hsz : (⟨(Lib.trimPrefix s [43]).toArray⟩ : ByteArray).size = (Lib.trimPrefix s [43]).length := by show (Lib.trimPrefix s [43]).toArray.size = _; simp
  generalize Lib.trimPrefix s [43] = d at HC HT HD hsz HE
  generalize Lib.hasPrefix s [43] = p at HC HD
  clear HL
  clear hsz
  generalize Lib.trimS d digitSet = td at HT HE
  generalize onlyB d [48, 49, 50, 51, 52, 53, 54, 55, 56, 57] = ob at HE HD
  generalize fromB s = R at HD ⊢
  by_cases hs0 : s = []
  case pos =>
    subst hs0
    go_enter Tryz.func86, Tryz.ntmps86
    go_wp2_with fail
    refine (HC.out _).mono ?_
    rintro e w' ⟨rfl, hw⟩
    replace hw := hw.symm
    subst hw
    go_wp2_with fail
    go_ret
    exact ⟨by rw [HD.out]; rfl, Below.refl _ _⟩
  have HS0 : Hid (decide (s = []) = false) := decide_eq_false hs0
  have hse : (s == []) = false := beq_eq_false_iff_ne.2 hs0
  have hse2 : s.isEmpty = false := by cases s with | nil => exact absurd rfl hs0 | cons => rfl
  clear hs0
  go_enter Tryz.func86, Tryz.ntmps86
  go_wp2_with fail
  refine (HC.out _).mono ?_
  rintro e w' ⟨rfl, hw⟩
  replace hw := hw.symm
  subst hw
  rw [HS0.out, Bool.false_or] at HD
  clear HS0
  cases p
  · go_wp2_with fail
    go_ret
    exact ⟨by rw [HD.out]; rfl, Below.refl _ _⟩
  rw [Bool.true_and] at HD
  obtain ⟨bi, hbi⟩ : ∃ b, b = (decide ((4 : Int) ≤ (d.length : Int)) && decide ((d.length : Int) ≤ 15)) := ⟨_, rfl⟩
  rw [← hbi] at HD
  have HBI := Lib.hid hbi
  clear hbi
  go_wp2_with fail
  refine (within_voi _ _ _ _).mono ?_
  rintro e w' ⟨rfl, hw⟩
  subst hw
  rw [← HBI.out]
  clear HBI
  cases bi
  · go_wp2_with fail
    go_ret
    exact ⟨by rw [HD.out]; rfl, Below.refl _ _⟩
  rw [Bool.true_and] at HD
  go_wp2_with fail
  refine (HT.out _).mono ?_
  rintro e w' ⟨rfl, hw⟩
  have HBW := Lib.hid hw
  clear hw
  cases td with
  | nil =>
    go_wp2_with fail
    go_ret
    exact ⟨by rw [HD.out, HE.out]; rfl, HBW.out⟩
  | cons t0 td =>
    go_wp2_with fail
    go_ret
    exact ⟨by rw [HD.out, HE.out]; rfl, HBW.out⟩
end Go.Proofs.YtamoclofloijpaaGreatDoor
