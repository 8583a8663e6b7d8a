/- What is proved here: lemmas and contracts for the statement, put together out of smaller texts (SpcWords, ActLaw, GrownW, OrN, OrI, R2Small, PortSmall, CmpStr, ActCmp, BcnCmp, BcnMath, BcnU8). No condition beyond those stated. -/
import Derived.Test.YtamoclofloijpaaGreatDoorPtPkC
import Derived.Lib.Join
import Derived.Test.YtamoclofloijpaaGreatDoorPtPkB
import Derived.Test.YtamoclofloijpaaGreatDoorPtPkA
import Derived.Test.YtamoclofloijpaaGreatDoorShelfPort
import Derived.IntWalk
import Derived.Test.YtamoclofloijpaaGreatDoorShelfPre
set_option linter.unusedVariables false
set_option linter.unusedSimpArgs false
namespace Go.Proofs.YtamoclofloijpaaGreatDoor
open Go.RowKit Go.Lib

theorem ixB_app {c : UInt8} : ∀ {a : List UInt8} (r : List UInt8), c ∉ a → Lib.indexByte (a ++ c :: r) c = a.length
  | [], r, _ => by simp [Lib.indexByte]
  | b :: a, r, h => by
    have hb : ¬ b = c := fun e => h (by rw [e]; exact List.mem_cons_self)
    have ih := ixB_app (a := a) r (fun e => h (List.mem_cons_of_mem _ e))
    have h1 : (b == c) = false := by simpa using hb
    have h2 : ((a.length : Int) == -1) = false := by simp
    simp only [List.cons_append, Lib.indexByte, h1, ih, h2, List.length_cons]
    simp
theorem ixB_no {c : UInt8} : ∀ {a : List UInt8}, c ∉ a → Lib.indexByte a c = -1
  | [], _ => rfl
  | b :: a, h => by
    have hb : ¬ b = c := fun e => h (by rw [e]; exact List.mem_cons_self)
    have ih := ixB_no (a := a) (fun e => h (List.mem_cons_of_mem _ e))
    have h1 : (b == c) = false := by simpa using hb
    simp only [Lib.indexByte, h1, ih]
    simp
theorem wordsL_eq (s : List UInt8) : wordsL s = Lib.splitK [32] 0 (Lib.count s [32]) s := Lib.splitB_data ⟨#[32]⟩ 0 _ ⟨s.toArray⟩
theorem wordsL_one {a : List UInt8} (h : (32 : UInt8) ∉ a) : wordsL a = [a] := by
  have h1 : Lib.index a [32] = -1 := by rw [Lib.index_one]; exact ixB_no h
  rw [wordsL_eq, Lib.count_miss h1]
  rfl
theorem wordsL_app {a : List UInt8} (r : List UInt8) (h : (32 : UInt8) ∉ a) : wordsL (a ++ 32 :: r) = a :: wordsL r := by
  have h1 : Lib.index (a ++ 32 :: r) [32] = a.length := by rw [Lib.index_one]; exact ixB_app r h
  have hd : (a ++ 32 :: r).drop (a.length + 1) = r := by
    rw [← List.drop_drop, List.drop_left]
    rfl
  rw [wordsL_eq, Lib.count_hit (i := a.length) (by simp) h1, Nat.add_comm]
  show Lib.splitK [32] 0 (Lib.count ((a ++ 32 :: r).drop (a.length + 1)) [32] + 1) (a ++ 32 :: r) = _
  rw [hd]
  unfold Lib.splitK
  have hm : ((a.length : Int) == -1) = false := by simp
  have e2 : ((a.length : Int)).toNat = a.length := by omega
  rw [h1, hm, e2]
  have ht : (a ++ 32 :: r).take (a.length + 0) = a := by rw [Nat.add_zero, List.take_left]
  rw [if_neg (by simp), ht]
  show a :: Lib.splitK [32] 0 _ ((a ++ 32 :: r).drop (a.length + 1)) = _
  rw [hd, wordsL_eq]
/-- Words behind one another, with spaces between them. -/
def spaced : List (List UInt8) → List UInt8
  | [] => []
  | [a] => a
  | a :: b :: l => a ++ 32 :: spaced (b :: l)
theorem wordsL_spaced : ∀ (ws : List (List UInt8)), ws ≠ [] → (∀ x ∈ ws, (32 : UInt8) ∉ x) → wordsL (spaced ws) = ws
  | [], h, _ => absurd rfl h
  | [a], _, h => wordsL_one (h a List.mem_cons_self)
  | a :: b :: l, _, h => by
    show wordsL (a ++ 32 :: spaced (b :: l)) = _
    rw [wordsL_app _ (h a List.mem_cons_self), wordsL_spaced (b :: l) (by simp) (fun x hx => h x (List.mem_cons_of_mem _ hx))]
theorem join_spaced : ∀ (ws : List (List UInt8)), Lib.join ws [32] = spaced ws
  | [] => rfl
  | [a] => by simp [Lib.join, spaced, List.intercalate, List.intersperse]
  | a :: b :: l => by
    have ih := join_spaced (b :: l)
    unfold Lib.join List.intercalate at ih ⊢
    rw [List.intersperse_cons_cons]
    simp only [List.flatten_cons]
    rw [ih]
    rfl
theorem spaced_len : ∀ (ws : List (List UInt8)) (m : Nat), (∀ x ∈ ws, x.length ≤ m) → (spaced ws).length ≤ ws.length * (m + 1)
  | [], m, _ => by simp [spaced]
  | [a], m, h => by have := h a List.mem_cons_self; simp [spaced]; omega
  | a :: b :: l, m, h => by
    have h1 := h a List.mem_cons_self
    have h2 := spaced_len (b :: l) m (fun x hx => h x (List.mem_cons_of_mem _ hx))
    show (a ++ 32 :: spaced (b :: l)).length ≤ _
    rw [List.length_append, List.length_cons]
    simp only [List.length_cons] at h2 ⊢
    rw [Nat.add_mul (l.length + 1) 1 (m + 1)]
    omega
theorem spaced_nl : ∀ (ws : List (List UInt8)), (∀ x ∈ ws, (10 : UInt8) ∉ x) → (10 : UInt8) ∉ spaced ws
  | [], _, h => by cases h
  | [a], hx, h => hx a List.mem_cons_self h
  | a :: b :: l, hx, h => by
    have h' : (10 : UInt8) ∈ a ++ 32 :: spaced (b :: l) := h
    rcases List.mem_append.1 h' with h1 | h1
    · exact hx a List.mem_cons_self h1
    · rcases List.mem_cons.1 h1 with h2 | h2
      · exact absurd h2 (by decide)
      · exact spaced_nl (b :: l) (fun x hm => hx x (List.mem_cons_of_mem _ hm)) h2
/-- The line at the head of a text. -/
theorem cut_line {a : List UInt8} (r : List UInt8) (h : (10 : UInt8) ∉ a) : Lib.cut (a ++ 10 :: r) [10] = (a, r, true) := by
  have h1 : Lib.index (a ++ 10 :: r) [10] = a.length := by rw [Lib.index_one]; exact ixB_app r h
  have hd : (a ++ 10 :: r).drop (a.length + 1) = r := by rw [← List.drop_drop, List.drop_left]; rfl
  unfold Lib.cut
  rw [h1, if_pos (by omega)]
  have e2 : ((a.length : Int)).toNat = a.length := by omega
  rw [e2, List.take_left]
  show (a, (a ++ 10 :: r).drop (a.length + 1), true) = _
  rw [hd]
end Go.Proofs.YtamoclofloijpaaGreatDoor

set_option linter.unusedVariables false
set_option linter.unusedSimpArgs false
namespace Go.Proofs.YtamoclofloijpaaGreatDoor
open Go.RowKit Go.Sort Go.Lib

/-- What the maker's acts are bound to. -/
structure ActB (a : Vact) : Prop where
  at0 : -4398046511104 ≤ a.at_
  at1 : a.at_ ≤ 4398046511104
  kind0 : -4398046511104 ≤ a.kind
  kind1 : a.kind ≤ 4398046511104
  long0 : -4398046511104 ≤ a.long
  long1 : a.long ≤ 4398046511104
  box : a.box.length ≤ 2
  id : a.id.length ≤ 2
  frm : a.frm.length ≤ 8
/-- From whom a message is: nobody, or + with digits. -/
def fromB (s : List UInt8) : Bool := decide (s = []) || (Lib.hasPrefix s [43] && (decide (4 ≤ (Lib.trimPrefix s [43]).length) && (decide ((Lib.trimPrefix s [43]).length ≤ 15) && allIn (Lib.trimPrefix s [43]) [48, 49, 50, 51, 52, 53, 54, 55, 56, 57])))
structure ActGood (a : Vact) : Prop where
  mom : isMomB a.at_ = true
  box : isKeyB a.box = true
  id : isKeyB a.id = true
  kind0 : 1 ≤ a.kind
  kind1 : a.kind ≤ 5
  left : a.kind = 1 → 1 ≤ a.long ∧ a.long ≤ 86400000 ∧ fromB a.frm = true
  other : a.kind ≠ 1 → a.long = 0 ∧ a.frm = []
structure ActsOk (l : List Vact) : Prop where
  good : ∀ a ∈ l, ActGood a
  asc : Asc l
theorem ActsOk.sub {l m : List Vact} (h : ActsOk l) (hs : m.Sublist l) : ActsOk m := ⟨fun a ha => h.good a (hs.subset ha), h.asc.sublist hs⟩
theorem ActsOk.nil : ActsOk [] := ⟨fun a h => (by cases h), List.Pairwise.nil⟩
theorem getD_mem {α : Type} [Inhabited α] {l : List α} {i : Nat} (h : i < l.length) : l.getD i default ∈ l := by
  rw [List.getD_eq_getElem?_getD, List.getElem?_eq_getElem h]
  exact List.getElem_mem h
theorem ActsOk.of_steps {l : List Vact} (h1 : ∀ i, i < l.length → ActGood (l.getD i default)) (h2 : ∀ i, i + 1 < l.length → (l.getD i default).lt (l.getD (i + 1) default)) : ActsOk l := by
  refine ⟨fun a ha => ?_, ?_⟩
  · obtain ⟨i, hi, rfl⟩ := List.getElem_of_mem ha
    have := h1 i hi
    rw [List.getD_eq_getElem?_getD, List.getElem?_eq_getElem hi] at this
    exact this
  · have key : ∀ d i, i + d + 1 < l.length → (l.getD i default).lt (l.getD (i + d + 1) default) := by
      intro d
      induction d with
      | zero => exact fun i hi => h2 i hi
      | succ d ih => exact fun i hi => (ih i (by omega)).tr (h2 (i + d + 1) (by omega))
    unfold Asc
    rw [List.pairwise_iff_getElem]
    intro i j hi hj hij
    have := key (j - i - 1) i (by omega)
    rw [show i + (j - i - 1) + 1 = j by omega, List.getD_eq_getElem?_getD, List.getElem?_eq_getElem hi, List.getD_eq_getElem?_getD, List.getElem?_eq_getElem hj] at this
    exact this
theorem Asc.at_ {l : List Vact} (h : Asc l) {i j : Nat} (hij : i < j) (hj : j < l.length) : (l.getD i default).lt (l.getD j default) := by
  rw [List.getD_eq_getElem?_getD, List.getElem?_eq_getElem (by omega), List.getD_eq_getElem?_getD, List.getElem?_eq_getElem hj]
  exact List.pairwise_iff_getElem.1 h i j (by omega) hj hij
/-- The condition of a binary search. -/
theorem Asc.search {l : List Vact} (h : Asc l) (y : Vact) : ∀ m1 m2, m1 < m2 → m2 < l.length → actCmp (l.getD m2 default) y ≤ 0 → actCmp (l.getD m1 default) y < 0 := fun m1 m2 h1 h2 hc => by
  rw [actCmp_neg]
  have hl := h.at_ h1 h2
  rcases Int.lt_or_eq_of_le hc with hc | hc
  · rw [actCmp_neg] at hc; exact hl.tr hc
  · rw [actCmp_zero] at hc
    obtain ⟨e0, e1, e2, e3⟩ := hc
    unfold Vact.lt at hl ⊢
    rw [← e0, ← e1, ← e2, ← e3]; exact hl
/-- Those of q that p has not, behind p. -/
def joinA (p q : List Vact) : List Vact := p ++ q.filter (fun a => decide (a ∉ p))
theorem joinA_nil (p : List Vact) : joinA p [] = p := by simp [joinA]
theorem joinA_step (p q : List Vact) (j : Nat) (hj : j < q.length) : joinA p (q.take (j + 1)) = if q.getD j default ∈ p then joinA p (q.take j) else joinA p (q.take j) ++ [q.getD j default] := by
  unfold joinA
  rw [List.take_add_one, List.getElem?_eq_getElem hj, List.getD_eq_getElem?_getD, List.getElem?_eq_getElem hj, List.filter_append]
  simp only [Option.toList_some, Option.getD_some, List.filter_cons, List.filter_nil]
  by_cases h : q[j] ∈ p
  · rw [if_pos h, if_neg (by simp [h])]; simp
  · rw [if_neg h, if_pos (by simp [h])]; simp [List.append_assoc]
theorem joinA_sorted {x p q : List Vact} (hx : Asc x) (hp : p.Sublist x) (hq : q.Sublist x) (hm : ∀ a ∈ x, a ∈ p ∨ a ∈ q) : insL (ltOf actCmp) (joinA p q) = x := by
  refine insA_asc hx ?_ (fun a => ?_)
  · unfold joinA
    rw [List.nodup_append]
    refine ⟨Asc.nodup (hx.sublist hp), (Asc.nodup (hx.sublist hq)).sublist List.filter_sublist, fun a ha b hb e => ?_⟩
    rw [List.mem_filter, decide_eq_true_eq] at hb
    exact hb.2 (e ▸ ha)
  · unfold joinA
    rw [List.mem_append, List.mem_filter, decide_eq_true_eq]
    constructor
    · rintro (h | ⟨h, -⟩)
      · exact hp.subset h
      · exact hq.subset h
    · intro h
      by_cases h1 : a ∈ p
      · exact Or.inl h1
      · exact Or.inr ⟨(hm a h).resolve_left h1, h1⟩
theorem joinA_len {x p q : List Vact} (hx : Asc x) (hp : p.Sublist x) (hq : q.Sublist x) (hm : ∀ a ∈ x, a ∈ p ∨ a ∈ q) (j : Nat) : (joinA p (q.take j)).length ≤ x.length := by
  have h1 : (joinA p q).length = x.length := by rw [← joinA_sorted hx hp hq hm, insL_len]
  have h2 : (joinA p (q.take j)).length ≤ (joinA p q).length := by
    unfold joinA
    rw [List.length_append, List.length_append]
    have := ((List.take_sublist j q).filter (fun a => decide (a ∉ p))).length_le
    omega
  omega
/-- Where the same key stands in p, the act itself stands there. -/
theorem same_in {x p : List Vact} (hx : Asc x) (hp : p.Sublist x) {y : Vact} (hy : y ∈ x) {i : Nat} (hi : i < p.length) (hc : actCmp (p.getD i default) y = 0) : p.getD i default = y :=
  hx.key (hp.subset (getD_mem hi)) hy ((actCmp_zero _ _).1 hc)
theorem not_in {p : List Vact} {y : Vact} (h : ∀ m, m < p.length → actCmp (p.getD m default) y ≠ 0) : y ∉ p := fun hy => by
  obtain ⟨i, hi, rfl⟩ := List.getElem_of_mem hy
  refine h i hi ?_
  rw [List.getD_eq_getElem?_getD, List.getElem?_eq_getElem hi, actCmp_zero]
  exact ⟨rfl, rfl, rfl, rfl⟩
/-- The words of an act. -/
def kindW (k : Int) : List UInt8 := if k = 1 then [108, 101, 102, 116] else if k = 2 then [104, 101, 97, 114, 100] else if k = 3 then [107, 101, 112, 116] else if k = 4 then [100, 101, 108, 101, 116, 101, 100] else [98, 97, 99, 107]
def frmW (s : List UInt8) : List UInt8 := if s = [] then [45] else s
def actW (a : Vact) : List (List UInt8) := [Lib.itoa a.at_, a.box, a.id, kindW a.kind] ++ if a.kind = 1 then [Lib.itoa a.long, frmW a.frm] else []
def actT (a : Vact) : List UInt8 := spaced (actW a) ++ [10]
def actsT (l : List Vact) : List UInt8 := (l.map actT).flatten
end Go.Proofs.YtamoclofloijpaaGreatDoor

set_option linter.unusedVariables false
set_option linter.unusedSimpArgs false
namespace Go.Proofs.YtamoclofloijpaaGreatDoor
open Go.RowKit Go.Sort

def Grown (w w' : World) : Prop := ∃ q os, w' = grow (w.drewN q) os
theorem Grown.refl (w : World) : Grown w w := ⟨0, #[], by rw [grow_empty]; rfl⟩
theorem Grown.alloc {w a : World} (h : Grown w a) (o : Obj) : Grown w (a.alloc o) := by
  obtain ⟨q, os, rfl⟩ := h
  exact ⟨q, os ++ #[o], by rw [alloc_eq_grow, grow_grow]⟩
theorem Grown.drewN {w a : World} (h : Grown w a) (n : Nat) : Grown w (a.drewN n) := by
  obtain ⟨q, os, rfl⟩ := h
  refine ⟨q + n, os, ?_⟩
  rw [← World.drewN_drewN]
  rfl
theorem Grown.drew {w a : World} (h : Grown w a) : Grown w a.drew := h.drewN 1
theorem Grown.trans {w a b : World} (h : Grown w a) (k : Grown a b) : Grown w b := by
  obtain ⟨q, os, rfl⟩ := k
  obtain ⟨q2, os2, e⟩ := h.drewN q
  rw [e]
  exact ⟨q2, os2 ++ os, by rw [grow_grow]⟩
theorem Grown.below {w a : World} (h : Grown w a) : Below w.heap.size w a := by
  obtain ⟨q, os, rfl⟩ := h
  exact below_grow _ _ _
/-- What a comparing function answers, with new blocks alone. -/
def CmpP (r : Int) (w : World) (e : Ending) (w' : World) : Prop := e = .returned (.int .i64 r) ∧ ∃ q os', w' = grow (w.drewN q) os'
theorem bs_4i (e : Operand → Value) (o : Oper) (w : World) (i0 i1 i2 i3 : Nat) (z0 z1 z2 z3 : Int) (ho : o.op = .buildSlice 22 4 #[(0, .tmp i0), (1, .tmp i1), (2, .tmp i2), (3, .tmp i3)]) (h0 : e (.tmp i0) = .int .i64 z0) (h1 : e (.tmp i1) = .int .i64 z1) (h2 : e (.tmp i2) = .int .i64 z2) (h3 : e (.tmp i3) = .int .i64 z3) :
   (execOp e o).run Tryz.prog w = .ok (.value (.slice (some ⟨w.heap.size, 0, none⟩) 4 4)) (w.alloc (.cells #[.int .i64 z0, .int .i64 z1, .int .i64 z2, .int .i64 z3] 3)) := by
  unfold execOp
  rw [ho]
  simp only [List.map_toArray, List.map_cons, List.map_nil, h0, h1, h2, h3]
  kernel_rfl
theorem bs_3i (e : Operand → Value) (o : Oper) (w : World) (i0 i1 i2 : Nat) (z0 z1 z2 : Int) (ho : o.op = .buildSlice 22 3 #[(0, .tmp i0), (1, .tmp i1), (2, .tmp i2)]) (h0 : e (.tmp i0) = .int .i64 z0) (h1 : e (.tmp i1) = .int .i64 z1) (h2 : e (.tmp i2) = .int .i64 z2) :
   (execOp e o).run Tryz.prog w = .ok (.value (.slice (some ⟨w.heap.size, 0, none⟩) 3 3)) (w.alloc (.cells #[.int .i64 z0, .int .i64 z1, .int .i64 z2] 3)) := by
  unfold execOp
  rw [ho]
  simp only [List.map_toArray, List.map_cons, List.map_nil, h0, h1, h2]
  kernel_rfl
end Go.Proofs.YtamoclofloijpaaGreatDoor

set_option linter.unusedVariables false
set_option linter.unusedSimpArgs false
namespace Go.Proofs.YtamoclofloijpaaGreatDoor
open Go.RowKit

/-- The first one that is not 0; 0 where there is none. -/
def firstL : List Int → Int
  | [] => 0
  | a :: l => if a ≠ 0 then a else firstL l
theorem firstL_at : ∀ (l : List Int) (k : Nat), k < l.length → firstL (l.drop k) = if l.getD k 0 ≠ 0 then l.getD k 0 else firstL (l.drop (k + 1))
  | [], k, h => by simp at h
  | a :: l, 0, _ => rfl
  | a :: l, k + 1, h => firstL_at l k (by simpa using h)
theorem first3 (a b c : Int) : firstL [a, b, c] = firstE a (firstE b c) := by
  unfold firstL firstL firstL firstL firstE
  split <;> first | rfl | (split <;> first | rfl | (split <;> first | rfl | omega))
end Go.Proofs.YtamoclofloijpaaGreatDoor

set_option linter.unusedVariables false
set_option linter.unusedSimpArgs false
namespace Go.Proofs.YtamoclofloijpaaGreatDoor
open Go.RowKit

set_option maxRecDepth 100000 in
theorem orNI_any (l : List Int) (B n : Nat) (hn : n = l.length) (hl : n ≤ 1000) (w : World) (hB : B < w.heap.size) (hc : ∀ i, i < n → w.cell? ⟨B, i, none⟩ = some (.int .i64 (l.getD i 0))) : Calls Tryz.prog 68 #[.slice (some ⟨B, 0, none⟩) n n] w fun r w' => r = .returned (.int .i64 (firstL l)) ∧ w = w' := by
  have HC := Lib.hid hc
  have HF : Hid (∀ k, k < n → firstL (l.drop k) = if l.getD k 0 ≠ 0 then l.getD k 0 else firstL (l.drop (k + 1))) := fun k hk => firstL_at l k (by omega)
  have HZ : Hid (firstL (l.drop n) = 0) := by show _ = _; rw [hn, List.drop_length]; rfl
  have HS : Hid (firstL l = firstL (l.drop 0)) := rfl
  clear hc hn
  generalize firstL l = R at HS ⊢
  go_enter Tryz.func68, Tryz.ntmps68
  go_wp2_with fail
  go_loopw [8] (fun i wr => ∃ k : Nat, k ≤ n ∧ i = .int .i64 k ∧ Hid (R = firstL (l.drop k)) ∧ Hid (w = wr)) (fun i _ => n - (intOf i).toNat)
  case atStart => exact ⟨0, by omega, rfl, HS.out, rfl⟩
  case round =>
    obtain ⟨k, hk, rfl, HD, HW⟩ := hrel
    obtain rfl : w = wr := HW.out
    by_cases hlt : k < n
    · have c0 := HC.out k hlt
      have HFk := Lib.hid (HF.out k hlt)
      generalize l.getD k 0 = x at c0 HFk
      by_cases hx : x = 0
      · subst hx
        go_wp2_with fail
        go_roundw
        case rel => exact ⟨k + 1, by omega, by go_num, by show _ = _; rw [HD.out, HFk.out, if_neg (by simp)], (by first | exact rfl | exact True.intro)⟩
        case measure => simp [intOf]; omega
      · have hxb : (x == 0) = false := by simpa using hx
        have HE : Hid (R = x) := by show _ = _; rw [HD.out, HFk.out, if_pos hx]
        go_wp2_with fail
        go_ret
        exact ⟨by rw [HE.out]; rfl, rfl⟩
    · obtain rfl : k = n := by omega
      have HE : Hid (R = 0) := by show _ = _; rw [HD.out, HZ.out]
      go_wp2_with fail
      go_ret
      exact ⟨by rw [HE.out]; rfl, rfl⟩
theorem first4 (a b c d : Int) : firstL [a, b, c, d] = firstE a (firstE b (firstE c d)) := by
  unfold firstL firstL firstL firstL firstL firstE
  split <;> first | rfl | (split <;> first | rfl | (split <;> first | rfl | (split <;> first | rfl | omega)))
theorem or4I_any (a b c d : Int) (B : Nat) (w : World) (hB : B < w.heap.size) (h0 : w.cell? ⟨B, 0, none⟩ = some (.int .i64 a)) (h1 : w.cell? ⟨B, 1, none⟩ = some (.int .i64 b)) (h2 : w.cell? ⟨B, 2, none⟩ = some (.int .i64 c)) (h3 : w.cell? ⟨B, 3, none⟩ = some (.int .i64 d)) : Calls Tryz.prog 68 #[.slice (some ⟨B, 0, none⟩) 4 4] w fun r w' => r = .returned (.int .i64 (firstE a (firstE b (firstE c d)))) ∧ w = w' := by
  rw [← first4]
  exact orNI_any [a, b, c, d] B 4 rfl (by decide) w hB (fun i hi => by match i, hi with | 0, _ => exact h0 | 1, _ => exact h1 | 2, _ => exact h2 | 3, _ => exact h3)
theorem or3I_any (a b c : Int) (B : Nat) (w : World) (hB : B < w.heap.size) (h0 : w.cell? ⟨B, 0, none⟩ = some (.int .i64 a)) (h1 : w.cell? ⟨B, 1, none⟩ = some (.int .i64 b)) (h2 : w.cell? ⟨B, 2, none⟩ = some (.int .i64 c)) : Calls Tryz.prog 68 #[.slice (some ⟨B, 0, none⟩) 3 3] w fun r w' => r = .returned (.int .i64 (firstE a (firstE b c))) ∧ w = w' := by
  rw [← first3]
  exact orNI_any [a, b, c] B 3 rfl (by decide) w hB (fun i hi => by match i, hi with | 0, _ => exact h0 | 1, _ => exact h1 | 2, _ => exact h2)
end Go.Proofs.YtamoclofloijpaaGreatDoor

set_option linter.unusedVariables false
set_option linter.unusedSimpArgs false
namespace Go.Proofs.YtamoclofloijpaaGreatDoor
open Go.RowKit

theorem in2_any (n lo hi : Int) (w : World) : Calls Tryz.prog 59 #[.int .i64 n, .int .i64 lo, .int .i64 hi] w fun e w' => e = .returned (.bool (decide (lo ≤ n) && decide (n ≤ hi))) ∧ w = w' := by
  by_cases h : lo ≤ n
  · rw [decide_eq_true h]
    go_enter Tryz.func59, Tryz.ntmps59
    go_wp2_with fail
    go_ret
    exact ⟨rfl, rfl⟩
  · rw [decide_eq_false h]
    go_enter Tryz.func59, Tryz.ntmps59
    go_wp2_with fail
    go_ret
    exact ⟨rfl, rfl⟩
def sgnI (n : Int) : Int := if n < 0 then -1 else if 0 < n then 1 else 0
theorem sign2_any (n : Int) (w : World) : Calls Tryz.prog 100 #[.int .i64 n] w fun e w' => e = .returned (.int .i64 (sgnI n)) ∧ w = w' := by
  unfold sgnI
  by_cases h : n < 0
  · rw [if_pos h]
    go_enter Tryz.func100, Tryz.ntmps100
    go_wp2_with fail
    go_ret
    exact ⟨rfl, rfl⟩
  · rw [if_neg h]
    by_cases h2 : 0 < n
    · rw [if_pos h2]
      go_enter Tryz.func100, Tryz.ntmps100
      go_wp2_with fail
      go_ret
      exact ⟨rfl, rfl⟩
    · rw [if_neg h2]
      go_enter Tryz.func100, Tryz.ntmps100
      go_wp2_with fail
      go_ret
      exact ⟨rfl, rfl⟩
theorem moment2_any (n : Int) (w : World) : Calls Tryz.prog 60 #[.int .i64 n] w fun e w' => e = .returned (.bool (isMomB n)) ∧ w = w' := by
  have hm : Hid ((decide (0 ≤ n) && decide (n ≤ 345686399999)) = isMomB n) := by
    show _ = _
    unfold isMomB
    congr 1
    exact decide_eq_decide.2 (by omega)
  go_enter Tryz.func60, Tryz.ntmps60
  go_wp2_with fail
  refine (in2_any _ _ _ _).mono ?_
  rintro e w' ⟨rfl, rfl⟩
  rw [hm.out]
  go_wp2_with fail
  go_ret
  exact ⟨rfl, rfl⟩
/-- Whether all of a string's bytes are some. -/
def onlyB (s t : List UInt8) : Bool := s.all (fun c => t.contains c)
theorem ix_has (t : List UInt8) (c : UInt8) : (0 ≤ Lib.indexByte t c) ↔ t.contains c = true := by
  induction t with
  | nil => simp [Lib.indexByte]
  | cons b t ih =>
    unfold Lib.indexByte
    by_cases h : b = c
    · subst h; simp
    · have h1 : (b == c) = false := by simpa using h
      have hge := Lib.indexByte_ge t c
      rw [h1]
      simp only [List.contains_cons]
      have h2 : (c == b) = false := by simpa using (Ne.symm h)
      rw [h2, Bool.false_or, ← ih]
      by_cases h3 : Lib.indexByte t c = -1
      · rw [h3]; simp
      · have h4 : (Lib.indexByte t c == -1) = false := by simpa using h3
        rw [h4]; simp; omega
theorem onlyB_take (s t : List UInt8) (i : Nat) (hi : i < s.length) (h : t.contains (s.getD i 0) = false) : onlyB s t = false := by
  unfold onlyB
  rw [Bool.eq_false_iff]
  intro hh
  rw [List.all_eq_true] at hh
  have := hh _ (List.getElem_mem hi)
  simp only [List.getD_eq_getElem?_getD, List.getElem?_eq_getElem hi, Option.getD_some] at h
  rw [this] at h
  cases h
theorem onlyB_all (s t : List UInt8) (h : ∀ i, i < s.length → t.contains (s.getD i 0) = true) : onlyB s t = true := by
  unfold onlyB
  rw [List.all_eq_true]
  intro x hx
  obtain ⟨i, hi, rfl⟩ := List.getElem_of_mem hx
  have := h i hi
  rw [List.getD_eq_getElem?_getD, List.getElem?_eq_getElem hi] at this
  exact this
theorem byte_at (s : List UInt8) (i : Nat) (h : i < s.length) (h' : i < (⟨s.toArray⟩ : ByteArray).size) : (⟨s.toArray⟩ : ByteArray)[i] = s.getD i 0 := by
  rw [List.getD_eq_getElem?_getD, List.getElem?_eq_getElem h]
  rfl
set_option maxRecDepth 100000 in
theorem only2_any (s t : List UInt8) (w : World) (hs : s.length ≤ 1000000) : Calls Tryz.prog 101 #[.string ⟨s.toArray⟩, .string ⟨t.toArray⟩] w fun e w' => e = .returned (.bool (onlyB s t)) ∧ w = w' := by
  have HIX : Hid (∀ (c : UInt8) W, Calls Tryz.prog 160 #[.string ⟨t.toArray⟩, .int .u8 c.toNat] W fun e w' => e = .returned (.int .i64 (Lib.indexByte t c)) ∧ w' = W) := fun c W => by
    have := Tryz.strings_IndexByte ⟨t.toArray⟩ c.toNat W
    rw [show ((c.toNat : Int).toNat.toUInt8) = c by simp] at this
    exact this
  have HT := Lib.hid (fun i (hi : i < s.length) => onlyB_take s t i hi)
  have HA := Lib.hid (onlyB_all s t)
  obtain ⟨n, hn⟩ : ∃ n, n = s.length := ⟨_, rfl⟩
  have HN := Lib.hid hn
  have HB : Hid (∀ i (h : i < n) (h' : i < (⟨s.toArray⟩ : ByteArray).size), (⟨s.toArray⟩ : ByteArray)[i] = s.getD i 0) := fun i h h' => byte_at s i (by omega) h'
  have hsz : (⟨s.toArray⟩ : ByteArray).size = n := by rw [hn]; show s.toArray.size = _; simp
  rw [← hn] at HT HA hs
  generalize onlyB s t = R at HT HA ⊢
  generalize hf : (⟨s.toArray⟩ : ByteArray) = f at HB hsz ⊢
  clear hn hf
  go_enter Tryz.func101, Tryz.ntmps101
  go_wp2_with fail
  go_loopw [8] (fun it wr => ∃ i : Nat, i ≤ n ∧ it = .int .i64 i ∧ Hid (∀ m, m < i → t.contains (s.getD m 0) = true) ∧ Hid (w = wr)) (fun it _ => n - (intOf it).toNat)
  case atStart => exact ⟨0, Nat.zero_le _, rfl, (fun m hm => absurd hm (by omega)), rfl⟩
  case round =>
    obtain ⟨i, hi, rfl, HM, HW⟩ := hrel
    obtain rfl : w = wr := HW.out
    by_cases hlt : i < n
    · have hsi : i < f.size := by omega
      have hbi := HB.out i hlt hsi
      have hin : (i : Int) < (n : Int) := by omega
      have HIC := Lib.hid (HIX.out (s.getD i 0))
      have HC := Lib.hid (ix_has t (s.getD i 0))
      have HTI := Lib.hid (HT.out i hlt)
      obtain ⟨c, hcc⟩ : ∃ c, c = s.getD i 0 := ⟨_, rfl⟩
      have HCC := Lib.hid hcc
      rw [← hcc] at hbi HIC HC HTI
      clear hcc
      go_wp2_with fail
      refine (HIC.out _).mono ?_
      rintro e w' ⟨rfl, rfl⟩
      by_cases hc : t.contains c = true
      · have hx : ¬ Lib.indexByte t c < 0 := by have := HC.out.2 hc; omega
        have HCT := Lib.hid hc
        generalize Lib.indexByte t c = ix at hx
        clear hc
        go_wp2_with fail
        go_roundw
        case rel => exact ⟨i + 1, by omega, by go_num, (fun m hm => (by
          by_cases e : m = i
          · rw [e, ← HCC.out]; exact HCT.out
          · exact HM.out m (by omega))), (by first | exact rfl | exact True.intro)⟩
        case measure => simp [intOf]; omega
      · have hx : Lib.indexByte t c < 0 := by
          have h1 : ¬ 0 ≤ Lib.indexByte t c := fun h => hc (HC.out.1 h)
          omega
        have HR : Hid (R = false) := HTI.out (by simpa using hc)
        generalize Lib.indexByte t c = ix at hx
        clear hc
        go_wp2_with fail
        go_ret
        exact ⟨by rw [HR.out]; rfl, rfl⟩
    · obtain rfl : i = n := by omega
      have hin : ¬ ((i : Int) < (i : Int)) := by omega
      have HR : Hid (R = true) := HA.out HM.out
      go_wp2_with fail
      go_ret
      exact ⟨by rw [HR.out]; rfl, rfl⟩
def smallsL : List UInt8 := [97, 98, 99, 100, 101, 102, 103, 104, 105, 106, 107, 108, 109, 110, 111, 112, 113, 114, 115, 116, 117, 118, 119, 120, 121, 122]
theorem small_iff (c : UInt8) : smallsL.contains c = (decide (97 ≤ c.toNat) && decide (c.toNat ≤ 122)) := by
  have key : ∀ n : Fin 256, smallsL.contains (UInt8.ofNat n.val) = (decide (97 ≤ n.val) && decide (n.val ≤ 122)) := by decide +kernel
  have := key ⟨c.toNat, UInt8.toNat_lt c⟩
  simpa using this
theorem key_parts (s : List UInt8) (h1 : 1 ≤ s.length) (h2 : s.length ≤ 40) : isKeyB s = (onlyB (s.take 1) smallsL && onlyB s keySet) := by
  cases s with
  | nil => simp at h1
  | cons c l =>
    have e : onlyB (c :: l) keySet = allIn (c :: l) keySet := (allIn_all _ _).symm
    have e2 : onlyB ((c :: l).take 1) smallsL = (decide (97 ≤ c.toNat) && decide (c.toNat ≤ 122)) := by
      rw [← small_iff]; simp [onlyB]
    rw [e, e2]
    unfold isKeyB
    rw [decide_eq_true h1, decide_eq_true h2, List.headD_cons, Bool.true_and, Bool.true_and, Bool.and_assoc]
theorem extract_one (s : List UInt8) (h : 1 ≤ s.length) : (⟨s.toArray⟩ : ByteArray).extract 0 1 = ⟨(s.take 1).toArray⟩ := by
  simp [ByteArray.extract, ByteArray.copySlice]
set_option maxRecDepth 100000 in
theorem key2_any (s : List UInt8) (w : World) (hs : s.length ≤ 1000000) : Calls Tryz.prog 58 #[.string ⟨s.toArray⟩] w fun e w' => e = .returned (.bool (isKeyB s)) ∧ w = w' := by
  have H1 : Hid (∀ W, Calls Tryz.prog 101 #[.string ⟨(s.take 1).toArray⟩, .string ⟨smallsL.toArray⟩] W fun e w' => e = .returned (.bool (onlyB (s.take 1) smallsL)) ∧ W = w') := fun W => only2_any _ _ W (by rw [List.length_take]; omega)
  have H2 : Hid (∀ W, Calls Tryz.prog 101 #[.string ⟨s.toArray⟩, .string ⟨keySet.toArray⟩] W fun e w' => e = .returned (.bool (onlyB s keySet)) ∧ W = w') := fun W => only2_any _ _ W hs
  by_cases hr : 1 ≤ s.length ∧ s.length ≤ 40
  case neg =>
    have HK : Hid (isKeyB s = false) := by
      show isKeyB s = false
      unfold isKeyB
      by_cases h1 : 1 ≤ s.length
      · rw [decide_eq_true h1, decide_eq_false (fun h2 => hr ⟨h1, h2⟩)]; rfl
      · rw [decide_eq_false h1]; rfl
    have HI : Hid ((decide ((1 : Int) ≤ (s.length : Int)) && decide ((s.length : Int) ≤ 40)) = false) := by
      show _ = _
      by_cases h1 : 1 ≤ s.length
      · rw [decide_eq_false (show ¬ ((s.length : Int) ≤ 40) by omega), Bool.and_false]
      · rw [decide_eq_false (show ¬ ((1 : Int) ≤ (s.length : Int)) by omega), Bool.false_and]
    clear hr
    generalize isKeyB s = R at HK ⊢
    go_enter Tryz.func58, Tryz.ntmps58
    go_wp2_with fail
    refine (in2_any _ _ _ _).mono ?_
    rintro e w' ⟨rfl, rfl⟩
    rw [HI.out]
    go_wp2_with fail
    go_ret
    exact ⟨by rw [HK.out]; rfl, rfl⟩
  have HK := Lib.hid (key_parts s hr.1 hr.2)
  have HI : Hid ((decide ((1 : Int) ≤ (s.length : Int)) && decide ((s.length : Int) ≤ 40)) = true) := by
    show _ = _
    rw [decide_eq_true (show (1 : Int) ≤ (s.length : Int) by omega), decide_eq_true (show (s.length : Int) ≤ 40 by omega)]; rfl
  have HX := Lib.hid (extract_one s hr.1)
  have hs1 : 1 ≤ s.length := hr.1
  clear hr
  generalize isKeyB s = R at HK ⊢
  generalize onlyB (s.take 1) smallsL = b1 at HK H1
  generalize onlyB s keySet = b2 at HK H2
  go_enter Tryz.func58, Tryz.ntmps58
  go_wp2_with fail
  refine (in2_any _ _ _ _).mono ?_
  rintro e w' ⟨rfl, rfl⟩
  rw [HI.out]
  go_wp2_with fail
  rw [HX.out]
  refine (H1.out _).mono ?_
  rintro e w' ⟨rfl, rfl⟩
  cases b1
  · go_wp2_with fail
    go_ret
    exact ⟨by rw [HK.out]; rfl, rfl⟩
  · go_wp2_with fail
    refine (H2.out _).mono ?_
    rintro e w' ⟨rfl, rfl⟩
    go_wp2_with fail
    go_ret
    exact ⟨by rw [HK.out]; rfl, rfl⟩
end Go.Proofs.YtamoclofloijpaaGreatDoor

set_option linter.unusedVariables false
set_option linter.unusedSimpArgs false
namespace Go.Proofs.YtamoclofloijpaaGreatDoor
open Go.RowKit

set_option maxRecDepth 100000 in
theorem orI_any (a b : Int) (B : Nat) (w : World) (hB : B < w.heap.size) (h0 : w.cell? ⟨B, 0, none⟩ = some (.int .i64 a)) (h1 : w.cell? ⟨B, 1, none⟩ = some (.int .i64 b)) : Calls Tryz.prog 68 #[.slice (some ⟨B, 0, none⟩) 2 2] w fun r w' => r = .returned (.int .i64 (firstE a b)) ∧ w = w' := by
  by_cases ha : a = 0
  · subst ha
    by_cases hb : b = 0
    · subst hb
      go_enter Tryz.func68, Tryz.ntmps68
      go_wp2_with fail
      go_loopw [8] (fun i wr => ∃ k : Nat, k ≤ 2 ∧ i = .int .i64 k ∧ wr = w) (fun i _ => 2 - (intOf i).toNat)
      case atStart => exact ⟨0, by omega, rfl, rfl⟩
      case round =>
        obtain ⟨k, hk, rfl, rfl⟩ := hrel
        have hkc : k = 0 ∨ k = 1 ∨ k = 2 := by omega
        rcases hkc with rfl | rfl | rfl
        · go_wp2_with fail
          go_roundw
          case rel => exact ⟨1, by omega, by go_num, trivial⟩
          case measure => simp [intOf]
        · go_wp2_with fail
          go_roundw
          case rel => exact ⟨2, by omega, by go_num, trivial⟩
          case measure => simp [intOf]
        · go_wp2_with fail
          go_ret
          exact ⟨rfl, rfl⟩
    · have hbb : (b == 0) = false := by simpa using hb
      have HF : Hid (firstE 0 b = b) := by show _ = _; unfold firstE; rw [if_neg (by simp)]
      go_enter Tryz.func68, Tryz.ntmps68
      go_wp2_with fail
      go_loopw [8] (fun i wr => ∃ k : Nat, k ≤ 1 ∧ i = .int .i64 k ∧ wr = w) (fun i _ => 2 - (intOf i).toNat)
      case atStart => exact ⟨0, by omega, rfl, rfl⟩
      case round =>
        obtain ⟨k, hk, rfl, rfl⟩ := hrel
        have hkc : k = 0 ∨ k = 1 := by omega
        rcases hkc with rfl | rfl
        · go_wp2_with fail
          go_roundw
          case rel => exact ⟨1, by omega, by go_num, trivial⟩
          case measure => simp [intOf]
        · go_wp2_with fail
          go_ret
          exact ⟨by rw [HF.out]; rfl, rfl⟩
  · have hab : (a == 0) = false := by simpa using ha
    have HF : Hid (firstE a b = a) := by show _ = _; unfold firstE; rw [if_pos ha]
    go_enter Tryz.func68, Tryz.ntmps68
    go_wp2_with fail
    go_loopw [8] (fun i wr => i = .int .i64 0 ∧ wr = w) (fun i _ => 0)
    case atStart => exact ⟨rfl, rfl⟩
    case round =>
      obtain ⟨rfl, rfl⟩ := hrel
      go_wp2_with fail
      go_ret
      exact ⟨by rw [HF.out]; rfl, rfl⟩

/-- The sign says how two things stand. -/
def SignPost (lt eq : Prop) (w : World) (e : Ending) (w' : World) : Prop := ∃ r : Int, e = .returned (.int .i64 r) ∧ (r < 0 ↔ lt) ∧ (r = 0 ↔ eq) ∧ w' = w
theorem cmpI_any (x y : Int) (w : World) : Calls Tryz.prog 69 #[.int .i64 x, .int .i64 y] w (SignPost (x < y) (x = y) w) := by
  refine (Tryz.cmp_Compare x y w).mono ?_
  rintro e w' ⟨rfl, rfl⟩
  refine ⟨_, rfl, ?_, ?_, rfl⟩ <;> unfold Lib.compareInt <;> split <;> first | omega | (split <;> omega)
theorem cmpB_any (x y : List UInt8) (w : World) : Calls Tryz.prog 87 #[.string ⟨x.toArray⟩, .string ⟨y.toArray⟩] w (SignPost (Op.bytesLess x y = true) (x = y) w) := by
  refine (Tryz.strings_Compare ⟨x.toArray⟩ ⟨y.toArray⟩ w).mono ?_
  rintro e w' ⟨rfl, rfl⟩
  exact ⟨_, rfl, cmp_neg x y, cmp_zero x y, rfl⟩
theorem nanS_any (x : List UInt8) (w : World) : Calls Tryz.prog 196 #[.string ⟨x.toArray⟩] w fun e w' => e = .returned (.bool false) ∧ w' = w := by
  go_enter Tryz.func196, Tryz.ntmps196
  go_wp2_with fail
  go_ret
  exact ⟨by first | rfl | simp, rfl⟩
theorem less_asym {x y : List UInt8} (h : Op.bytesLess x y = true) : Op.bytesLess y x = false ∧ x ≠ y := by
  refine ⟨?_, ?_⟩
  · cases h2 : Op.bytesLess y x with
    | false => rfl
    | true => rw [← less_irrefl x, ← less_trans h h2]
  · rintro rfl
    rw [less_irrefl] at h
    cases h
theorem cmpS_any (x y : List UInt8) (w : World) : Calls Tryz.prog 159 #[.string ⟨x.toArray⟩, .string ⟨y.toArray⟩] w (SignPost (Op.bytesLess x y = true) (x = y) w) := by
  by_cases h1 : Op.bytesLess x y = true
  · obtain ⟨h2, h3⟩ := less_asym h1
    have HL := Lib.hid h1
    have HN := Lib.hid h3
    have hxy : (x == y) = false := beq_eq_false_iff_ne.2 h3
    clear h3
    go_enter Tryz.func159, Tryz.ntmps159
    go_wp2_with (go_at_call 196; refine (nanS_any _ _).mono ?_; rintro e w' ⟨rfl, rfl⟩)
    go_ret
    exact ⟨-1, rfl, by simp [HL.out], by simp [HN.out], rfl⟩
  · have h1' : Op.bytesLess x y = false := by simpa using h1
    by_cases h3 : x = y
    · subst h3
      have HI := Lib.hid (less_irrefl x)
      go_enter Tryz.func159, Tryz.ntmps159
      go_wp2_with (go_at_call 196; refine (nanS_any _ _).mono ?_; rintro e w' ⟨rfl, rfl⟩)
      go_ret
      exact ⟨0, rfl, by simp [HI.out], by simp, rfl⟩
    · have h2 : Op.bytesLess y x = true := less_total x y h1' h3
      have hxy : (x == y) = false := beq_eq_false_iff_ne.2 h3
      have HL := Lib.hid h1'
      have HN := Lib.hid h3
      clear h3 h1
      go_enter Tryz.func159, Tryz.ntmps159
      go_wp2_with (go_at_call 196; refine (nanS_any _ _).mono ?_; rintro e w' ⟨rfl, rfl⟩)
      go_ret
      exact ⟨1, rfl, by simp [HL.out], by simp [HN.out], rfl⟩
theorem first_sign {a b : Int} {P Q R : Prop} (h1 : a < 0 ↔ P) (h2 : a = 0 ↔ Q) (h3 : b < 0 ↔ R) : firstE a b < 0 ↔ (P ∨ Q ∧ R) := by
  unfold firstE
  rw [← h1, ← h2, ← h3]
  split <;> omega

theorem idxS (n : Nat) (hn : n < 256) : Lib.indexByte [97, 98, 99, 100, 101, 102, 103, 104, 105, 106, 107, 108, 109, 110, 111, 112, 113, 114, 115, 116, 117, 118, 119, 120, 121, 122] ((n : Int).toNat.toUInt8) = if 97 ≤ n ∧ n ≤ 122 then ((n - 97 : Nat) : Int) else -1 := by
  have : ∀ i : Fin 256, Lib.indexByte [97, 98, 99, 100, 101, 102, 103, 104, 105, 106, 107, 108, 109, 110, 111, 112, 113, 114, 115, 116, 117, 118, 119, 120, 121, 122] ((i.val : Int).toNat.toUInt8) = if 97 ≤ i.val ∧ i.val ≤ 122 then ((i.val - 97 : Nat) : Int) else -1 := by decide +kernel
  exact this ⟨n, hn⟩
theorem smallS (n : Nat) (hn : n < 256) (w : World) : Calls Tryz.prog 160 #[.string ⟨#[97, 98, 99, 100, 101, 102, 103, 104, 105, 106, 107, 108, 109, 110, 111, 112, 113, 114, 115, 116, 117, 118, 119, 120, 121, 122]⟩, .int .u8 n] w fun e w' => e = .returned (.int .i64 (if 97 ≤ n ∧ n ≤ 122 then ((n - 97 : Nat) : Int) else -1)) ∧ w' = w := by
  rw [← idxS n hn]
  exact Tryz.strings_IndexByte _ _ w
end Go.Proofs.YtamoclofloijpaaGreatDoor

set_option linter.unusedVariables false
set_option linter.unusedSimpArgs false
namespace Go.Proofs.YtamoclofloijpaaGreatDoor
open Go.RowKit

theorem cb_range : ∀ (a b : List UInt8), -1 ≤ Lib.compareBytes a b ∧ Lib.compareBytes a b ≤ 1
  | [], [] => by simp [Lib.compareBytes]
  | [], _ :: _ => by simp [Lib.compareBytes]
  | _ :: _, [] => by simp [Lib.compareBytes]
  | a :: l1, b :: l2 => by
    unfold Lib.compareBytes
    split
    · omega
    · split
      · omega
      · exact cb_range l1 l2
theorem cmpX_any (x y : List UInt8) (w : World) : Calls Tryz.prog 159 #[.string ⟨x.toArray⟩, .string ⟨y.toArray⟩] w fun e w' => e = .returned (.int .i64 (Lib.compareBytes x y)) ∧ w' = w := by
  have hr := cb_range x y
  have h1 := cmp_neg x y
  have h0 := cmp_zero x y
  by_cases hl : Op.bytesLess x y = true
  · have h := h1.2 hl
    have HV : Hid (Lib.compareBytes x y = -1) := by show _ = _; omega
    obtain ⟨h2, h3⟩ := less_asym hl
    have hxy : (x == y) = false := beq_eq_false_iff_ne.2 h3
    generalize Lib.compareBytes x y = r at HV ⊢
    clear hr h1 h0 h h3
    go_enter Tryz.func159, Tryz.ntmps159
    go_wp2_with (go_at_call 196; refine (nanS_any _ _).mono ?_; rintro e w' ⟨rfl, rfl⟩)
    go_ret
    exact ⟨by rw [HV.out]; rfl, rfl⟩
  · have hl' : Op.bytesLess x y = false := by simpa using hl
    by_cases h3 : x = y
    · have HV : Hid (Lib.compareBytes x y = 0) := h0.2 h3
      subst h3
      generalize Lib.compareBytes x x = r at HV ⊢
      clear hr h1 h0 hl
      go_enter Tryz.func159, Tryz.ntmps159
      go_wp2_with (go_at_call 196; refine (nanS_any _ _).mono ?_; rintro e w' ⟨rfl, rfl⟩)
      go_ret
      exact ⟨by rw [HV.out]; rfl, rfl⟩
    · have h2 : Op.bytesLess y x = true := less_total x y hl' h3
      have hxy : (x == y) = false := beq_eq_false_iff_ne.2 h3
      have HV : Hid (Lib.compareBytes x y = 1) := by
        show _ = _
        have a1 : ¬ Lib.compareBytes x y < 0 := fun h => hl (h1.1 h)
        have a2 : ¬ Lib.compareBytes x y = 0 := fun h => h3 (h0.1 h)
        omega
      generalize Lib.compareBytes x y = r at HV ⊢
      clear hr h1 h0 hl h3
      go_enter Tryz.func159, Tryz.ntmps159
      go_wp2_with (go_at_call 196; refine (nanS_any _ _).mono ?_; rintro e w' ⟨rfl, rfl⟩)
      go_ret
      exact ⟨by rw [HV.out]; rfl, rfl⟩
set_option maxRecDepth 100000 in
set_option maxHeartbeats 2000000 in
theorem pairCmp_any (g1 g2 : Nat) (x1 x2 y1 y2 : List UInt8) (w : World) (h1 : w.cell? ⟨g1, 0, none⟩ = some (.string ⟨x1.toArray⟩)) (h2 : w.cell? ⟨g1, 1, none⟩ = some (.string ⟨x2.toArray⟩)) (h3 : w.cell? ⟨g2, 0, none⟩ = some (.string ⟨y1.toArray⟩)) (h4 : w.cell? ⟨g2, 1, none⟩ = some (.string ⟨y2.toArray⟩)) :
    Calls Tryz.prog 99 #[.slice (some ⟨g1, 0, none⟩) 2 2, .slice (some ⟨g2, 0, none⟩) 2 2] w fun e w' => e = .returned (.int .i64 (firstE (Lib.compareBytes x1 y1) (Lib.compareBytes x2 y2))) ∧ w' = w := by
  have HA := Lib.hid (fun w => cmpX_any x1 y1 w)
  have HB := Lib.hid (fun w => cmpX_any x2 y2 w)
  generalize Lib.compareBytes x1 y1 = r1 at HA ⊢
  generalize Lib.compareBytes x2 y2 = r2 at HB ⊢
  by_cases hr1 : r1 = 0
  · subst hr1
    by_cases hr2 : r2 = 0
    · subst hr2
      go_enter Tryz.func99, Tryz.ntmps99
      go_wp2_with fail
      go_loopw [11] (fun i wr => ∃ k : Nat, k ≤ 2 ∧ i = .int .i64 k ∧ wr = w) (fun i _ => 2 - (intOf i).toNat)
      case atStart => exact ⟨0, by omega, rfl, rfl⟩
      case round =>
        obtain ⟨k, hk, rfl, rfl⟩ := hrel
        have hkc : k = 0 ∨ k = 1 ∨ k = 2 := by omega
        rcases hkc with rfl | rfl | rfl
        · go_wp2_with fail
          refine (HA.out _).mono ?_
          rintro e w' ⟨rfl, hw⟩
          replace hw := hw.symm
          subst hw
          go_wp2_with fail
          go_roundw
          case rel => exact ⟨1, by omega, by go_num, trivial⟩
          case measure => simp [intOf]
        · go_wp2_with fail
          refine (HB.out _).mono ?_
          rintro e w' ⟨rfl, hw⟩
          replace hw := hw.symm
          subst hw
          go_wp2_with fail
          go_roundw
          case rel => exact ⟨2, by omega, by go_num, trivial⟩
          case measure => simp [intOf]
        · go_wp2_with fail
          go_ret
          exact ⟨rfl, rfl⟩
    · have hb2 : (r2 != 0) = true := bne_iff_ne.2 hr2
      have HF : Hid (firstE 0 r2 = r2) := by show _ = _; unfold firstE; rw [if_neg (by simp)]
      go_enter Tryz.func99, Tryz.ntmps99
      go_wp2_with fail
      go_loopw [11] (fun i wr => ∃ k : Nat, k ≤ 1 ∧ i = .int .i64 k ∧ wr = w) (fun i _ => 2 - (intOf i).toNat)
      case atStart => exact ⟨0, by omega, rfl, rfl⟩
      case round =>
        obtain ⟨k, hk, rfl, rfl⟩ := hrel
        have hkc : k = 0 ∨ k = 1 := by omega
        rcases hkc with rfl | rfl
        · go_wp2_with fail
          refine (HA.out _).mono ?_
          rintro e w' ⟨rfl, hw⟩
          replace hw := hw.symm
          subst hw
          go_wp2_with fail
          go_roundw
          case rel => exact ⟨1, by omega, by go_num, trivial⟩
          case measure => simp [intOf]
        · go_wp2_with fail
          refine (HB.out _).mono ?_
          rintro e w' ⟨rfl, hw⟩
          replace hw := hw.symm
          subst hw
          go_wp2_with fail
          go_ret
          exact ⟨by rw [HF.out]; rfl, rfl⟩
  · have hb1 : (r1 != 0) = true := bne_iff_ne.2 hr1
    have HF : Hid (firstE r1 r2 = r1) := by show _ = _; unfold firstE; rw [if_pos hr1]
    go_enter Tryz.func99, Tryz.ntmps99
    go_wp2_with fail
    go_loopw [11] (fun i wr => i = .int .i64 0 ∧ wr = w) (fun i _ => 0)
    case atStart => exact ⟨rfl, rfl⟩
    case round =>
      obtain ⟨rfl, rfl⟩ := hrel
      go_wp2_with fail
      refine (HA.out _).mono ?_
      rintro e w' ⟨rfl, hw⟩
      replace hw := hw.symm
      subst hw
      go_wp2_with fail
      go_ret
      exact ⟨by rw [HF.out]; rfl, rfl⟩
end Go.Proofs.YtamoclofloijpaaGreatDoor

set_option linter.unusedVariables false
set_option linter.unusedSimpArgs false
namespace Go.Proofs.YtamoclofloijpaaGreatDoor
open Go.RowKit Go.Sort Go.Lib

theorem wp_valA {P : Program} {o : Oper} {a : Act} {w w' : World} {v : Value} {K : Act → World → Prop} {Q : Exit → Act → World → Prop} (h : (execOp a.eval o).run P w = .ok (.value v) w') (hK : K (a.put o.dst v) w') : Oper.wp P o a w K Q := by
  unfold Oper.wp; rw [h]; exact hK
set_option maxRecDepth 100000 in
set_option maxHeartbeats 8000000 in
theorem cmpActs_core (x0 x3 x4 y0 y3 y4 : Int) (x1 x2 x5 y1 y2 y5 : ByteArray) (r0 r1 r2 r3 : Int) (W : World) (h0 : ∀ W, Calls Tryz.prog 69 #[.int .i64 x0, .int .i64 y0] W fun e w' => e = .returned (.int .i64 r0) ∧ w' = W) (h1 : ∀ W, Calls Tryz.prog 87 #[.string x1, .string y1] W fun e w' => e = .returned (.int .i64 r1) ∧ w' = W) (h2 : ∀ W, Calls Tryz.prog 87 #[.string x2, .string y2] W fun e w' => e = .returned (.int .i64 r2) ∧ w' = W) (h3 : ∀ W, Calls Tryz.prog 69 #[.int .i64 x3, .int .i64 y3] W fun e w' => e = .returned (.int .i64 r3) ∧ w' = W) :
    Calls Tryz.prog 38 #[.agg #[.int .i64 x0, .string x1, .string x2, .int .i64 x3, .int .i64 x4, .string x5], .agg #[.int .i64 y0, .string y1, .string y2, .int .i64 y3, .int .i64 y4, .string y5]] W (CmpP (firstE r0 (firstE r1 (firstE r2 r3))) W) := by
  have H0 := Lib.hid h0
  have H1 := Lib.hid h1
  have H2 := Lib.hid h2
  have H3 := Lib.hid h3
  clear h0 h1 h2 h3
  go_enter Tryz.func38, Tryz.ntmps38
  go_upto_region 1 with (fail)
  have HGR : Hid (Grown W ((W.alloc (.cells #[.int .i64 x0, .string x1, .string x2, .int .i64 x3, .int .i64 x4, .string x5] 45)).alloc (.cells #[.int .i64 y0, .string y1, .string y2, .int .i64 y3, .int .i64 y4, .string y5] 45))) := ((Grown.refl W).alloc _).alloc _
  have HX : Hid (Blk ((W.alloc (.cells #[.int .i64 x0, .string x1, .string x2, .int .i64 x3, .int .i64 x4, .string x5] 45)).alloc (.cells #[.int .i64 y0, .string y1, .string y2, .int .i64 y3, .int .i64 y4, .string y5] 45)) W.heap.size [.int .i64 x0, .string x1, .string x2, .int .i64 x3, .int .i64 x4, .string x5] 45) := (Blk.new W [.int .i64 x0, .string x1, .string x2, .int .i64 x3, .int .i64 x4, .string x5] 45).alloc _
  have HY : Hid (Blk ((W.alloc (.cells #[.int .i64 x0, .string x1, .string x2, .int .i64 x3, .int .i64 x4, .string x5] 45)).alloc (.cells #[.int .i64 y0, .string y1, .string y2, .int .i64 y3, .int .i64 y4, .string y5] 45)) (W.alloc (.cells #[.int .i64 x0, .string x1, .string x2, .int .i64 x3, .int .i64 x4, .string x5] 45)).heap.size [.int .i64 y0, .string y1, .string y2, .int .i64 y3, .int .i64 y4, .string y5] 45) := Blk.new _ _ _
  have hsz : (W.alloc (.cells #[.int .i64 x0, .string x1, .string x2, .int .i64 x3, .int .i64 x4, .string x5] 45)).heap.size = W.heap.size + 1 := by simp
  rw [hsz] at HY
  clear hsz
  generalize ((W.alloc (.cells #[.int .i64 x0, .string x1, .string x2, .int .i64 x3, .int .i64 x4, .string x5] 45)).alloc (.cells #[.int .i64 y0, .string y1, .string y2, .int .i64 y3, .int .i64 y4, .string y5] 45)) = w1 at HGR HX HY ⊢
  generalize W.heap.size = B at HX HY ⊢
  have hd : Below w1.heap.size w1 w1.drew := ext_drew (Below.refl _ _)
  have HXd := Lib.hid (HX.out.below hd)
  have HYd := Lib.hid (HY.out.below hd)
  have HGd := Lib.hid HGR.out.drew
  clear hd HX HY HGR
  have HCE : Hid (∀ W9, Below w1.drew.heap.size w1.drew W9 → (W9.cell? ⟨B, 0, none⟩ = some (.int .i64 x0) ∧ W9.cell? ⟨B, 1, none⟩ = some (.string x1) ∧ W9.cell? ⟨B, 2, none⟩ = some (.string x2) ∧ W9.cell? ⟨B, 3, none⟩ = some (.int .i64 x3)) ∧ (W9.cell? ⟨B + 1, 0, none⟩ = some (.int .i64 y0) ∧ W9.cell? ⟨B + 1, 1, none⟩ = some (.string y1) ∧ W9.cell? ⟨B + 1, 2, none⟩ = some (.string y2) ∧ W9.cell? ⟨B + 1, 3, none⟩ = some (.int .i64 y3))) := fun W9 hW => ⟨⟨(HXd.out.below hW).cell 0 rfl, (HXd.out.below hW).cell 1 rfl, (HXd.out.below hW).cell 2 rfl, (HXd.out.below hW).cell 3 rfl⟩, ⟨(HYd.out.below hW).cell 0 rfl, (HYd.out.below hW).cell 1 rfl, (HYd.out.below hW).cell 2 rfl, (HYd.out.below hW).cell 3 rfl⟩⟩
  refine region_seqI (S := fun W9 => Below w1.drew.heap.size w1.drew W9) [(true, 0), (true, 1), (true, 2), (true, 3), (true, 5), (true, 6), (true, 7), (true, 8), (true, 10), (true, 11), (true, 12), (true, 13), (true, 15), (true, 16), (true, 17), (true, 18), (false, 4), (false, 9), (false, 14), (false, 19), (false, 20), (false, 21), (true, 22)] (by kernel_rfl) (by kernel_rfl) rfl (by kernel_rfl) (Below.refl _ _) ?_
  generalize w1.drew = wd at HCE HXd HYd HGd ⊢
  simp only [seqOps, List.getD_cons_zero, List.getD_cons_succ]
  refine seqI_take (v := .pointer (some ⟨B, 0, none⟩)) rfl (fun W9 hW => by clear hW; go_simp) (fun _ _ _ h => h) ?_
  simp only [Act.put, List.setIfInBounds_toArray, List.set_cons_zero, List.set_cons_succ]
  refine seqI_take (v := .int .i64 x0) rfl (fun W9 hW => by obtain ⟨⟨p0, p1, p2, p3⟩, ⟨q0, q1, q2, q3⟩⟩ := HCE.out W9 hW; clear hW; go_simp) (fun _ _ _ h => h) ?_
  simp only [Act.put, List.setIfInBounds_toArray, List.set_cons_zero, List.set_cons_succ]
  refine seqI_take (v := .pointer (some ⟨B + 1, 0, none⟩)) rfl (fun W9 hW => by clear hW; go_simp) (fun _ _ _ h => h) ?_
  simp only [Act.put, List.setIfInBounds_toArray, List.set_cons_zero, List.set_cons_succ]
  refine seqI_take (v := .int .i64 y0) rfl (fun W9 hW => by obtain ⟨⟨p0, p1, p2, p3⟩, ⟨q0, q1, q2, q3⟩⟩ := HCE.out W9 hW; clear hW; go_simp) (fun _ _ _ h => h) ?_
  simp only [Act.put, List.setIfInBounds_toArray, List.set_cons_zero, List.set_cons_succ]
  refine seqI_take (v := .pointer (some ⟨B, 1, none⟩)) rfl (fun W9 hW => by clear hW; go_simp) (fun _ _ _ h => h) ?_
  simp only [Act.put, List.setIfInBounds_toArray, List.set_cons_zero, List.set_cons_succ]
  refine seqI_take (v := .string x1) rfl (fun W9 hW => by obtain ⟨⟨p0, p1, p2, p3⟩, ⟨q0, q1, q2, q3⟩⟩ := HCE.out W9 hW; clear hW; go_simp) (fun _ _ _ h => h) ?_
  simp only [Act.put, List.setIfInBounds_toArray, List.set_cons_zero, List.set_cons_succ]
  refine seqI_take (v := .pointer (some ⟨B + 1, 1, none⟩)) rfl (fun W9 hW => by clear hW; go_simp) (fun _ _ _ h => h) ?_
  simp only [Act.put, List.setIfInBounds_toArray, List.set_cons_zero, List.set_cons_succ]
  refine seqI_take (v := .string y1) rfl (fun W9 hW => by obtain ⟨⟨p0, p1, p2, p3⟩, ⟨q0, q1, q2, q3⟩⟩ := HCE.out W9 hW; clear hW; go_simp) (fun _ _ _ h => h) ?_
  simp only [Act.put, List.setIfInBounds_toArray, List.set_cons_zero, List.set_cons_succ]
  refine seqI_take (v := .pointer (some ⟨B, 2, none⟩)) rfl (fun W9 hW => by clear hW; go_simp) (fun _ _ _ h => h) ?_
  simp only [Act.put, List.setIfInBounds_toArray, List.set_cons_zero, List.set_cons_succ]
  refine seqI_take (v := .string x2) rfl (fun W9 hW => by obtain ⟨⟨p0, p1, p2, p3⟩, ⟨q0, q1, q2, q3⟩⟩ := HCE.out W9 hW; clear hW; go_simp) (fun _ _ _ h => h) ?_
  simp only [Act.put, List.setIfInBounds_toArray, List.set_cons_zero, List.set_cons_succ]
  refine seqI_take (v := .pointer (some ⟨B + 1, 2, none⟩)) rfl (fun W9 hW => by clear hW; go_simp) (fun _ _ _ h => h) ?_
  simp only [Act.put, List.setIfInBounds_toArray, List.set_cons_zero, List.set_cons_succ]
  refine seqI_take (v := .string y2) rfl (fun W9 hW => by obtain ⟨⟨p0, p1, p2, p3⟩, ⟨q0, q1, q2, q3⟩⟩ := HCE.out W9 hW; clear hW; go_simp) (fun _ _ _ h => h) ?_
  simp only [Act.put, List.setIfInBounds_toArray, List.set_cons_zero, List.set_cons_succ]
  refine seqI_take (v := .pointer (some ⟨B, 3, none⟩)) rfl (fun W9 hW => by clear hW; go_simp) (fun _ _ _ h => h) ?_
  simp only [Act.put, List.setIfInBounds_toArray, List.set_cons_zero, List.set_cons_succ]
  refine seqI_take (v := .int .i64 x3) rfl (fun W9 hW => by obtain ⟨⟨p0, p1, p2, p3⟩, ⟨q0, q1, q2, q3⟩⟩ := HCE.out W9 hW; clear hW; go_simp) (fun _ _ _ h => h) ?_
  simp only [Act.put, List.setIfInBounds_toArray, List.set_cons_zero, List.set_cons_succ]
  refine seqI_take (v := .pointer (some ⟨B + 1, 3, none⟩)) rfl (fun W9 hW => by clear hW; go_simp) (fun _ _ _ h => h) ?_
  simp only [Act.put, List.setIfInBounds_toArray, List.set_cons_zero, List.set_cons_succ]
  refine seqI_take (v := .int .i64 y3) rfl (fun W9 hW => by obtain ⟨⟨p0, p1, p2, p3⟩, ⟨q0, q1, q2, q3⟩⟩ := HCE.out W9 hW; clear hW; go_simp) (fun _ _ _ h => h) ?_
  simp only [Act.put, List.setIfInBounds_toArray, List.set_cons_zero, List.set_cons_succ]
  refine seqI_call _ _ rfl (by go_simp) (H0.out _) ?_
  rintro e w9 ⟨rfl, hw⟩
  replace hw := hw.symm
  subst hw
  refine ⟨_, rfl, Below.refl _ _, ?_⟩
  simp only [Act.put, List.setIfInBounds_toArray, List.set_cons_zero, List.set_cons_succ]
  refine seqI_call _ _ rfl (by go_simp) (H1.out _) ?_
  rintro e w9 ⟨rfl, hw⟩
  replace hw := hw.symm
  subst hw
  refine ⟨_, rfl, Below.refl _ _, ?_⟩
  simp only [Act.put, List.setIfInBounds_toArray, List.set_cons_zero, List.set_cons_succ]
  refine seqI_call _ _ rfl (by go_simp) (H2.out _) ?_
  rintro e w9 ⟨rfl, hw⟩
  replace hw := hw.symm
  subst hw
  refine ⟨_, rfl, Below.refl _ _, ?_⟩
  simp only [Act.put, List.setIfInBounds_toArray, List.set_cons_zero, List.set_cons_succ]
  refine seqI_call _ _ rfl (by go_simp) (H3.out _) ?_
  rintro e w9 ⟨rfl, hw⟩
  replace hw := hw.symm
  subst hw
  refine ⟨_, rfl, Below.refl _ _, ?_⟩
  simp only [Act.put, List.setIfInBounds_toArray, List.set_cons_zero, List.set_cons_succ]
  have hA : Below wd.heap.size wd (wd.alloc (.cells #[.int .i64 r0, .int .i64 r1, .int .i64 r2, .int .i64 r3] 3)) := ext_alloc (Below.refl _ _)
  have HA := Lib.hid hA
  have HL : Hid (Blk (wd.alloc (.cells #[.int .i64 r0, .int .i64 r1, .int .i64 r2, .int .i64 r3] 3)) wd.heap.size [.int .i64 r0, .int .i64 r1, .int .i64 r2, .int .i64 r3] 3) := Blk.new _ _ _
  refine seqI_do rfl (wp_valA (bs_4i _ _ _ 9 14 19 24 r0 r1 r2 r3 rfl rfl rfl rfl rfl) ⟨hA, ?_⟩)
  simp only [Act.put, List.setIfInBounds_toArray, List.set_cons_zero, List.set_cons_succ]
  refine seqI_call _ _ rfl (by go_simp) (or4I_any r0 r1 r2 r3 wd.heap.size _ HL.out.lt (HL.out.cell 0 rfl) (HL.out.cell 1 rfl) (HL.out.cell 2 rfl) (HL.out.cell 3 rfl)) ?_
  rintro e w9 ⟨rfl, hw⟩
  subst hw
  refine ⟨_, rfl, hA, ?_⟩
  simp only [Act.put, List.setIfInBounds_toArray, List.set_cons_zero, List.set_cons_succ]
  refine seqI_take (v := .int .i64 (firstE r0 (firstE r1 (firstE r2 r3)))) rfl (fun W9 hW => by clear hW; go_simp) (fun _ _ _ h => h) ?_
  simp only [Act.put, List.setIfInBounds_toArray, List.set_cons_zero, List.set_cons_succ]
  refine seqI_nil ?_
  have HF := Lib.hid (HGd.out.alloc (.cells #[.int .i64 r0, .int .i64 r1, .int .i64 r2, .int .i64 r3] 3))
  clear hA HA HL HCE HXd HYd HGd
  go_wp2_with fail
  go_ret
  exact ⟨rfl, HF.out⟩
theorem cmpActs_any (x y : Vact) (W : World) : Calls Tryz.prog 38 #[.agg x.cells.toArray, .agg y.cells.toArray] W (CmpP (actCmp x y) W) :=
  cmpActs_core x.at_ x.kind x.long y.at_ y.kind y.long ⟨x.box.toArray⟩ ⟨x.id.toArray⟩ ⟨x.frm.toArray⟩ ⟨y.box.toArray⟩ ⟨y.id.toArray⟩ ⟨y.frm.toArray⟩ _ _ _ _ W (fun W => Tryz.cmp_Compare _ _ W) (fun W => Tryz.strings_Compare ⟨x.box.toArray⟩ ⟨y.box.toArray⟩ W) (fun W => Tryz.strings_Compare ⟨x.id.toArray⟩ ⟨y.id.toArray⟩ W) (fun W => Tryz.cmp_Compare _ _ W)
theorem cmpActs_b (x y : Vact) (W : World) : Calls Tryz.prog 38 #[x.val, y.val] W fun e w' => e = .returned (.int .i64 (actCmp x y)) ∧ Below W.heap.size W w' := (cmpActs_any x y W).mono fun e w' h => ⟨h.1, Grown.below h.2⟩
/-- What ActOrder answers, for whatever numbers. -/
def actOrd (a b : Vact) : Int := if a.at_ ≠ b.at_ then sgnI (IntKind.i64.wrap (a.at_ - b.at_)) else if firstE (Lib.compareBytes a.box b.box) (Lib.compareBytes a.id b.id) ≠ 0 then firstE (Lib.compareBytes a.box b.box) (Lib.compareBytes a.id b.id) else sgnI (IntKind.i64.wrap (a.kind - b.kind))
theorem sgnI_neg (n : Int) : sgnI n < 0 ↔ n < 0 := by unfold sgnI; repeat' split <;> omega
theorem actOrd_neg {a b : Vact} (ha : ActB a) (hb : ActB b) (h : actOrd a b < 0) : a.lt b := by
  obtain ⟨a0, a1, a2, a3, -⟩ := ha
  obtain ⟨b0, b1, b2, b3, -⟩ := hb
  have w1 : IntKind.i64.wrap (a.at_ - b.at_) = a.at_ - b.at_ := IntWalk.i64_in _ (by omega)
  have w2 : IntKind.i64.wrap (a.kind - b.kind) = a.kind - b.kind := IntWalk.i64_in _ (by omega)
  unfold actOrd at h
  rw [w1, w2] at h
  unfold Vact.lt
  by_cases h1 : a.at_ = b.at_
  · rw [if_neg (by simpa using h1)] at h
    by_cases h2 : firstE (Lib.compareBytes a.box b.box) (Lib.compareBytes a.id b.id) = 0
    · rw [if_neg (by simpa using h2), sgnI_neg] at h
      rw [firstE_zero, cmp_zero, cmp_zero] at h2
      exact Or.inr ⟨h1, Or.inr ⟨h2.1, Or.inr ⟨h2.2, by omega⟩⟩⟩
    · rw [if_pos h2, firstE_neg, cmpS_neg, cmp_zero, cmpS_neg] at h
      rcases h with h | ⟨h, k⟩
      · exact Or.inr ⟨h1, Or.inl h⟩
      · exact Or.inr ⟨h1, Or.inr ⟨h, Or.inl k⟩⟩
  · rw [if_pos h1, sgnI_neg] at h
    left; omega
set_option maxRecDepth 100000 in
set_option maxHeartbeats 8000000 in
theorem actOrd_core (x0 x3 x4 y0 y3 y4 : Int) (x1 x2 x5 y1 y2 y5 : ByteArray) (C : Int) (W : World) (hC : ∀ (w : World) g1 g2, w.cell? ⟨g1, 0, none⟩ = some (.string x1) → w.cell? ⟨g1, 1, none⟩ = some (.string x2) → w.cell? ⟨g2, 0, none⟩ = some (.string y1) → w.cell? ⟨g2, 1, none⟩ = some (.string y2) → Calls Tryz.prog 99 #[.slice (some ⟨g1, 0, none⟩) 2 2, .slice (some ⟨g2, 0, none⟩) 2 2] w fun e w' => e = .returned (.int .i64 C) ∧ w' = w) :
    Calls Tryz.prog 82 #[.agg #[.int .i64 x0, .string x1, .string x2, .int .i64 x3, .int .i64 x4, .string x5], .agg #[.int .i64 y0, .string y1, .string y2, .int .i64 y3, .int .i64 y4, .string y5]] W (CmpP (if x0 ≠ y0 then sgnI (IntKind.i64.wrap (x0 - y0)) else if C ≠ 0 then C else sgnI (IntKind.i64.wrap (x3 - y3))) W) := by
  have HCC := Lib.hid hC
  clear hC
  by_cases h0 : x0 = y0
  case neg =>
    have hb0 : (x0 != y0) = true := bne_iff_ne.2 h0
    rw [if_pos h0]
    have HS : Hid (∀ W, Calls Tryz.prog 100 #[.int .i64 (IntKind.i64.wrap (x0 - y0))] W fun e w' => e = .returned (.int .i64 (sgnI (IntKind.i64.wrap (x0 - y0)))) ∧ W = w') := fun W => sign2_any _ W
    obtain ⟨z, hz⟩ : ∃ z, z = IntKind.i64.wrap (x0 - y0) := ⟨_, rfl⟩
    rw [← hz] at HS ⊢
    replace hz := hz.symm
    generalize sgnI z = sz at HS ⊢
    go_enter Tryz.func82, Tryz.ntmps82
    go_upto_region 1 with (fail)
    have HGR : Hid (Grown W ((W.alloc (.cells #[.int .i64 x0, .string x1, .string x2, .int .i64 x3, .int .i64 x4, .string x5] 45)).alloc (.cells #[.int .i64 y0, .string y1, .string y2, .int .i64 y3, .int .i64 y4, .string y5] 45))) := ((Grown.refl W).alloc _).alloc _
    have HX : Hid (Blk ((W.alloc (.cells #[.int .i64 x0, .string x1, .string x2, .int .i64 x3, .int .i64 x4, .string x5] 45)).alloc (.cells #[.int .i64 y0, .string y1, .string y2, .int .i64 y3, .int .i64 y4, .string y5] 45)) W.heap.size [.int .i64 x0, .string x1, .string x2, .int .i64 x3, .int .i64 x4, .string x5] 45) := (Blk.new W [.int .i64 x0, .string x1, .string x2, .int .i64 x3, .int .i64 x4, .string x5] 45).alloc _
    have HY : Hid (Blk ((W.alloc (.cells #[.int .i64 x0, .string x1, .string x2, .int .i64 x3, .int .i64 x4, .string x5] 45)).alloc (.cells #[.int .i64 y0, .string y1, .string y2, .int .i64 y3, .int .i64 y4, .string y5] 45)) (W.alloc (.cells #[.int .i64 x0, .string x1, .string x2, .int .i64 x3, .int .i64 x4, .string x5] 45)).heap.size [.int .i64 y0, .string y1, .string y2, .int .i64 y3, .int .i64 y4, .string y5] 45) := Blk.new _ _ _
    have hsz : (W.alloc (.cells #[.int .i64 x0, .string x1, .string x2, .int .i64 x3, .int .i64 x4, .string x5] 45)).heap.size = W.heap.size + 1 := by simp
    rw [hsz] at HY
    clear hsz
    generalize ((W.alloc (.cells #[.int .i64 x0, .string x1, .string x2, .int .i64 x3, .int .i64 x4, .string x5] 45)).alloc (.cells #[.int .i64 y0, .string y1, .string y2, .int .i64 y3, .int .i64 y4, .string y5] 45)) = w1 at HGR HX HY ⊢
    generalize W.heap.size = B at HX HY ⊢
    have p0 := HX.out.cell 0 rfl
    have q0 := HY.out.cell 0 rfl
    go_wp2_with fail
    refine (HS.out _).mono ?_
    rintro e w' ⟨rfl, rfl⟩
    go_wp2_with fail
    go_ret
    exact ⟨rfl, HGR.out⟩
  subst h0
  rw [if_neg (by simp)]
  by_cases hC0 : C = 0
  case neg =>
    have hbC : (C != 0) = true := bne_iff_ne.2 hC0
    rw [if_pos hC0]
    go_enter Tryz.func82, Tryz.ntmps82
    go_upto_region 1 with (fail)
    have HGR : Hid (Grown W ((W.alloc (.cells #[.int .i64 x0, .string x1, .string x2, .int .i64 x3, .int .i64 x4, .string x5] 45)).alloc (.cells #[.int .i64 x0, .string y1, .string y2, .int .i64 y3, .int .i64 y4, .string y5] 45))) := ((Grown.refl W).alloc _).alloc _
    have HX : Hid (Blk ((W.alloc (.cells #[.int .i64 x0, .string x1, .string x2, .int .i64 x3, .int .i64 x4, .string x5] 45)).alloc (.cells #[.int .i64 x0, .string y1, .string y2, .int .i64 y3, .int .i64 y4, .string y5] 45)) W.heap.size [.int .i64 x0, .string x1, .string x2, .int .i64 x3, .int .i64 x4, .string x5] 45) := (Blk.new W [.int .i64 x0, .string x1, .string x2, .int .i64 x3, .int .i64 x4, .string x5] 45).alloc _
    have HY : Hid (Blk ((W.alloc (.cells #[.int .i64 x0, .string x1, .string x2, .int .i64 x3, .int .i64 x4, .string x5] 45)).alloc (.cells #[.int .i64 x0, .string y1, .string y2, .int .i64 y3, .int .i64 y4, .string y5] 45)) (W.alloc (.cells #[.int .i64 x0, .string x1, .string x2, .int .i64 x3, .int .i64 x4, .string x5] 45)).heap.size [.int .i64 x0, .string y1, .string y2, .int .i64 y3, .int .i64 y4, .string y5] 45) := Blk.new _ _ _
    have hsz : (W.alloc (.cells #[.int .i64 x0, .string x1, .string x2, .int .i64 x3, .int .i64 x4, .string x5] 45)).heap.size = W.heap.size + 1 := by simp
    rw [hsz] at HY
    clear hsz
    generalize ((W.alloc (.cells #[.int .i64 x0, .string x1, .string x2, .int .i64 x3, .int .i64 x4, .string x5] 45)).alloc (.cells #[.int .i64 x0, .string y1, .string y2, .int .i64 y3, .int .i64 y4, .string y5] 45)) = w1 at HGR HX HY ⊢
    generalize W.heap.size = B at HX HY ⊢
    have p0 := HX.out.cell 0 rfl
    have p1 := HX.out.cell 1 rfl
    have p2 := HX.out.cell 2 rfl
    have q0 := HY.out.cell 0 rfl
    have q1 := HY.out.cell 1 rfl
    have q2 := HY.out.cell 2 rfl
    have HG3 : Hid (Grown W ((w1.alloc (.cells #[.string x1, .string x2] 9)).alloc (.cells #[.string y1, .string y2] 9))) := (HGR.out.alloc _).alloc _
    have HX3 : Hid (Blk ((w1.alloc (.cells #[.string x1, .string x2] 9)).alloc (.cells #[.string y1, .string y2] 9)) B [.int .i64 x0, .string x1, .string x2, .int .i64 x3, .int .i64 x4, .string x5] 45) := (HX.out.alloc _).alloc _
    have HY3 : Hid (Blk ((w1.alloc (.cells #[.string x1, .string x2] 9)).alloc (.cells #[.string y1, .string y2] 9)) (B + 1) [.int .i64 x0, .string y1, .string y2, .int .i64 y3, .int .i64 y4, .string y5] 45) := (HY.out.alloc _).alloc _
    have HL1 : Hid (Blk ((w1.alloc (.cells #[.string x1, .string x2] 9)).alloc (.cells #[.string y1, .string y2] 9)) w1.heap.size [.string x1, .string x2] 9) := (Blk.new w1 [.string x1, .string x2] 9).alloc _
    have HL2 : Hid (Blk ((w1.alloc (.cells #[.string x1, .string x2] 9)).alloc (.cells #[.string y1, .string y2] 9)) (w1.heap.size + 1) [.string y1, .string y2] 9) := by
      have := Blk.new (w1.alloc (.cells #[.string x1, .string x2] 9)) [.string y1, .string y2] 9
      rw [show (w1.alloc (.cells #[.string x1, .string x2] 9)).heap.size = w1.heap.size + 1 by simp] at this
      exact this
    have hbx : B < w1.heap.size := HX.out.lt
    have hby : B + 1 < w1.heap.size := HY.out.lt
    clear HGR
    as_aux_lemma =>
      go_wp2_with fail
      clear p0 p1 p2 q0 q1 q2 hbx hby HX HY
      generalize ((w1.alloc (.cells #[.string x1, .string x2] 9)).alloc (.cells #[.string y1, .string y2] 9)) = w3 at HG3 HX3 HY3 HL1 HL2 ⊢
      refine (HCC.out _ _ _ (HL1.out.cell 0 rfl) (HL1.out.cell 1 rfl) (HL2.out.cell 0 rfl) (HL2.out.cell 1 rfl)).mono ?_
      rintro e w4 ⟨rfl, hw⟩
      replace hw := hw.symm
      subst hw
      have p3 := HX3.out.cell 3 rfl
      have q3 := HY3.out.cell 3 rfl
      clear HX3 HY3 HL1 HL2
      go_wp2_with fail
      go_ret
      exact ⟨rfl, HG3.out⟩
  subst hC0
  rw [if_neg (by simp)]
  have HS : Hid (∀ W, Calls Tryz.prog 100 #[.int .i64 (IntKind.i64.wrap (x3 - y3))] W fun e w' => e = .returned (.int .i64 (sgnI (IntKind.i64.wrap (x3 - y3)))) ∧ W = w') := fun W => sign2_any _ W
  obtain ⟨z, hz⟩ : ∃ z, z = IntKind.i64.wrap (x3 - y3) := ⟨_, rfl⟩
  rw [← hz] at HS ⊢
  replace hz := hz.symm
  generalize sgnI z = sz at HS ⊢
  go_enter Tryz.func82, Tryz.ntmps82
  go_upto_region 1 with (fail)
  have HGR : Hid (Grown W ((W.alloc (.cells #[.int .i64 x0, .string x1, .string x2, .int .i64 x3, .int .i64 x4, .string x5] 45)).alloc (.cells #[.int .i64 x0, .string y1, .string y2, .int .i64 y3, .int .i64 y4, .string y5] 45))) := ((Grown.refl W).alloc _).alloc _
  have HX : Hid (Blk ((W.alloc (.cells #[.int .i64 x0, .string x1, .string x2, .int .i64 x3, .int .i64 x4, .string x5] 45)).alloc (.cells #[.int .i64 x0, .string y1, .string y2, .int .i64 y3, .int .i64 y4, .string y5] 45)) W.heap.size [.int .i64 x0, .string x1, .string x2, .int .i64 x3, .int .i64 x4, .string x5] 45) := (Blk.new W [.int .i64 x0, .string x1, .string x2, .int .i64 x3, .int .i64 x4, .string x5] 45).alloc _
  have HY : Hid (Blk ((W.alloc (.cells #[.int .i64 x0, .string x1, .string x2, .int .i64 x3, .int .i64 x4, .string x5] 45)).alloc (.cells #[.int .i64 x0, .string y1, .string y2, .int .i64 y3, .int .i64 y4, .string y5] 45)) (W.alloc (.cells #[.int .i64 x0, .string x1, .string x2, .int .i64 x3, .int .i64 x4, .string x5] 45)).heap.size [.int .i64 x0, .string y1, .string y2, .int .i64 y3, .int .i64 y4, .string y5] 45) := Blk.new _ _ _
  have hsz : (W.alloc (.cells #[.int .i64 x0, .string x1, .string x2, .int .i64 x3, .int .i64 x4, .string x5] 45)).heap.size = W.heap.size + 1 := by simp
  rw [hsz] at HY
  clear hsz
  generalize ((W.alloc (.cells #[.int .i64 x0, .string x1, .string x2, .int .i64 x3, .int .i64 x4, .string x5] 45)).alloc (.cells #[.int .i64 x0, .string y1, .string y2, .int .i64 y3, .int .i64 y4, .string y5] 45)) = w1 at HGR HX HY ⊢
  generalize W.heap.size = B at HX HY ⊢
  have p0 := HX.out.cell 0 rfl
  have p1 := HX.out.cell 1 rfl
  have p2 := HX.out.cell 2 rfl
  have q0 := HY.out.cell 0 rfl
  have q1 := HY.out.cell 1 rfl
  have q2 := HY.out.cell 2 rfl
  have HG3 : Hid (Grown W ((w1.alloc (.cells #[.string x1, .string x2] 9)).alloc (.cells #[.string y1, .string y2] 9))) := (HGR.out.alloc _).alloc _
  have HX3 : Hid (Blk ((w1.alloc (.cells #[.string x1, .string x2] 9)).alloc (.cells #[.string y1, .string y2] 9)) B [.int .i64 x0, .string x1, .string x2, .int .i64 x3, .int .i64 x4, .string x5] 45) := (HX.out.alloc _).alloc _
  have HY3 : Hid (Blk ((w1.alloc (.cells #[.string x1, .string x2] 9)).alloc (.cells #[.string y1, .string y2] 9)) (B + 1) [.int .i64 x0, .string y1, .string y2, .int .i64 y3, .int .i64 y4, .string y5] 45) := (HY.out.alloc _).alloc _
  have HL1 : Hid (Blk ((w1.alloc (.cells #[.string x1, .string x2] 9)).alloc (.cells #[.string y1, .string y2] 9)) w1.heap.size [.string x1, .string x2] 9) := (Blk.new w1 [.string x1, .string x2] 9).alloc _
  have HL2 : Hid (Blk ((w1.alloc (.cells #[.string x1, .string x2] 9)).alloc (.cells #[.string y1, .string y2] 9)) (w1.heap.size + 1) [.string y1, .string y2] 9) := by
    have := Blk.new (w1.alloc (.cells #[.string x1, .string x2] 9)) [.string y1, .string y2] 9
    rw [show (w1.alloc (.cells #[.string x1, .string x2] 9)).heap.size = w1.heap.size + 1 by simp] at this
    exact this
  have hbx : B < w1.heap.size := HX.out.lt
  have hby : B + 1 < w1.heap.size := HY.out.lt
  clear HGR
  as_aux_lemma =>
    go_wp2_with fail
    clear p0 p1 p2 q0 q1 q2 hbx hby HX HY
    generalize ((w1.alloc (.cells #[.string x1, .string x2] 9)).alloc (.cells #[.string y1, .string y2] 9)) = w3 at HG3 HX3 HY3 HL1 HL2 ⊢
    refine (HCC.out _ _ _ (HL1.out.cell 0 rfl) (HL1.out.cell 1 rfl) (HL2.out.cell 0 rfl) (HL2.out.cell 1 rfl)).mono ?_
    rintro e w4 ⟨rfl, hw⟩
    replace hw := hw.symm
    subst hw
    have p3 := HX3.out.cell 3 rfl
    have q3 := HY3.out.cell 3 rfl
    clear HX3 HY3 HL1 HL2
    go_wp2_with fail
    refine (HS.out _).mono ?_
    rintro e w' ⟨rfl, rfl⟩
    go_wp2_with fail
    go_ret
    exact ⟨rfl, HG3.out⟩
theorem actOrd_any (x y : Vact) (W : World) : Calls Tryz.prog 82 #[.agg x.cells.toArray, .agg y.cells.toArray] W (CmpP (actOrd x y) W) :=
  actOrd_core x.at_ x.kind x.long y.at_ y.kind y.long ⟨x.box.toArray⟩ ⟨x.id.toArray⟩ ⟨x.frm.toArray⟩ ⟨y.box.toArray⟩ ⟨y.id.toArray⟩ ⟨y.frm.toArray⟩ _ W (fun w g1 g2 h1 h2 h3 h4 => pairCmp_any g1 g2 x.box x.id y.box y.id w h1 h2 h3 h4)
set_option maxRecDepth 100000 in
set_option maxHeartbeats 4000000 in
theorem actSame_any (x y : Vact) (W : World) : Calls Tryz.prog 84 #[x.val, y.val] W (BoolP (actOrd x y == 0) W) := by
  have HO : Hid (∀ W, Calls Tryz.prog 82 #[.agg #[.int .i64 x.at_, .string ⟨x.box.toArray⟩, .string ⟨x.id.toArray⟩, .int .i64 x.kind, .int .i64 x.long, .string ⟨x.frm.toArray⟩], .agg #[.int .i64 y.at_, .string ⟨y.box.toArray⟩, .string ⟨y.id.toArray⟩, .int .i64 y.kind, .int .i64 y.long, .string ⟨y.frm.toArray⟩]] W (CmpP (actOrd x y) W)) := fun W => actOrd_any x y W
  show Calls Tryz.prog 84 #[.agg #[.int .i64 x.at_, .string ⟨x.box.toArray⟩, .string ⟨x.id.toArray⟩, .int .i64 x.kind, .int .i64 x.long, .string ⟨x.frm.toArray⟩], .agg #[.int .i64 y.at_, .string ⟨y.box.toArray⟩, .string ⟨y.id.toArray⟩, .int .i64 y.kind, .int .i64 y.long, .string ⟨y.frm.toArray⟩]] W _
  generalize actOrd x y = r at HO ⊢
  generalize x.at_ = x0 at HO ⊢
  generalize (⟨x.box.toArray⟩ : ByteArray) = x1 at HO ⊢
  generalize (⟨x.id.toArray⟩ : ByteArray) = x2 at HO ⊢
  generalize x.kind = x3 at HO ⊢
  generalize x.long = x4 at HO ⊢
  generalize (⟨x.frm.toArray⟩ : ByteArray) = x5 at HO ⊢
  generalize y.at_ = y0 at HO ⊢
  generalize (⟨y.box.toArray⟩ : ByteArray) = y1 at HO ⊢
  generalize (⟨y.id.toArray⟩ : ByteArray) = y2 at HO ⊢
  generalize y.kind = y3 at HO ⊢
  generalize y.long = y4 at HO ⊢
  generalize (⟨y.frm.toArray⟩ : ByteArray) = y5 at HO ⊢
  go_enter Tryz.func84, Tryz.ntmps84
  go_upto_region 1 with (fail)
  have HGR : Hid (Grown W ((W.alloc (.cells #[.int .i64 x0, .string x1, .string x2, .int .i64 x3, .int .i64 x4, .string x5] 45)).alloc (.cells #[.int .i64 y0, .string y1, .string y2, .int .i64 y3, .int .i64 y4, .string y5] 45))) := ((Grown.refl W).alloc _).alloc _
  have HX : Hid (Blk ((W.alloc (.cells #[.int .i64 x0, .string x1, .string x2, .int .i64 x3, .int .i64 x4, .string x5] 45)).alloc (.cells #[.int .i64 y0, .string y1, .string y2, .int .i64 y3, .int .i64 y4, .string y5] 45)) W.heap.size [.int .i64 x0, .string x1, .string x2, .int .i64 x3, .int .i64 x4, .string x5] 45) := (Blk.new W [.int .i64 x0, .string x1, .string x2, .int .i64 x3, .int .i64 x4, .string x5] 45).alloc _
  have HY : Hid (Blk ((W.alloc (.cells #[.int .i64 x0, .string x1, .string x2, .int .i64 x3, .int .i64 x4, .string x5] 45)).alloc (.cells #[.int .i64 y0, .string y1, .string y2, .int .i64 y3, .int .i64 y4, .string y5] 45)) (W.alloc (.cells #[.int .i64 x0, .string x1, .string x2, .int .i64 x3, .int .i64 x4, .string x5] 45)).heap.size [.int .i64 y0, .string y1, .string y2, .int .i64 y3, .int .i64 y4, .string y5] 45) := Blk.new _ _ _
  have hsz : (W.alloc (.cells #[.int .i64 x0, .string x1, .string x2, .int .i64 x3, .int .i64 x4, .string x5] 45)).heap.size = W.heap.size + 1 := by simp
  rw [hsz] at HY
  clear hsz
  generalize ((W.alloc (.cells #[.int .i64 x0, .string x1, .string x2, .int .i64 x3, .int .i64 x4, .string x5] 45)).alloc (.cells #[.int .i64 y0, .string y1, .string y2, .int .i64 y3, .int .i64 y4, .string y5] 45)) = w1 at HGR HX HY ⊢
  generalize W.heap.size = B at HX HY ⊢
  have HRX : Hid (w1.rangeAt B 0 [.int .i64 x0, .string x1, .string x2, .int .i64 x3, .int .i64 x4, .string x5]) := fun j v hj => by rw [Nat.zero_add]; exact HX.out.cell j hj
  have HRY : Hid (w1.rangeAt (B + 1) 0 [.int .i64 y0, .string y1, .string y2, .int .i64 y3, .int .i64 y4, .string y5]) := fun j v hj => by rw [Nat.zero_add]; exact HY.out.cell j hj
  clear HX HY
  go_wp2_with (first | (refine wpList_load_mid rfl 45 (.tmp 2) rfl B 0 rfl [.int .i64 x0, .string x1, .string x2, .int .i64 x3, .int .i64 x4, .string x5] _ HRX.out Tryz.underlying45 rfl Tryz.actSz ?_) | (refine wpList_load_mid rfl 45 (.tmp 3) rfl (B + 1) 0 rfl [.int .i64 y0, .string y1, .string y2, .int .i64 y3, .int .i64 y4, .string y5] _ HRY.out Tryz.underlying45 rfl Tryz.actSz ?_))
  refine (HO.out _).mono ?_
  rintro e w2 ⟨rfl, hg⟩
  have HB : Hid (Below W.heap.size W w2) := (HGR.out.trans hg).below
  clear hg
  go_wp2_with fail
  go_ret
  exact ⟨rfl, HB.out⟩
end Go.Proofs.YtamoclofloijpaaGreatDoor

set_option linter.unusedVariables false
set_option linter.unusedSimpArgs false
namespace Go.Proofs.YtamoclofloijpaaGreatDoor
open Go.RowKit Go.Sort Go.Lib

set_option maxRecDepth 100000 in
set_option maxHeartbeats 8000000 in
theorem cmpBcn_core (x2 x3 x4 y2 y3 y4 : Int) (x0 x1 x5 y0 y1 y5 : ByteArray) (r0 r1 r2 : Int) (W : World) (h0 : ∀ W, Calls Tryz.prog 87 #[.string x0, .string y0] W fun e w' => e = .returned (.int .i64 r0) ∧ w' = W) (h1 : ∀ W, Calls Tryz.prog 87 #[.string x1, .string y1] W fun e w' => e = .returned (.int .i64 r1) ∧ w' = W) (h2 : ∀ W, Calls Tryz.prog 69 #[.int .i64 x3, .int .i64 y3] W fun e w' => e = .returned (.int .i64 r2) ∧ w' = W) :
    Calls Tryz.prog 64 #[.agg #[.string x0, .string x1, .int .i64 x2, .int .i64 x3, .int .i64 x4, .string x5], .agg #[.string y0, .string y1, .int .i64 y2, .int .i64 y3, .int .i64 y4, .string y5]] W (CmpP (firstE r0 (firstE r1 r2)) W) := by
  have H0 := Lib.hid h0
  have H1 := Lib.hid h1
  have H2 := Lib.hid h2
  clear h0 h1 h2
  go_enter Tryz.func64, Tryz.ntmps64
  go_upto_region 1 with (fail)
  have HGR : Hid (Grown W ((W.alloc (.cells #[.string x0, .string x1, .int .i64 x2, .int .i64 x3, .int .i64 x4, .string x5] 35)).alloc (.cells #[.string y0, .string y1, .int .i64 y2, .int .i64 y3, .int .i64 y4, .string y5] 35))) := ((Grown.refl W).alloc _).alloc _
  have HX : Hid (Blk ((W.alloc (.cells #[.string x0, .string x1, .int .i64 x2, .int .i64 x3, .int .i64 x4, .string x5] 35)).alloc (.cells #[.string y0, .string y1, .int .i64 y2, .int .i64 y3, .int .i64 y4, .string y5] 35)) W.heap.size [.string x0, .string x1, .int .i64 x2, .int .i64 x3, .int .i64 x4, .string x5] 35) := (Blk.new W [.string x0, .string x1, .int .i64 x2, .int .i64 x3, .int .i64 x4, .string x5] 35).alloc _
  have HY : Hid (Blk ((W.alloc (.cells #[.string x0, .string x1, .int .i64 x2, .int .i64 x3, .int .i64 x4, .string x5] 35)).alloc (.cells #[.string y0, .string y1, .int .i64 y2, .int .i64 y3, .int .i64 y4, .string y5] 35)) (W.alloc (.cells #[.string x0, .string x1, .int .i64 x2, .int .i64 x3, .int .i64 x4, .string x5] 35)).heap.size [.string y0, .string y1, .int .i64 y2, .int .i64 y3, .int .i64 y4, .string y5] 35) := Blk.new _ _ _
  have hsz : (W.alloc (.cells #[.string x0, .string x1, .int .i64 x2, .int .i64 x3, .int .i64 x4, .string x5] 35)).heap.size = W.heap.size + 1 := by simp
  rw [hsz] at HY
  clear hsz
  generalize ((W.alloc (.cells #[.string x0, .string x1, .int .i64 x2, .int .i64 x3, .int .i64 x4, .string x5] 35)).alloc (.cells #[.string y0, .string y1, .int .i64 y2, .int .i64 y3, .int .i64 y4, .string y5] 35)) = w1 at HGR HX HY ⊢
  generalize W.heap.size = B at HX HY ⊢
  have hd : Below w1.heap.size w1 w1.drew := ext_drew (Below.refl _ _)
  have HXd := Lib.hid (HX.out.below hd)
  have HYd := Lib.hid (HY.out.below hd)
  have HGd := Lib.hid HGR.out.drew
  clear hd HX HY HGR
  have HCE : Hid (∀ W9, Below w1.drew.heap.size w1.drew W9 → (W9.cell? ⟨B, 0, none⟩ = some (.string x0) ∧ W9.cell? ⟨B, 1, none⟩ = some (.string x1) ∧ W9.cell? ⟨B, 3, none⟩ = some (.int .i64 x3)) ∧ (W9.cell? ⟨B + 1, 0, none⟩ = some (.string y0) ∧ W9.cell? ⟨B + 1, 1, none⟩ = some (.string y1) ∧ W9.cell? ⟨B + 1, 3, none⟩ = some (.int .i64 y3))) := fun W9 hW => ⟨⟨(HXd.out.below hW).cell 0 rfl, (HXd.out.below hW).cell 1 rfl, (HXd.out.below hW).cell 3 rfl⟩, ⟨(HYd.out.below hW).cell 0 rfl, (HYd.out.below hW).cell 1 rfl, (HYd.out.below hW).cell 3 rfl⟩⟩
  refine region_seqI (S := fun W9 => Below w1.drew.heap.size w1.drew W9) [(true, 0), (true, 1), (true, 2), (true, 3), (true, 5), (true, 6), (true, 7), (true, 8), (true, 10), (true, 11), (true, 12), (true, 13), (false, 4), (false, 9), (false, 14), (false, 15), (false, 16), (true, 17)] (by kernel_rfl) (by kernel_rfl) rfl (by kernel_rfl) (Below.refl _ _) ?_
  generalize w1.drew = wd at HCE HXd HYd HGd ⊢
  simp only [seqOps, List.getD_cons_zero, List.getD_cons_succ]
  refine seqI_take (v := .pointer (some ⟨B, 0, none⟩)) rfl (fun W9 hW => by clear hW; go_simp) (fun _ _ _ h => h) ?_
  simp only [Act.put, List.setIfInBounds_toArray, List.set_cons_zero, List.set_cons_succ]
  refine seqI_take (v := .string x0) rfl (fun W9 hW => by obtain ⟨⟨p0, p1, p3⟩, ⟨q0, q1, q3⟩⟩ := HCE.out W9 hW; clear hW; go_simp) (fun _ _ _ h => h) ?_
  simp only [Act.put, List.setIfInBounds_toArray, List.set_cons_zero, List.set_cons_succ]
  refine seqI_take (v := .pointer (some ⟨B + 1, 0, none⟩)) rfl (fun W9 hW => by clear hW; go_simp) (fun _ _ _ h => h) ?_
  simp only [Act.put, List.setIfInBounds_toArray, List.set_cons_zero, List.set_cons_succ]
  refine seqI_take (v := .string y0) rfl (fun W9 hW => by obtain ⟨⟨p0, p1, p3⟩, ⟨q0, q1, q3⟩⟩ := HCE.out W9 hW; clear hW; go_simp) (fun _ _ _ h => h) ?_
  simp only [Act.put, List.setIfInBounds_toArray, List.set_cons_zero, List.set_cons_succ]
  refine seqI_take (v := .pointer (some ⟨B, 1, none⟩)) rfl (fun W9 hW => by clear hW; go_simp) (fun _ _ _ h => h) ?_
  simp only [Act.put, List.setIfInBounds_toArray, List.set_cons_zero, List.set_cons_succ]
  refine seqI_take (v := .string x1) rfl (fun W9 hW => by obtain ⟨⟨p0, p1, p3⟩, ⟨q0, q1, q3⟩⟩ := HCE.out W9 hW; clear hW; go_simp) (fun _ _ _ h => h) ?_
  simp only [Act.put, List.setIfInBounds_toArray, List.set_cons_zero, List.set_cons_succ]
  refine seqI_take (v := .pointer (some ⟨B + 1, 1, none⟩)) rfl (fun W9 hW => by clear hW; go_simp) (fun _ _ _ h => h) ?_
  simp only [Act.put, List.setIfInBounds_toArray, List.set_cons_zero, List.set_cons_succ]
  refine seqI_take (v := .string y1) rfl (fun W9 hW => by obtain ⟨⟨p0, p1, p3⟩, ⟨q0, q1, q3⟩⟩ := HCE.out W9 hW; clear hW; go_simp) (fun _ _ _ h => h) ?_
  simp only [Act.put, List.setIfInBounds_toArray, List.set_cons_zero, List.set_cons_succ]
  refine seqI_take (v := .pointer (some ⟨B, 3, none⟩)) rfl (fun W9 hW => by clear hW; go_simp) (fun _ _ _ h => h) ?_
  simp only [Act.put, List.setIfInBounds_toArray, List.set_cons_zero, List.set_cons_succ]
  refine seqI_take (v := .int .i64 x3) rfl (fun W9 hW => by obtain ⟨⟨p0, p1, p3⟩, ⟨q0, q1, q3⟩⟩ := HCE.out W9 hW; clear hW; go_simp) (fun _ _ _ h => h) ?_
  simp only [Act.put, List.setIfInBounds_toArray, List.set_cons_zero, List.set_cons_succ]
  refine seqI_take (v := .pointer (some ⟨B + 1, 3, none⟩)) rfl (fun W9 hW => by clear hW; go_simp) (fun _ _ _ h => h) ?_
  simp only [Act.put, List.setIfInBounds_toArray, List.set_cons_zero, List.set_cons_succ]
  refine seqI_take (v := .int .i64 y3) rfl (fun W9 hW => by obtain ⟨⟨p0, p1, p3⟩, ⟨q0, q1, q3⟩⟩ := HCE.out W9 hW; clear hW; go_simp) (fun _ _ _ h => h) ?_
  simp only [Act.put, List.setIfInBounds_toArray, List.set_cons_zero, List.set_cons_succ]
  refine seqI_call _ _ rfl (by go_simp) (H0.out _) ?_
  rintro e w9 ⟨rfl, hw⟩
  replace hw := hw.symm
  subst hw
  refine ⟨_, rfl, Below.refl _ _, ?_⟩
  simp only [Act.put, List.setIfInBounds_toArray, List.set_cons_zero, List.set_cons_succ]
  refine seqI_call _ _ rfl (by go_simp) (H1.out _) ?_
  rintro e w9 ⟨rfl, hw⟩
  replace hw := hw.symm
  subst hw
  refine ⟨_, rfl, Below.refl _ _, ?_⟩
  simp only [Act.put, List.setIfInBounds_toArray, List.set_cons_zero, List.set_cons_succ]
  refine seqI_call _ _ rfl (by go_simp) (H2.out _) ?_
  rintro e w9 ⟨rfl, hw⟩
  replace hw := hw.symm
  subst hw
  refine ⟨_, rfl, Below.refl _ _, ?_⟩
  simp only [Act.put, List.setIfInBounds_toArray, List.set_cons_zero, List.set_cons_succ]
  have hA : Below wd.heap.size wd (wd.alloc (.cells #[.int .i64 r0, .int .i64 r1, .int .i64 r2] 3)) := ext_alloc (Below.refl _ _)
  have HA := Lib.hid hA
  have HL : Hid (Blk (wd.alloc (.cells #[.int .i64 r0, .int .i64 r1, .int .i64 r2] 3)) wd.heap.size [.int .i64 r0, .int .i64 r1, .int .i64 r2] 3) := Blk.new _ _ _
  refine seqI_do rfl (wp_valA (bs_3i _ _ _ 9 14 19 r0 r1 r2 rfl rfl rfl rfl) ⟨hA, ?_⟩)
  simp only [Act.put, List.setIfInBounds_toArray, List.set_cons_zero, List.set_cons_succ]
  refine seqI_call _ _ rfl (by go_simp) (or3I_any r0 r1 r2 wd.heap.size _ HL.out.lt (HL.out.cell 0 rfl) (HL.out.cell 1 rfl) (HL.out.cell 2 rfl)) ?_
  rintro e w9 ⟨rfl, hw⟩
  subst hw
  refine ⟨_, rfl, hA, ?_⟩
  simp only [Act.put, List.setIfInBounds_toArray, List.set_cons_zero, List.set_cons_succ]
  refine seqI_take (v := .int .i64 (firstE r0 (firstE r1 r2))) rfl (fun W9 hW => by clear hW; go_simp) (fun _ _ _ h => h) ?_
  simp only [Act.put, List.setIfInBounds_toArray, List.set_cons_zero, List.set_cons_succ]
  refine seqI_nil ?_
  have HF := Lib.hid (HGd.out.alloc (.cells #[.int .i64 r0, .int .i64 r1, .int .i64 r2] 3))
  clear hA HA HL HCE HXd HYd HGd
  go_wp2_with fail
  go_ret
  exact ⟨rfl, HF.out⟩
def bcnCmp (a b : Vbcn) : Int := firstE (Lib.compareBytes a.per b.per) (firstE (Lib.compareBytes a.dev b.dev) (Lib.compareInt a.at_ b.at_))
theorem cmpBcn_any (x y : Vbcn) (W : World) : Calls Tryz.prog 64 #[.agg x.cells.toArray, .agg y.cells.toArray] W (CmpP (bcnCmp x y) W) :=
  cmpBcn_core x.st x.at_ x.til y.st y.at_ y.til ⟨x.per.toArray⟩ ⟨x.dev.toArray⟩ ⟨x.note.toArray⟩ ⟨y.per.toArray⟩ ⟨y.dev.toArray⟩ ⟨y.note.toArray⟩ _ _ _ W (fun W => Tryz.strings_Compare ⟨x.per.toArray⟩ ⟨y.per.toArray⟩ W) (fun W => Tryz.strings_Compare ⟨x.dev.toArray⟩ ⟨y.dev.toArray⟩ W) (fun W => Tryz.cmp_Compare _ _ W)
/-- What BeaconOrder answers, for whatever numbers. -/
def bcnOrd (a b : Vbcn) : Int := if firstE (Lib.compareBytes a.per b.per) (Lib.compareBytes a.dev b.dev) ≠ 0 then firstE (Lib.compareBytes a.per b.per) (Lib.compareBytes a.dev b.dev) else sgnI (IntKind.i64.wrap (a.at_ - b.at_))
theorem bcnOrd_neg (a b : Vbcn) (ha : -4398046511104 ≤ a.at_ ∧ a.at_ ≤ 4398046511104) (hb : -4398046511104 ≤ b.at_ ∧ b.at_ ≤ 4398046511104) : bcnOrd a b < 0 ↔ bcnCmp a b < 0 := by
  have w1 : IntKind.i64.wrap (a.at_ - b.at_) = a.at_ - b.at_ := IntWalk.i64_in _ (by omega)
  unfold bcnOrd bcnCmp
  rw [w1]
  by_cases h2 : firstE (Lib.compareBytes a.per b.per) (Lib.compareBytes a.dev b.dev) = 0
  · rw [if_neg (by simpa using h2), sgnI_neg]
    rw [firstE_zero] at h2
    rw [firstE_neg, firstE_neg, cmpI_neg, h2.1, h2.2]
    omega
  · rw [if_pos h2]
    rw [firstE_neg, firstE_neg, firstE_neg, cmpI_neg]
    rw [firstE_zero] at h2
    omega
set_option maxRecDepth 100000 in
set_option maxHeartbeats 8000000 in
theorem bcnOrd_core (x2 x3 x4 y2 y3 y4 : Int) (x0 x1 x5 y0 y1 y5 : ByteArray) (C : Int) (W : World) (hC : ∀ (w : World) g1 g2, w.cell? ⟨g1, 0, none⟩ = some (.string x0) → w.cell? ⟨g1, 1, none⟩ = some (.string x1) → w.cell? ⟨g2, 0, none⟩ = some (.string y0) → w.cell? ⟨g2, 1, none⟩ = some (.string y1) → Calls Tryz.prog 99 #[.slice (some ⟨g1, 0, none⟩) 2 2, .slice (some ⟨g2, 0, none⟩) 2 2] w fun e w' => e = .returned (.int .i64 C) ∧ w' = w) :
    Calls Tryz.prog 55 #[.agg #[.string x0, .string x1, .int .i64 x2, .int .i64 x3, .int .i64 x4, .string x5], .agg #[.string y0, .string y1, .int .i64 y2, .int .i64 y3, .int .i64 y4, .string y5]] W (CmpP (if C ≠ 0 then C else sgnI (IntKind.i64.wrap (x3 - y3))) W) := by
  have HCC := Lib.hid hC
  clear hC
  by_cases hC0 : C = 0
  case neg =>
    have hbC : (C != 0) = true := bne_iff_ne.2 hC0
    rw [if_pos hC0]
    go_enter Tryz.func55, Tryz.ntmps55
    go_upto_region 1 with (fail)
    have HGR : Hid (Grown W ((W.alloc (.cells #[.string x0, .string x1, .int .i64 x2, .int .i64 x3, .int .i64 x4, .string x5] 35)).alloc (.cells #[.string y0, .string y1, .int .i64 y2, .int .i64 y3, .int .i64 y4, .string y5] 35))) := ((Grown.refl W).alloc _).alloc _
    have HX : Hid (Blk ((W.alloc (.cells #[.string x0, .string x1, .int .i64 x2, .int .i64 x3, .int .i64 x4, .string x5] 35)).alloc (.cells #[.string y0, .string y1, .int .i64 y2, .int .i64 y3, .int .i64 y4, .string y5] 35)) W.heap.size [.string x0, .string x1, .int .i64 x2, .int .i64 x3, .int .i64 x4, .string x5] 35) := (Blk.new W [.string x0, .string x1, .int .i64 x2, .int .i64 x3, .int .i64 x4, .string x5] 35).alloc _
    have HY : Hid (Blk ((W.alloc (.cells #[.string x0, .string x1, .int .i64 x2, .int .i64 x3, .int .i64 x4, .string x5] 35)).alloc (.cells #[.string y0, .string y1, .int .i64 y2, .int .i64 y3, .int .i64 y4, .string y5] 35)) (W.alloc (.cells #[.string x0, .string x1, .int .i64 x2, .int .i64 x3, .int .i64 x4, .string x5] 35)).heap.size [.string y0, .string y1, .int .i64 y2, .int .i64 y3, .int .i64 y4, .string y5] 35) := Blk.new _ _ _
    have hsz : (W.alloc (.cells #[.string x0, .string x1, .int .i64 x2, .int .i64 x3, .int .i64 x4, .string x5] 35)).heap.size = W.heap.size + 1 := by simp
    rw [hsz] at HY
    clear hsz
    generalize ((W.alloc (.cells #[.string x0, .string x1, .int .i64 x2, .int .i64 x3, .int .i64 x4, .string x5] 35)).alloc (.cells #[.string y0, .string y1, .int .i64 y2, .int .i64 y3, .int .i64 y4, .string y5] 35)) = w1 at HGR HX HY ⊢
    generalize W.heap.size = B at HX HY ⊢
    have p0 := HX.out.cell 0 rfl
    have p1 := HX.out.cell 1 rfl
    have q0 := HY.out.cell 0 rfl
    have q1 := HY.out.cell 1 rfl
    have HG3 : Hid (Grown W ((w1.alloc (.cells #[.string x0, .string x1] 9)).alloc (.cells #[.string y0, .string y1] 9))) := (HGR.out.alloc _).alloc _
    have HX3 : Hid (Blk ((w1.alloc (.cells #[.string x0, .string x1] 9)).alloc (.cells #[.string y0, .string y1] 9)) B [.string x0, .string x1, .int .i64 x2, .int .i64 x3, .int .i64 x4, .string x5] 35) := (HX.out.alloc _).alloc _
    have HY3 : Hid (Blk ((w1.alloc (.cells #[.string x0, .string x1] 9)).alloc (.cells #[.string y0, .string y1] 9)) (B + 1) [.string y0, .string y1, .int .i64 y2, .int .i64 y3, .int .i64 y4, .string y5] 35) := (HY.out.alloc _).alloc _
    have HL1 : Hid (Blk ((w1.alloc (.cells #[.string x0, .string x1] 9)).alloc (.cells #[.string y0, .string y1] 9)) w1.heap.size [.string x0, .string x1] 9) := (Blk.new w1 [.string x0, .string x1] 9).alloc _
    have HL2 : Hid (Blk ((w1.alloc (.cells #[.string x0, .string x1] 9)).alloc (.cells #[.string y0, .string y1] 9)) (w1.heap.size + 1) [.string y0, .string y1] 9) := by
      have := Blk.new (w1.alloc (.cells #[.string x0, .string x1] 9)) [.string y0, .string y1] 9
      rw [show (w1.alloc (.cells #[.string x0, .string x1] 9)).heap.size = w1.heap.size + 1 by simp] at this
      exact this
    have hbx : B < w1.heap.size := HX.out.lt
    have hby : B + 1 < w1.heap.size := HY.out.lt
    clear HGR
    as_aux_lemma =>
      go_wp2_with fail
      clear p0 p1 q0 q1 hbx hby HX HY
      generalize ((w1.alloc (.cells #[.string x0, .string x1] 9)).alloc (.cells #[.string y0, .string y1] 9)) = w3 at HG3 HX3 HY3 HL1 HL2 ⊢
      refine (HCC.out _ _ _ (HL1.out.cell 0 rfl) (HL1.out.cell 1 rfl) (HL2.out.cell 0 rfl) (HL2.out.cell 1 rfl)).mono ?_
      rintro e w4 ⟨rfl, hw⟩
      replace hw := hw.symm
      subst hw
      have p3 := HX3.out.cell 3 rfl
      have q3 := HY3.out.cell 3 rfl
      clear HX3 HY3 HL1 HL2
      go_wp2_with fail
      go_ret
      exact ⟨rfl, HG3.out⟩
  subst hC0
  rw [if_neg (by simp)]
  have HS : Hid (∀ W, Calls Tryz.prog 100 #[.int .i64 (IntKind.i64.wrap (x3 - y3))] W fun e w' => e = .returned (.int .i64 (sgnI (IntKind.i64.wrap (x3 - y3)))) ∧ W = w') := fun W => sign2_any _ W
  obtain ⟨z, hz⟩ : ∃ z, z = IntKind.i64.wrap (x3 - y3) := ⟨_, rfl⟩
  rw [← hz] at HS ⊢
  replace hz := hz.symm
  generalize sgnI z = sz at HS ⊢
  go_enter Tryz.func55, Tryz.ntmps55
  go_upto_region 1 with (fail)
  have HGR : Hid (Grown W ((W.alloc (.cells #[.string x0, .string x1, .int .i64 x2, .int .i64 x3, .int .i64 x4, .string x5] 35)).alloc (.cells #[.string y0, .string y1, .int .i64 y2, .int .i64 y3, .int .i64 y4, .string y5] 35))) := ((Grown.refl W).alloc _).alloc _
  have HX : Hid (Blk ((W.alloc (.cells #[.string x0, .string x1, .int .i64 x2, .int .i64 x3, .int .i64 x4, .string x5] 35)).alloc (.cells #[.string y0, .string y1, .int .i64 y2, .int .i64 y3, .int .i64 y4, .string y5] 35)) W.heap.size [.string x0, .string x1, .int .i64 x2, .int .i64 x3, .int .i64 x4, .string x5] 35) := (Blk.new W [.string x0, .string x1, .int .i64 x2, .int .i64 x3, .int .i64 x4, .string x5] 35).alloc _
  have HY : Hid (Blk ((W.alloc (.cells #[.string x0, .string x1, .int .i64 x2, .int .i64 x3, .int .i64 x4, .string x5] 35)).alloc (.cells #[.string y0, .string y1, .int .i64 y2, .int .i64 y3, .int .i64 y4, .string y5] 35)) (W.alloc (.cells #[.string x0, .string x1, .int .i64 x2, .int .i64 x3, .int .i64 x4, .string x5] 35)).heap.size [.string y0, .string y1, .int .i64 y2, .int .i64 y3, .int .i64 y4, .string y5] 35) := Blk.new _ _ _
  have hsz : (W.alloc (.cells #[.string x0, .string x1, .int .i64 x2, .int .i64 x3, .int .i64 x4, .string x5] 35)).heap.size = W.heap.size + 1 := by simp
  rw [hsz] at HY
  clear hsz
  generalize ((W.alloc (.cells #[.string x0, .string x1, .int .i64 x2, .int .i64 x3, .int .i64 x4, .string x5] 35)).alloc (.cells #[.string y0, .string y1, .int .i64 y2, .int .i64 y3, .int .i64 y4, .string y5] 35)) = w1 at HGR HX HY ⊢
  generalize W.heap.size = B at HX HY ⊢
  have p0 := HX.out.cell 0 rfl
  have p1 := HX.out.cell 1 rfl
  have q0 := HY.out.cell 0 rfl
  have q1 := HY.out.cell 1 rfl
  have HG3 : Hid (Grown W ((w1.alloc (.cells #[.string x0, .string x1] 9)).alloc (.cells #[.string y0, .string y1] 9))) := (HGR.out.alloc _).alloc _
  have HX3 : Hid (Blk ((w1.alloc (.cells #[.string x0, .string x1] 9)).alloc (.cells #[.string y0, .string y1] 9)) B [.string x0, .string x1, .int .i64 x2, .int .i64 x3, .int .i64 x4, .string x5] 35) := (HX.out.alloc _).alloc _
  have HY3 : Hid (Blk ((w1.alloc (.cells #[.string x0, .string x1] 9)).alloc (.cells #[.string y0, .string y1] 9)) (B + 1) [.string y0, .string y1, .int .i64 y2, .int .i64 y3, .int .i64 y4, .string y5] 35) := (HY.out.alloc _).alloc _
  have HL1 : Hid (Blk ((w1.alloc (.cells #[.string x0, .string x1] 9)).alloc (.cells #[.string y0, .string y1] 9)) w1.heap.size [.string x0, .string x1] 9) := (Blk.new w1 [.string x0, .string x1] 9).alloc _
  have HL2 : Hid (Blk ((w1.alloc (.cells #[.string x0, .string x1] 9)).alloc (.cells #[.string y0, .string y1] 9)) (w1.heap.size + 1) [.string y0, .string y1] 9) := by
    have := Blk.new (w1.alloc (.cells #[.string x0, .string x1] 9)) [.string y0, .string y1] 9
    rw [show (w1.alloc (.cells #[.string x0, .string x1] 9)).heap.size = w1.heap.size + 1 by simp] at this
    exact this
  have hbx : B < w1.heap.size := HX.out.lt
  have hby : B + 1 < w1.heap.size := HY.out.lt
  clear HGR
  as_aux_lemma =>
    go_wp2_with fail
    clear p0 p1 q0 q1 hbx hby HX HY
    generalize ((w1.alloc (.cells #[.string x0, .string x1] 9)).alloc (.cells #[.string y0, .string y1] 9)) = w3 at HG3 HX3 HY3 HL1 HL2 ⊢
    refine (HCC.out _ _ _ (HL1.out.cell 0 rfl) (HL1.out.cell 1 rfl) (HL2.out.cell 0 rfl) (HL2.out.cell 1 rfl)).mono ?_
    rintro e w4 ⟨rfl, hw⟩
    replace hw := hw.symm
    subst hw
    have p3 := HX3.out.cell 3 rfl
    have q3 := HY3.out.cell 3 rfl
    clear HX3 HY3 HL1 HL2
    go_wp2_with fail
    refine (HS.out _).mono ?_
    rintro e w' ⟨rfl, rfl⟩
    go_wp2_with fail
    go_ret
    exact ⟨rfl, HG3.out⟩
theorem bcnOrd_any (x y : Vbcn) (W : World) : Calls Tryz.prog 55 #[.agg x.cells.toArray, .agg y.cells.toArray] W (CmpP (bcnOrd x y) W) :=
  bcnOrd_core x.st x.at_ x.til y.st y.at_ y.til ⟨x.per.toArray⟩ ⟨x.dev.toArray⟩ ⟨x.note.toArray⟩ ⟨y.per.toArray⟩ ⟨y.dev.toArray⟩ ⟨y.note.toArray⟩ _ W (fun w g1 g2 h1 h2 h3 h4 => pairCmp_any g1 g2 x.per x.dev y.per y.dev w h1 h2 h3 h4)
set_option maxRecDepth 100000 in
set_option maxHeartbeats 4000000 in
theorem bcnSame_any (x y : Vbcn) (W : World) : Calls Tryz.prog 57 #[x.val, y.val] W (BoolP (bcnOrd x y == 0) W) := by
  have HO : Hid (∀ W, Calls Tryz.prog 55 #[.agg #[.string ⟨x.per.toArray⟩, .string ⟨x.dev.toArray⟩, .int .i64 x.st, .int .i64 x.at_, .int .i64 x.til, .string ⟨x.note.toArray⟩], .agg #[.string ⟨y.per.toArray⟩, .string ⟨y.dev.toArray⟩, .int .i64 y.st, .int .i64 y.at_, .int .i64 y.til, .string ⟨y.note.toArray⟩]] W (CmpP (bcnOrd x y) W)) := fun W => bcnOrd_any x y W
  show Calls Tryz.prog 57 #[.agg #[.string ⟨x.per.toArray⟩, .string ⟨x.dev.toArray⟩, .int .i64 x.st, .int .i64 x.at_, .int .i64 x.til, .string ⟨x.note.toArray⟩], .agg #[.string ⟨y.per.toArray⟩, .string ⟨y.dev.toArray⟩, .int .i64 y.st, .int .i64 y.at_, .int .i64 y.til, .string ⟨y.note.toArray⟩]] W _
  generalize bcnOrd x y = r at HO ⊢
  generalize (⟨x.per.toArray⟩ : ByteArray) = x0 at HO ⊢
  generalize (⟨x.dev.toArray⟩ : ByteArray) = x1 at HO ⊢
  generalize x.st = x2 at HO ⊢
  generalize x.at_ = x3 at HO ⊢
  generalize x.til = x4 at HO ⊢
  generalize (⟨x.note.toArray⟩ : ByteArray) = x5 at HO ⊢
  generalize (⟨y.per.toArray⟩ : ByteArray) = y0 at HO ⊢
  generalize (⟨y.dev.toArray⟩ : ByteArray) = y1 at HO ⊢
  generalize y.st = y2 at HO ⊢
  generalize y.at_ = y3 at HO ⊢
  generalize y.til = y4 at HO ⊢
  generalize (⟨y.note.toArray⟩ : ByteArray) = y5 at HO ⊢
  go_enter Tryz.func57, Tryz.ntmps57
  go_upto_region 1 with (fail)
  have HGR : Hid (Grown W ((W.alloc (.cells #[.string x0, .string x1, .int .i64 x2, .int .i64 x3, .int .i64 x4, .string x5] 35)).alloc (.cells #[.string y0, .string y1, .int .i64 y2, .int .i64 y3, .int .i64 y4, .string y5] 35))) := ((Grown.refl W).alloc _).alloc _
  have HX : Hid (Blk ((W.alloc (.cells #[.string x0, .string x1, .int .i64 x2, .int .i64 x3, .int .i64 x4, .string x5] 35)).alloc (.cells #[.string y0, .string y1, .int .i64 y2, .int .i64 y3, .int .i64 y4, .string y5] 35)) W.heap.size [.string x0, .string x1, .int .i64 x2, .int .i64 x3, .int .i64 x4, .string x5] 35) := (Blk.new W [.string x0, .string x1, .int .i64 x2, .int .i64 x3, .int .i64 x4, .string x5] 35).alloc _
  have HY : Hid (Blk ((W.alloc (.cells #[.string x0, .string x1, .int .i64 x2, .int .i64 x3, .int .i64 x4, .string x5] 35)).alloc (.cells #[.string y0, .string y1, .int .i64 y2, .int .i64 y3, .int .i64 y4, .string y5] 35)) (W.alloc (.cells #[.string x0, .string x1, .int .i64 x2, .int .i64 x3, .int .i64 x4, .string x5] 35)).heap.size [.string y0, .string y1, .int .i64 y2, .int .i64 y3, .int .i64 y4, .string y5] 35) := Blk.new _ _ _
  have hsz : (W.alloc (.cells #[.string x0, .string x1, .int .i64 x2, .int .i64 x3, .int .i64 x4, .string x5] 35)).heap.size = W.heap.size + 1 := by simp
  rw [hsz] at HY
  clear hsz
  generalize ((W.alloc (.cells #[.string x0, .string x1, .int .i64 x2, .int .i64 x3, .int .i64 x4, .string x5] 35)).alloc (.cells #[.string y0, .string y1, .int .i64 y2, .int .i64 y3, .int .i64 y4, .string y5] 35)) = w1 at HGR HX HY ⊢
  generalize W.heap.size = B at HX HY ⊢
  have HRX : Hid (w1.rangeAt B 0 [.string x0, .string x1, .int .i64 x2, .int .i64 x3, .int .i64 x4, .string x5]) := fun j v hj => by rw [Nat.zero_add]; exact HX.out.cell j hj
  have HRY : Hid (w1.rangeAt (B + 1) 0 [.string y0, .string y1, .int .i64 y2, .int .i64 y3, .int .i64 y4, .string y5]) := fun j v hj => by rw [Nat.zero_add]; exact HY.out.cell j hj
  clear HX HY
  go_wp2_with (first | (refine wpList_load_mid rfl 35 (.tmp 2) rfl B 0 rfl [.string x0, .string x1, .int .i64 x2, .int .i64 x3, .int .i64 x4, .string x5] _ HRX.out Tryz.underlying35 rfl Tryz.bcnSz ?_) | (refine wpList_load_mid rfl 35 (.tmp 3) rfl (B + 1) 0 rfl [.string y0, .string y1, .int .i64 y2, .int .i64 y3, .int .i64 y4, .string y5] _ HRY.out Tryz.underlying35 rfl Tryz.bcnSz ?_))
  refine (HO.out _).mono ?_
  rintro e w2 ⟨rfl, hg⟩
  have HB : Hid (Below W.heap.size W w2) := (HGR.out.trans hg).below
  clear hg
  go_wp2_with fail
  go_ret
  exact ⟨rfl, HB.out⟩
end Go.Proofs.YtamoclofloijpaaGreatDoor

set_option linter.unusedVariables false
set_option linter.unusedSimpArgs false
namespace Go.Proofs.YtamoclofloijpaaGreatDoor
open Go.RowKit Go.Sort Go.Lib

/-- Beacon i is of the person, holds at the moment, and no later one of its device does. -/
def bcnCur (l : List Vbcn) (per : List UInt8) (t : Int) (i : Nat) : Bool :=
  decide ((l.getD i default).per = per) && (decide ((l.getD i default).at_ ≤ t) && (decide (t < (l.getD i default).til) &&
    !(decide (i + 1 < l.length) && (decide ((l.getD (i + 1) default).per = per) && (decide ((l.getD (i + 1) default).dev = (l.getD i default).dev) && decide ((l.getD (i + 1) default).at_ ≤ t))))))
/-- The better of two. -/
def bcnBest (o : Option Vbcn) (b : Vbcn) : Option Vbcn :=
  match o with
  | none => some b
  | some c => if 0 < firstE (Lib.compareInt b.st c.st) (Lib.compareInt b.at_ c.at_) then some b else some c
def saysN (l : List Vbcn) (per : List UInt8) (t : Int) : Nat → Option Vbcn
  | 0 => none
  | i + 1 => if bcnCur l per t i = true then bcnBest (saysN l per t i) (l.getD i default) else saysN l per t i
/-- What the devices of a person say at a moment. -/
def saysB (l : List Vbcn) (per : List UInt8) (t : Int) : Option Vbcn := saysN l per t l.length
theorem saysN_per {l : List Vbcn} {per : List UInt8} {t : Int} : ∀ i {b}, saysN l per t i = some b → b.per = per
  | 0, b, h => by cases h
  | i + 1, b, h => by
    unfold saysN at h
    by_cases hc : bcnCur l per t i = true
    · rw [if_pos hc] at h
      have hp : (l.getD i default).per = per := by
        unfold bcnCur at hc
        simp only [Bool.and_eq_true, decide_eq_true_eq] at hc
        exact hc.1
      cases hs : saysN l per t i with
      | none => rw [hs] at h; unfold bcnBest at h; injection h with h; rw [← h]; exact hp
      | some c =>
        rw [hs] at h
        simp only [bcnBest] at h
        split at h
        · injection h with h; rw [← h]; exact hp
        · injection h with h; rw [← h]; exact saysN_per i hs
    · rw [if_neg hc] at h; exact saysN_per i h
theorem says_per {l : List Vbcn} {per : List UInt8} {t : Int} {b : Vbcn} (h : saysB l per t = some b) : b.per = per := saysN_per _ h
theorem says_same {l : List Vbcn} {per : List UInt8} {t u : Int} (h : ∀ b ∈ l, b.per = per → (b.at_ ≤ t ↔ b.at_ ≤ u) ∧ (t < b.til ↔ u < b.til)) : saysB l per t = saysB l per u := by
  have hc : ∀ i, i < l.length → bcnCur l per t i = bcnCur l per u i := by
    intro i hi
    unfold bcnCur
    by_cases h0 : (l.getD i default).per = per
    · obtain ⟨h1, h2⟩ := h _ (bcn_mem hi) h0
      rw [decide_eq_decide.2 h1, decide_eq_decide.2 h2]
      congr 4
      by_cases h3 : i + 1 < l.length
      · by_cases h4 : (l.getD (i + 1) default).per = per
        · rw [decide_eq_decide.2 (h _ (bcn_mem h3) h4).1]
        · rw [decide_eq_false h4]; rfl
      · rw [decide_eq_false h3]; rfl
    · rw [decide_eq_false h0]; rfl
  have key : ∀ i, i ≤ l.length → saysN l per t i = saysN l per u i := by
    intro i
    induction i with
    | zero => intro _; rfl
    | succ i ih => intro hi; unfold saysN; rw [hc i (by omega), ih (by omega)]
  exact key _ (Nat.le_refl _)
/-- One more stretch of the window. -/
def thrStep (s : Option Vbcn) (a z : Int) (o : List Vbcn × Vbcn) : List Vbcn × Vbcn :=
  match s with
  | none => (o.1, noVbcn)
  | some b => if o.1 ≠ [] ∧ b = o.2 then (o.1.set (o.1.length - 1) { (o.1.getD (o.1.length - 1) default) with til := z }, o.2) else (o.1 ++ [{ b with at_ := a, til := z }], b)
def thrN (l : List Vbcn) (per : List UInt8) (E : List Int) : Nat → List Vbcn × Vbcn
  | 0 => ([], noVbcn)
  | k + 1 => thrStep (saysB l per (E.getD k 0)) (E.getD k 0) (E.getD (k + 1) 0) (thrN l per E k)
/-- The row says at each moment up to the edge what counts there. -/
structure Told (l : List Vbcn) (per : List UInt8) (a z : Int) (o : List Vbcn × Vbcn) : Prop where
  says : ∀ s ∈ o.1, ∀ t, s.at_ ≤ t → t < s.til → ∃ b, saysB l per t = some b ∧ b.st = s.st ∧ b.dev = s.dev ∧ b.note = s.note
  all : ∀ t, a ≤ t → t < z → (saysB l per t).isSome = true → ∃ s ∈ o.1, s.at_ ≤ t ∧ t < s.til
  last : o.2 = noVbcn ∨ ∃ q s, o.1 = q ++ [s] ∧ s.til = z ∧ s.at_ ≤ z ∧ o.2.st = s.st ∧ o.2.dev = s.dev ∧ o.2.note = s.note
theorem Told.zero (l : List Vbcn) (per : List UInt8) (a : Int) : Told l per a a ([], noVbcn) := ⟨fun s hs => (by cases hs), fun t h1 h2 => absurd h2 (by omega), Or.inl rfl⟩
theorem Told.step {l : List Vbcn} {per : List UInt8} {a z z2 : Int} {o : List Vbcn × Vbcn} (h : Told l per a z o) (hp : per ≠ []) (hz : z < z2) (hs : ∀ t, z ≤ t → t < z2 → saysB l per t = saysB l per z) : Told l per a z2 (thrStep (saysB l per z) z z2 o) := by
  obtain ⟨out, last⟩ := o
  cases hb : saysB l per z with
  | none =>
    refine ⟨h.says, fun t h1 h2 h3 => ?_, Or.inl rfl⟩
    by_cases h4 : t < z
    · exact h.all t h1 h4 h3
    · rw [hs t (by omega) h2, hb] at h3; cases h3
  | some b =>
    unfold thrStep
    simp only
    by_cases hc : out ≠ [] ∧ b = last
    · rw [if_pos hc]
      have hpb := says_per hb
      rcases h.last with h0 | ⟨q, s, hq, hst, hsa, e1, e2, e3⟩
      · exact absurd (show per = [] by rw [← hpb, hc.2, show last = noVbcn from h0]; rfl) hp
      · have hq' : out = q ++ [s] := hq
        have hset : out.set (out.length - 1) { (out.getD (out.length - 1) default) with til := z2 } = q ++ [{ s with til := z2 }] := by
          rw [hq']
          simp
        rw [hset]
        have e1' : last.st = s.st := e1
        have e2' : last.dev = s.dev := e2
        have e3' : last.note = s.note := e3
        refine ⟨fun s' hs' t h1 h2 => ?_, fun t h1 h2 h3 => ?_, Or.inr ⟨q, _, rfl, rfl, (by show s.at_ ≤ z2; omega), e1, e2, e3⟩⟩
        · rcases List.mem_append.1 hs' with h4 | h4
          · exact h.says s' (by show s' ∈ out; rw [hq']; exact List.mem_append_left _ h4) t h1 h2
          · rw [List.mem_singleton.1 h4] at h1 h2 ⊢
            by_cases h5 : t < z
            · exact h.says s (by show s ∈ out; rw [hq']; simp) t h1 (by rw [hst]; exact h5)
            · exact ⟨b, (hs t (by omega) h2).trans hb, by rw [hc.2]; exact e1', by rw [hc.2]; exact e2', by rw [hc.2]; exact e3'⟩
        · by_cases h5 : t < z
          · obtain ⟨s', hs', k1, k2⟩ := h.all t h1 h5 h3
            have hs'' : s' ∈ q ++ [s] := by rw [← hq']; exact hs'
            rcases List.mem_append.1 hs'' with h4 | h4
            · exact ⟨s', List.mem_append_left _ h4, k1, k2⟩
            · rw [List.mem_singleton.1 h4] at k1 k2
              exact ⟨{ s with til := z2 }, by simp, k1, h2⟩
          · exact ⟨{ s with til := z2 }, by simp, by show s.at_ ≤ t; omega, h2⟩
    · rw [if_neg hc]
      refine ⟨fun s' hs' t h1 h2 => ?_, fun t h1 h2 h3 => ?_, Or.inr ⟨out, _, rfl, rfl, (by show z ≤ z2; omega), rfl, rfl, rfl⟩⟩
      · rcases List.mem_append.1 hs' with h4 | h4
        · exact h.says s' h4 t h1 h2
        · rw [List.mem_singleton.1 h4] at h1 h2 ⊢
          exact ⟨b, (hs t h1 h2).trans hb, rfl, rfl, rfl⟩
      · by_cases h5 : t < z
        · obtain ⟨s', hs', k1, k2⟩ := h.all t h1 h5 h3
          exact ⟨s', List.mem_append_left _ hs', k1, k2⟩
        · exact ⟨{ b with at_ := z, til := z2 }, List.mem_append_right _ (List.mem_singleton.2 rfl), by show z ≤ t; omega, h2⟩
theorem Told.upto {l : List Vbcn} {per : List UInt8} {E : List Int} (hp : per ≠ []) (hE : ∀ k, k + 1 < E.length → E.getD k 0 < E.getD (k + 1) 0) (hs : ∀ k, k + 1 < E.length → ∀ t, E.getD k 0 ≤ t → t < E.getD (k + 1) 0 → saysB l per t = saysB l per (E.getD k 0)) : ∀ k, k < E.length → Told l per (E.getD 0 0) (E.getD k 0) (thrN l per E k)
  | 0, _ => Told.zero _ _ _
  | k + 1, h => (Told.upto hp hE hs k (by omega)).step hp (hE k h) (hs k h)
/-- The edges of a window: its ends and what begins or ends strictly inside it. -/
structure Edges (l : List Vbcn) (per : List UInt8) (a z : Int) (E : List Int) : Prop where
  asc : E.Pairwise (· < ·)
  mem : ∀ n, n ∈ E ↔ n = a ∨ n = z ∨ ∃ b ∈ l, b.per = per ∧ (n = b.at_ ∨ n = b.til) ∧ a < n ∧ n < z
theorem Edges.lt {l : List Vbcn} {per : List UInt8} {a z : Int} {E : List Int} (h : Edges l per a z E) {i j : Nat} (hij : i < j) (hj : j < E.length) : E.getD i 0 < E.getD j 0 := by
  have := List.pairwise_iff_getElem.1 h.asc i j (by omega) hj hij
  rw [List.getD_eq_getElem?_getD, List.getD_eq_getElem?_getD, List.getElem?_eq_getElem (by omega), List.getElem?_eq_getElem hj]
  exact this
theorem getD_memI {E : List Int} {i : Nat} (h : i < E.length) : E.getD i 0 ∈ E := by
  rw [List.getD_eq_getElem?_getD, List.getElem?_eq_getElem h]
  exact List.getElem_mem h
theorem memI_getD {E : List Int} {x : Int} (h : x ∈ E) : ∃ i, i < E.length ∧ E.getD i 0 = x := by
  obtain ⟨i, hi, rfl⟩ := List.getElem_of_mem h
  exact ⟨i, hi, by rw [List.getD_eq_getElem?_getD, List.getElem?_eq_getElem hi]; rfl⟩
theorem Edges.bound {l : List Vbcn} {per : List UInt8} {a z : Int} {E : List Int} (h : Edges l per a z E) (haz : a ≤ z) {n : Int} (hn : n ∈ E) : a ≤ n ∧ n ≤ z := by
  rcases (h.mem n).1 hn with rfl | rfl | ⟨b, _, _, _, h1, h2⟩ <;> omega
theorem Edges.first {l : List Vbcn} {per : List UInt8} {a z : Int} {E : List Int} (h : Edges l per a z E) (haz : a ≤ z) : 0 < E.length ∧ E.getD 0 0 = a := by
  obtain ⟨i, hi, he⟩ := memI_getD ((h.mem a).2 (Or.inl rfl))
  refine ⟨by omega, ?_⟩
  have h0 := (h.bound haz (getD_memI (i := 0) (E := E) (by omega))).1
  by_cases h1 : i = 0
  · rw [← h1]; exact he
  · have := h.lt (i := 0) (j := i) (by omega) hi; omega
theorem Edges.final {l : List Vbcn} {per : List UInt8} {a z : Int} {E : List Int} (h : Edges l per a z E) (haz : a ≤ z) : E.getD (E.length - 1) 0 = z := by
  obtain ⟨i, hi, he⟩ := memI_getD ((h.mem z).2 (Or.inr (Or.inl rfl)))
  have h0 := (h.bound haz (getD_memI (i := E.length - 1) (E := E) (by omega))).2
  by_cases h1 : i = E.length - 1
  · rw [← h1]; exact he
  · have := h.lt (i := i) (j := E.length - 1) (by omega) (by omega); omega
theorem Edges.quiet {l : List Vbcn} {per : List UInt8} {a z : Int} {E : List Int} (h : Edges l per a z E) (haz : a ≤ z) (k : Nat) (hk : k + 1 < E.length) (t : Int) (h1 : E.getD k 0 ≤ t) (h2 : t < E.getD (k + 1) 0) : saysB l per t = saysB l per (E.getD k 0) := by
  have hno : ∀ n, n ∈ E → ¬ (E.getD k 0 < n ∧ n < E.getD (k + 1) 0) := by
    rintro n hn ⟨q1, q2⟩
    obtain ⟨i, hi, he⟩ := memI_getD hn
    rcases Nat.lt_trichotomy i k with c | c | c
    · have := h.lt c (by omega); omega
    · subst c; omega
    · by_cases c2 : i = k + 1
      · subst c2; omega
      · have := h.lt (i := k + 1) (j := i) (by omega) hi; omega
  have ha := (h.bound haz (getD_memI (i := k) (E := E) (by omega))).1
  have hz := (h.bound haz (getD_memI (i := k + 1) (E := E) hk)).2
  refine says_same (fun b hb hp => ?_)
  have e1 : ¬ (E.getD k 0 < b.at_ ∧ b.at_ < E.getD (k + 1) 0) := fun q => hno b.at_ ((h.mem _).2 (Or.inr (Or.inr ⟨b, hb, hp, Or.inl rfl, by omega, by omega⟩))) q
  have e2 : ¬ (E.getD k 0 < b.til ∧ b.til < E.getD (k + 1) 0) := fun q => hno b.til ((h.mem _).2 (Or.inr (Or.inr ⟨b, hb, hp, Or.inr rfl, by omega, by omega⟩))) q
  constructor <;> constructor <;> intro <;> omega
/-- What Through answers. -/
def thrL (l : List Vbcn) (per : List UInt8) (E : List Int) : List Vbcn := (thrN l per E (E.length - 1)).1
theorem thr_told {l : List Vbcn} {per : List UInt8} {a z : Int} {E : List Int} (h : Edges l per a z E) (haz : a ≤ z) (hp : per ≠ []) : Told l per a z (thrN l per E (E.length - 1)) := by
  have h0 := h.first haz
  have := Told.upto (l := l) hp (fun k hk => h.lt (Nat.lt_succ_self k) hk) (fun k hk t => h.quiet haz k hk t) (E.length - 1) (by omega)
  rw [h0.2, h.final haz] at this
  exact this
/-- The law: the first stretch that holds the moment says what counts there; where there is none, nobody says anything. -/
theorem thr_law {l : List Vbcn} {per : List UInt8} {a z : Int} {E : List Int} (h : Edges l per a z E) (haz : a ≤ z) (hp : per ≠ []) {t : Int} (h1 : a ≤ t) (h2 : t < z) :
    ((thrL l per E).findIdx? (fun s => decide (s.at_ ≤ t) && decide (t < s.til)) = none ∧ saysB l per t = none) ∨
    ∃ i b, (thrL l per E).findIdx? (fun s => decide (s.at_ ≤ t) && decide (t < s.til)) = some i ∧ i < (thrL l per E).length ∧ saysB l per t = some b ∧ ((thrL l per E).getD i default).st = b.st ∧ ((thrL l per E).getD i default).dev = b.dev ∧ ((thrL l per E).getD i default).note = b.note := by
  have hT := thr_told h haz hp
  show _ ∨ _
  unfold thrL
  generalize thrN l per E (E.length - 1) = o at hT ⊢
  cases hf : o.1.findIdx? (fun s => decide (s.at_ ≤ t) && decide (t < s.til)) with
  | none =>
    left
    refine ⟨rfl, ?_⟩
    rw [List.findIdx?_eq_none_iff] at hf
    cases hs : saysB l per t with
    | none => rfl
    | some b =>
      obtain ⟨s, hs', k1, k2⟩ := hT.all t h1 h2 (by rw [hs]; rfl)
      have := hf s hs'
      rw [decide_eq_true k1, decide_eq_true k2] at this
      cases this
  | some i =>
    right
    rw [List.findIdx?_eq_some_iff_getElem] at hf
    obtain ⟨hi, hp1, _⟩ := hf
    simp only [Bool.and_eq_true, decide_eq_true_eq] at hp1
    obtain ⟨b, hb, c1, c2, c3⟩ := hT.says _ (List.getElem_mem hi) t hp1.1 hp1.2
    refine ⟨i, b, rfl, hi, hb, ?_⟩
    rw [List.getD_eq_getElem?_getD, List.getElem?_eq_getElem hi]
    exact ⟨c1.symm, c2.symm, c3.symm⟩
end Go.Proofs.YtamoclofloijpaaGreatDoor

set_option linter.unusedVariables false
set_option linter.unusedSimpArgs false
namespace Go.Proofs.YtamoclofloijpaaGreatDoor
open Go.RowKit

/-- What of the library lies ahead of block S. -/
structure U8W (S : Nat) (w : World) : Prop where
  tabs : Lib.Utf8Tabs 0 1 w
  max_ : ∃ m : Int, w.cell? ⟨3, 0, none⟩ = some (.int .i64 m)
  l0 : 3 < S
  l1 : 0 < S
  l2 : 1 < S
theorem U8W.block {S : Nat} {w w' : World} (h : U8W S w) (h1 : w'.heap[0]? = w.heap[0]?) (h2 : w'.heap[1]? = w.heap[1]?) (h0 : w'.heap[3]? = w.heap[3]?) : U8W S w' := by
  obtain ⟨m, hm⟩ := h.max_
  refine ⟨⟨fun c hc => ?_, fun i hi => ⟨?_, ?_⟩⟩, ⟨m, ?_⟩, h.l0, h.l1, h.l2⟩
  · rw [← h.tabs.1 c hc]; unfold World.cell?; rw [h1]
  · rw [← (h.tabs.2 i hi).1]; unfold World.cell?; rw [h2]
  · rw [← (h.tabs.2 i hi).2]; unfold World.cell?; rw [h2]
  · rw [← hm]; unfold World.cell?; rw [h0]
theorem U8W.keeps {S : Nat} {w w' : World} (h : U8W S w) (hk : Keeps S w w') (hS : S < w.heap.size) : U8W S w' :=
  h.block (hk.block _ (Nat.lt_trans h.l1 hS) (Nat.ne_of_lt h.l1)) (hk.block _ (Nat.lt_trans h.l2 hS) (Nat.ne_of_lt h.l2)) (hk.block _ (Nat.lt_trans h.l0 hS) (Nat.ne_of_lt h.l0))
theorem U8W.below {S B : Nat} {w w' : World} (h : U8W S w) (hb : Below B w w') (hS : S ≤ B) : U8W S w' :=
  h.block (hb.block _ (Nat.lt_of_lt_of_le h.l1 hS)) (hb.block _ (Nat.lt_of_lt_of_le h.l2 hS)) (hb.block _ (Nat.lt_of_lt_of_le h.l0 hS))
end Go.Proofs.YtamoclofloijpaaGreatDoor
