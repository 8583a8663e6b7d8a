/- What is proved here: lemmas and contracts for the statement, put together out of smaller texts (PortRev, GenPick, PortPorts, PortHas, PortOwn, PortBack, CloneS, SortS, PortMov). No condition beyond those stated. -/
import Derived.Test.YtmbimfmalijjpaaGreatDoorNmPkG
import Derived.Sort.OwnSorted
import Derived.Test.YtmbimfmalijjpaaGreatDoorNmPkC
import Derived.Test.YtmbimfmalijjpaaGreatDoorNmPkA
import Derived.Test.YtmbimfmalijjpaaGreatDoorNmPkE
import Derived.Deep.MidRow
import Derived.RangeFuncNested
import Derived.RangeFuncLeaves
import Derived.Shelf.Abstract
import Derived.OwnWalkIn
import Derived.TacticsInMore
import Derived.LoopNIn
import Derived.LoopIn
import Derived.Test.YtmbimfmalijjpaaGreatDoorNmPkF
import Derived.Test.YtmbimfmalijjpaaGreatDoorNmPkB
import Derived.Test.YtmbimfmalijjpaaGreatDoorShelfSlip
set_option linter.unusedVariables false
set_option linter.unusedSimpArgs false
namespace Go.Proofs.YtmbimfmalijjpaaGreatDoor
open Go.RowKit Go.Sort

theorem flatK_list {α : Type} [Inhabited α] (enc : α → List Value) (k : Nat) (hk : ∀ x, (enc x).length = k) (l : List α) : (flatK enc k l.toArray).toList = (l.map enc).flatten := by
  have hcs : ∀ c ∈ l.map enc, c.length = k := fun c hc => by obtain ⟨x, _, rfl⟩ := List.mem_map.1 hc; exact hk x
  have hlen : (l.map enc).flatten.length = l.length * k := by rw [flat_len2 hcs, List.length_map]
  apply List.ext_getElem?
  intro j
  by_cases hj : j < l.length * k
  · have hk0 : 0 < k := by rcases Nat.eq_zero_or_pos k with h | h; · subst h; simp at hj
                           · exact h
    have h1 : j / k < l.length := Nat.div_lt_of_lt_mul (by rw [Nat.mul_comm]; exact hj)
    have h2 : j % k < k := Nat.mod_lt _ hk0
    have e := flat_at hcs (j / k) (by simpa using h1) (j % k) h2
    rw [Nat.div_add_mod' j k] at e
    rw [e, getD_map enc l (j / k) default [] h1]
    have h3 : (flatK enc k l.toArray)[j]! = (enc l.toArray[j / k]!)[j % k]! := get_flatK enc k l.toArray j (by simpa using hj)
    have h4 : j < (flatK enc k l.toArray).size := by simpa using hj
    rw [Array.getElem?_toList, Array.getElem?_eq_getElem h4, ← getElem!_pos (flatK enc k l.toArray) j h4, h3]
    have h5 : l.toArray[j / k]! = l.getD (j / k) default := by simp [h1]
    rw [h5]
    have h6 : j % k < (enc (l.getD (j / k) default)).length := by rw [hk]; exact h2
    rw [List.getElem?_eq_getElem h6, getElem!_pos (enc (l.getD (j / k) default)) (j % k) h6]
  · rw [List.getElem?_eq_none (by simp; omega), List.getElem?_eq_none (by omega)]
theorem heap_put {w : World} {g n : Nat} {cur : Array Value} {e : TypeId} {fr : Nat × Nat} (F : Array Value) (hb : w.heap[g]? = some (.cells cur e fr)) :
    (putRow id (Sort.ahead w n) g 0 F).heap[g]? = some (.cells (putCells id 0 F cur) e fr) := by
  simp [putRow, mapBlock, Sort.ahead, Array.getElem?_modify, hb, onCells]
theorem grown_put {w : World} {g n : Nat} (F : Array Value) : w.grownBy (putRow id (Sort.ahead w n) g 0 F) (some g) := by
  refine ⟨rfl, rfl, rfl, by simp, fun k hk hne => ?_⟩
  have : g ≠ k := fun e => hne (by rw [e])
  simp [putRow, mapBlock, Sort.ahead, Array.getElem?_modify, this]
theorem take_put (cur F : Array Value) (h : F.size ≤ cur.size) : (putCells id 0 F cur).toList.take F.size = F.toList := by
  apply List.ext_getElem?
  intro j
  by_cases hj : j < F.size
  · rw [List.getElem?_take_of_lt hj, Array.getElem?_toList]
    simp [putCells, hj, show j < cur.size by omega]
  · rw [List.getElem?_take_eq_none (by omega), List.getElem?_eq_none (by simp; omega)]
theorem holds_put {w : World} {g : Nat} {cur F : Array Value} {e : TypeId} (hb : w.heap[g]? = some (.cells cur e (0, 0))) (ht : cur.toList.take F.size = F.toList) : Holds id w g 0 F := by
  intro j hj
  refine ⟨?_, by simp [World.frozen?, hb]⟩
  have h1 : (cur.toList.take F.size)[j]? = F.toList[j]? := by rw [ht]
  rw [List.getElem?_take_of_lt hj] at h1
  simp only [World.cell?, hb, Nat.zero_add]
  simp only [Option.isSome_none, Bool.false_eq_true, if_false]
  rw [← Array.getElem?_toList, h1]
  simp [hj]
/-- A row of structs of the call's own, put anew. -/
theorem own_put {α : Type} [Inhabited α] (enc : α → List Value) (k : Nat) (hk : ∀ x, (enc x).length = k) {w : World} {base g cap n m : Nat} {e : TypeId} {cur : Array Value} {xs ys : List α} (hl : ys.length = xs.length) (hn : n = xs.length) (hbase : base ≤ g) (hb : w.heap[g]? = some (.cells cur e (0, 0))) (h1 : n ≤ cap) (h2 : cap ≤ maxLen) (h3 : cur.size = cap * k) :
    (putRowK enc k (Sort.ahead w m) g 0 ys.toArray).ownsRow base e k (.slice (some ⟨g, 0, none⟩) n cap) n ((ys.map enc).flatten) := by
  have hf := flatK_list enc k hk ys
  have hs : (flatK enc k ys.toArray).size = n * k := by rw [size_flatK]; simp [hl, hn]
  refine ⟨by rw [← hf, Array.length_toList, hs], .inr ⟨g, cap, _, rfl, hbase, heap_put _ hb, h1, h2, by simp [putCells, h3], ?_⟩⟩
  rw [← hf, ← hs]
  exact take_put _ _ (by rw [hs, h3]; exact Nat.mul_le_mul_right k h1)
def RevPost (base : Nat) (v : Value) (n : Nat) (ys : List Prt) (w : World) (e : Ending) (w' : World) : Prop :=
  e = .returned (.tuple #[]) ∧ w'.ownsRow base 76 3 v n ((ys.map Prt.cells).flatten) ∧ w.grownBy w' v.ownBlock
instance : Inhabited Prt := ⟨noPrt⟩
set_option maxRecDepth 100000 in
theorem rev_nil (w : World) : Calls Tryz.prog 48 #[.slice none 0 0] w fun e w' => e = .returned (.tuple #[]) ∧ w' = w := by
  go_enter Tryz.func48, Tryz.ntmps48
  go_wp2_with fail
  go_loopw [2, 3] (fun v2 v3 wr => v2 = .int .i64 0 ∧ v3 = .int .i64 (-1) ∧ Hid (wr = w)) (fun _ _ _ => 0)
  case atStart => exact ⟨rfl, rfl, rfl⟩
  case round =>
    obtain ⟨rfl, rfl, HW⟩ := hrel
    go_wp2_with fail
    go_end0
    exact ⟨rfl, HW.out⟩
theorem rev_own {w : World} {base : Nat} {v : Value} {n : Nat} {ps : List Prt} (h : w.ownsRow base 76 3 v n ((ps.map Prt.cells).flatten)) (hl : ps.length = n) (hn : n ≤ 100000) : Calls Tryz.prog 48 #[v] w (RevPost base v n ps.reverse w) := by
  rcases h.2 with ⟨rfl, h0⟩ | ⟨g, cap, cur, rfl, hb, hg, h1, h2, h3, h4⟩
  · obtain rfl : ps = [] := List.eq_nil_of_length_eq_zero (by omega)
    refine (rev_nil w).mono ?_
    rintro e w' ⟨rfl, rfl⟩
    exact ⟨rfl, by simpa using h, ⟨rfl, rfl, rfl, Nat.le_refl _, fun _ _ _ => rfl⟩⟩
  · have hk : ∀ x : Prt, x.cells.length = 3 := fun x => rfl
    have hf := flatK_list Prt.cells 3 hk ps
    have hs : (flatK Prt.cells 3 ps.toArray).size = n * 3 := by rw [size_flatK]; simp [hl]
    have hH : HoldsK Prt.cells 3 w g 0 ps.toArray := holds_put hg (by rw [hf, hs]; exact h4)
    have hc := Tryz.slices_revP Prt.cells hk (fun x v hv => by simp [Prt.cells] at hv; rcases hv with rfl | rfl | rfl <;> rfl) g 0 cap ps.toArray w hH (by simp; omega)
    rw [show ps.toArray.size = n by simpa using hl] at hc
    refine hc.mono ?_
    rintro e w' ⟨rfl, q, rfl⟩
    refine ⟨rfl, ?_, grown_put _⟩
    rw [show ps.toArray.reverse = ps.reverse.toArray by simp]
    exact own_put Prt.cells 3 hk (xs := ps) (by simp) hl.symm hb hg h1 h2 h3
end Go.Proofs.YtmbimfmalijjpaaGreatDoor

namespace Go.Proofs.YtmbimfmalijjpaaGreatDoor
open Go.RowKit

theorem calls_pick (S k : Nat) (v : Value) (vals : List Int) (p : Int → Prop) (w : World) (h : StreamOk w S k) (hk : k ≤ 1000000000) (ha : (Spec.arr vals.length (· = vals.map (Value.int .i64))).holds S w v) (h1 : 1 ≤ vals.length) (h2 : vals.length ≤ 1000) (hp : ∀ x ∈ vals, p x) :
    Calls Tryz.prog 23 #[.pointer (some ⟨S, 0, none⟩), v] w (PickPost S (k + 1) p w) := by
  obtain ⟨b, vs, rfl, rfl, hb, hl, hc⟩ := ha
  refine pick_any S k b vals.length vals.length vals p w h hk hl hb h1 h2 (fun i hi => ?_) (fun i hi => ?_)
  · exact hc i _ (by simp [hi])
  · rw [show vals.getD i _ = vals[i] by simp [hi]]; exact hp _ (List.getElem_mem hi)

theorem calls_some (S k : Nat) (v : Value) (vals : List (List UInt8)) (p : List UInt8 → Prop) (w : World) (h : StreamOk w S k) (hk : k ≤ 1000000000) (ha : (Spec.arr vals.length (· = vals.map (fun s => Value.string ⟨s.toArray⟩))).holds S w v) (h1 : 1 ≤ vals.length) (h2 : vals.length ≤ 1000) (hp : ∀ x ∈ vals, p x) :
    Calls Tryz.prog 6 #[.pointer (some ⟨S, 0, none⟩), v] w (SomePost S (k + 1) p w) := by
  obtain ⟨b, vs, rfl, rfl, hb, hl, hc⟩ := ha
  refine some_any S k b vals.length vals.length vals p w h hk hl hb h1 h2 (fun i hi => ?_) (fun i hi => ?_)
  · exact hc i _ (by simp [hi])
  · rw [show vals.getD i _ = vals[i] by simp [hi]]; exact hp _ (List.getElem_mem hi)

/-- A slot by its place. -/
theorem slot_of {a : Act} {t : Tmp} {v : Value} (h : a.eval (.tmp t) = v) : a.tmps[t]?.getD undef = v := by rw [← h]; simp [Act.eval]
end Go.Proofs.YtmbimfmalijjpaaGreatDoor

set_option linter.unusedVariables false
set_option linter.unusedSimpArgs false
namespace Go.Proofs.YtmbimfmalijjpaaGreatDoor
open Go.RowKit

theorem Tryz.infoOwner : (Tryz.prog.info? 73).map (fun i => (i.zero, i.size, i.bytes)) = some (some (.agg #[.string ⟨#[]⟩, .string ⟨#[]⟩, .string ⟨#[]⟩]), 3, 48) := by kernel_rfl
theorem Tryz.infoPort : (Tryz.prog.info? 76).map (fun i => (i.zero, i.size, i.bytes)) = some (some (.agg #[.string ⟨#[]⟩, .int .i64 0, .string ⟨#[]⟩]), 3, 40) := by kernel_rfl
theorem bs_string_cs3 (e : Operand → Value) (he : ∀ v, e (.const v) = v) (o : Oper) (w : World)  (p0 : ByteArray) (p1 : ByteArray) (p2 : ByteArray) (ho : o.op = .buildSlice 36 3 #[(0, .const (.string p0)), (1, .const (.string p1)), (2, .const (.string p2))])  :
   (execOp e o).run Tryz.prog w = .ok (.value (.slice (some ⟨w.heap.size, 0, none⟩) 3 3)) (w.alloc (.cells #[.string p0, .string p1, .string p2] 9)) := by
  unfold execOp
  rw [ho]
  simp only [List.map_toArray, List.map_cons, List.map_nil, he]
  kernel_rfl
theorem bs_api_Owner_tasssz (e : Operand → Value) (he : ∀ v, e (.const v) = v) (o : Oper) (w : World) (i0 : Nat) (p0_0 : ByteArray) (p0_1 : ByteArray) (p0_2 : ByteArray) (ho : o.op = .buildSlice 26 1 #[(0, .tmp i0)]) (h0 : e (.tmp i0) = .agg #[.string p0_0, .string p0_1, .string p0_2]) :
   (execOp e o).run Tryz.prog w = .ok (.value (.slice (some ⟨w.heap.size, 0, none⟩) 1 1)) (w.alloc (.cells #[.string p0_0, .string p0_1, .string p0_2] 73)) := by
  unfold execOp
  rw [ho]
  simp only [List.map_toArray, List.map_cons, List.map_nil, h0]
  kernel_rfl
theorem bs_ports4 (e : Operand → Value) (he : ∀ v, e (.const v) = v) (o : Oper) (w : World) (p0 p1 p2 p3 : ByteArray) (ho : o.op = .buildSlice 36 4 #[(0, .const (.string p0)), (1, .const (.string p1)), (2, .const (.string p2)), (3, .const (.string p3))]) :
   (execOp e o).run Tryz.prog w = .ok (.value (.slice (some ⟨w.heap.size, 0, none⟩) 4 4)) (w.alloc (.cells #[.string p0, .string p1, .string p2, .string p3] 9)) := by
  unfold execOp
  rw [ho]
  simp only [List.map_toArray, List.map_cons, List.map_nil, he]
  kernel_rfl
theorem bs_ports3 (e : Operand → Value) (he : ∀ v, e (.const v) = v) (o : Oper) (w : World) (p0 p1 p2 : ByteArray) (ho : o.op = .buildSlice 36 3 #[(0, .const (.string p0)), (1, .const (.string p1)), (2, .const (.string p2))]) :
   (execOp e o).run Tryz.prog w = .ok (.value (.slice (some ⟨w.heap.size, 0, none⟩) 3 3)) (w.alloc (.cells #[.string p0, .string p1, .string p2] 9)) := by
  unfold execOp
  rw [ho]
  simp only [List.map_toArray, List.map_cons, List.map_nil, he]
  kernel_rfl
theorem bs_ports2 (e : Operand → Value) (he : ∀ v, e (.const v) = v) (o : Oper) (w : World) (p0 p1 : ByteArray) (ho : o.op = .buildSlice 36 2 #[(0, .const (.string p0)), (1, .const (.string p1))]) :
   (execOp e o).run Tryz.prog w = .ok (.value (.slice (some ⟨w.heap.size, 0, none⟩) 2 2)) (w.alloc (.cells #[.string p0, .string p1] 9)) := by
  unfold execOp
  rw [ho]
  simp only [List.map_toArray, List.map_cons, List.map_nil, he]
  kernel_rfl
theorem own_off {w w' : World} {base e size : Nat} {v : Value} {n : Nat} {xs : List Value} {row : Option Nat} (h : w.ownsRow base e size v n xs) (hg : w.grownBy w' row) (hr : ∀ b, v.ownBlock = some b → ∀ b', row = some b' → b ≠ b') : w'.ownsRow base e size v n xs := by
  refine ⟨h.1, h.2.imp id ?_⟩
  rintro ⟨g, cap, cur, rfl, h1, h2, h3⟩
  exact ⟨g, cap, cur, rfl, h1, (hg.block g (Array.getElem?_eq_some_iff.1 h2).1 (fun e => hr g rfl g e.symm rfl)).trans h2, h3⟩
theorem grown_alloc {w w' : World} {o : Obj} {row : Option Nat} (hg : (w.alloc o).grownBy w' row) : w.grownBy w' row :=
  ⟨hg.os, hg.tape, hg.output, Nat.le_trans (by simp) hg.size, fun k hk hn => (hg.block k (by simp; omega) hn).trans (Below.heap_alloc _ _ _ hk)⟩
def OShort (l : List Own) : Prop := ∀ o ∈ l, o.r.f.length ≤ 100 ∧ o.r.t.length ≤ 100 ∧ o.c.length ≤ 100
def PShort (l : List Prt) : Prop := ∀ p ∈ l, p.n.length ≤ 100 ∧ p.c.length ≤ 100
theorem oshort_snoc {l : List Own} {r : Own} (h : OShort l) (h1 : r.r.f.length ≤ 100) (h2 : r.r.t.length ≤ 100) (h3 : r.c.length ≤ 100) : OShort (l ++ [r]) := fun x hx => by
  rcases List.mem_append.1 hx with hx | hx
  · exact h x hx
  · rw [List.mem_singleton.1 hx]; exact ⟨h1, h2, h3⟩
theorem pshort_snoc {l : List Prt} {r : Prt} (h : PShort l) (h1 : r.n.length ≤ 100) (h2 : r.c.length ≤ 100) : PShort (l ++ [r]) := fun x hx => by
  rcases List.mem_append.1 hx with hx | hx
  · exact h x hx
  · rw [List.mem_singleton.1 hx]; exact ⟨h1, h2⟩
theorem pshort_rev {l : List Prt} (h : PShort l) : PShort l.reverse := fun x hx => h x (List.mem_reverse.1 hx)
theorem ocells_snoc (l : List Own) (r : Own) : ((l ++ [r]).map Own.cells).flatten = (l.map Own.cells).flatten ++ Own.cells r := by simp
theorem pcells_snoc (l : List Prt) (r : Prt) : ((l ++ [r]).map Prt.cells).flatten = (l.map Prt.cells).flatten ++ Prt.cells r := by simp
def PortsPost (S k : Nat) (w : World) (e : Ending) (w' : World) : Prop :=
  ∃ vo os vp ps, e = .returned (.tuple #[vo, vp]) ∧ w'.ownsRow w.heap.size 73 3 vo os.length ((os.map Own.cells).flatten) ∧ w'.ownsRow w.heap.size 76 3 vp ps.length ((ps.map Prt.cells).flatten) ∧ os.length ≤ 6 ∧ ps.length ≤ 13 ∧ OShort os ∧ PShort ps ∧ StreamOk w' S k ∧ Keeps S w w'
theorem getD_mem {α : Type} {l : List α} {i : Nat} (d : α) (h : i < l.length) : l.getD i d ∈ l := by
  rw [List.getD_eq_getElem?_getD, List.getElem?_eq_getElem h]
  exact List.getElem_mem h
/-- The rows of owners and ports, at later worlds. -/
theorem own_row {w W : World} {base S : Nat} {v : Value} {os : List Own} (h : w.ownsRow base 73 3 v os.length ((os.map Own.cells).flatten)) (hk : Keeps S w W) (hS : S < base) (hf : os.length ≤ 5000) (hs : OShort os) : ∃ a c, v = .slice a os.length c ∧ os.length ≤ c ∧ OwnRow W a os.length os := by
  obtain ⟨a, c, rfl, hc⟩ := Cells.of_own (own_keeps h hk hS) (fun x hx => by obtain ⟨y, _, rfl⟩ := List.mem_map.1 hx; rfl) (by decide)
  refine ⟨a, c, rfl, ?_, ⟨hc, hf, fun i hi => hs _ (getD_mem _ hi)⟩⟩
  rcases h.2 with ⟨h1, h0⟩ | ⟨g, cap, cur, h1, _, _, h4, _⟩
  · rw [h0]; exact Nat.zero_le _
  · injection h1 with _ _ e3; omega
theorem prt_row {w W : World} {base S : Nat} {v : Value} {ps : List Prt} (h : w.ownsRow base 76 3 v ps.length ((ps.map Prt.cells).flatten)) (hk : Keeps S w W) (hS : S < base) (hf : ps.length ≤ 5000) (hs : PShort ps) : ∃ a c, v = .slice a ps.length c ∧ ps.length ≤ c ∧ PrtRow W a ps.length ps := by
  obtain ⟨a, c, rfl, hc⟩ := Cells.of_own (own_keeps h hk hS) (fun x hx => by obtain ⟨y, _, rfl⟩ := List.mem_map.1 hx; rfl) (by decide)
  refine ⟨a, c, rfl, ?_, ⟨hc, hf, fun i hi => hs _ (getD_mem _ hi)⟩⟩
  rcases h.2 with ⟨h1, h0⟩ | ⟨g, cap, cur, h1, _, _, h4, _⟩
  · rw [h0]; exact Nat.zero_le _
  · injection h1 with _ _ e3; omega
def four : List (List UInt8) := [[43, 49, 48, 48, 48], [43, 49, 48, 48, 49], [43, 49, 57, 57, 48], [43, 49, 57, 57, 57, 53]]
theorem four_short (i : Nat) : (four.getD i []).length ≤ 100 := by
  match i with
  | 0 | 1 | 2 | 3 => decide
  | i + 4 => simp [four]
set_option maxRecDepth 100000 in
set_option maxHeartbeats 4000000 in
theorem ports_any (S k : Nat) (w : World) (h : StreamOk w S k) (hk : k ≤ 900000) (hT : TabW S w) : Calls Tryz.prog 5 #[.pointer (some ⟨S, 0, none⟩)] w (PortsPost S (k + 100) w) := by
  obtain ⟨i1, hi1, hy0, hy1, hy2⟩ := info_parts Tryz.infoOwner
  obtain ⟨i2, hi2, hz0, hz1, hz2⟩ := info_parts Tryz.infoPort
  have HS := Lib.hid h
  have HT := Lib.hid hT
  have hSl := h.lt
  clear h hT
  go_enter Tryz.func5, Tryz.ntmps5
  go_wp2_with fail
  refine (range_any S k 0 4 _ HS.out (by omega) (by omega) (by omega) (by omega)).mono ?_
  rintro e w1 ⟨mn, rfl, m0, m1, hst1, hk1⟩
  obtain ⟨mn, rfl⟩ := Int.eq_ofNat_of_zero_le m0
  have HS1 := Lib.hid hst1
  have HK1 := Lib.hid hk1
  clear hst1 hk1 HS
  as_aux_lemma =>
    go_wp2_with fail
    refine (ranges_any S (k + 1) w1 HS1.out (by omega) mn (by omega) true (tab_keeps HT.out HK1.out hSl)).mono ?_
    rintro e w2 ⟨v2, l, rfl, ho2, hll, hsh, hst2, hk2⟩
    have hS1 : S < w1.heap.size := HS1.out.lt
    have hS2 : S < w2.heap.size := hst2.lt
    have HRW : Hid (∀ W, Keeps S w2 W → ∃ a c, v2 = .slice a l.length c ∧ Cells W 2 a l.length (l.map Rng.cells)) := fun W hW => Cells.of_own (own_keeps ho2 hW hS1) (fun x hx => by obtain ⟨y, _, rfl⟩ := List.mem_map.1 hx; rfl) (by decide)
    have HSH := Lib.hid hsh
    have HS2 := Lib.hid hst2
    have HK2 := Lib.hid (HK1.out.trans hk2)
    have hzw : w.heap.size ≤ w2.heap.size := HK2.out.size
    clear hst2 hk2 hsh ho2 HS1 HK1
    obtain ⟨a, cc, rfl, -⟩ := HRW.out w2 (Keeps.refl _ _)
    generalize hnl : l.length = nl at HRW ⊢
    as_aux_lemma =>
      go_wp2_with fail
      go_loopw [4, 16] (fun v4 it wr => ∃ (i : Nat) (os : List Own), i ≤ nl ∧ it = .int .i64 i ∧ os.length = i ∧ Hid (OShort os) ∧ Hid (wr.ownsRow w2.heap.size 73 3 v4 os.length ((os.map Own.cells).flatten)) ∧ Hid (StreamOk wr S (k + 61 + i)) ∧ Hid (Keeps S w2 wr)) (fun _ it _ => nl - (intOf it).toNat)
      case atStart => exact ⟨0, [], Nat.zero_le _, rfl, rfl, (fun r hr => by cases hr), World.ownsRow_nil _ _ _ _, HS2.out.mono (by omega), Keeps.refl _ _⟩
      case round =>
        obtain ⟨i, os, hi, rfl, hlen, HOS, HOW, HSR, HKR⟩ := hrel
        by_cases hlt : i < nl
        · obtain ⟨b, off, rfl, hb, c0, c1, sf, st⟩ : ∃ b off, a = some ⟨b, off, none⟩ ∧ b < wr.heap.size ∧ wr.cell? ⟨b, off + i * 2, none⟩ = some (.string ⟨(l.getD i noRng).f.toArray⟩) ∧ wr.cell? ⟨b, off + i * 2 + 1, none⟩ = some (.string ⟨(l.getD i noRng).t.toArray⟩) ∧ (l.getD i noRng).f.length ≤ 100 ∧ (l.getD i noRng).t.length ≤ 100 := by
            obtain ⟨a9, c9, ha9, hc9⟩ := HRW.out wr HKR.out
            injection ha9 with e1 e2 e3
            subst e1 e3
            have hr : RngRow wr a nl l := ⟨by rw [← hnl] at hc9 ⊢; exact hc9, by omega, fun j hj => HSH.out _ (getD_mem _ hj)⟩
            obtain ⟨b, off, h1, h2, h3⟩ := hr.at (by omega)
            obtain ⟨h4, h5⟩ := h3 i hlt
            obtain ⟨h6, h7⟩ := HSH.out _ (getD_mem noRng (show i < l.length by omega))
            exact ⟨b, off, h1, h2, h4, h5, h6, h7⟩
          generalize l.getD i noRng = x at c0 c1 sf st
          obtain ⟨f, t⟩ := x
          simp only at c0 c1 sf st
          as_aux_lemma =>
            go_upto_region 5 with (fail)
            have hwr : S < wr.heap.size := HSR.out.lt
            have HOB := Lib.hid (HOW.out.alloc (.cells #[.string ⟨f.toArray⟩, .string ⟨t.toArray⟩] 53))
            have HSB : Hid (StreamOk (wr.alloc (.cells #[.string ⟨f.toArray⟩, .string ⟨t.toArray⟩] 53)) S (k + 61 + i)) := HSR.out.below (ext_alloc (Below.refl _ _))
            have HKB : Hid (Keeps S w2 (wr.alloc (.cells #[.string ⟨f.toArray⟩, .string ⟨t.toArray⟩] 53))) := HKR.out.alloc _
            obtain ⟨k0, k1⟩ : (wr.alloc (.cells #[.string ⟨f.toArray⟩, .string ⟨t.toArray⟩] 53)).cell? ⟨wr.heap.size, 0, none⟩ = some (.string ⟨f.toArray⟩) ∧ (wr.alloc (.cells #[.string ⟨f.toArray⟩, .string ⟨t.toArray⟩] 53)).cell? ⟨wr.heap.size, 1, none⟩ = some (.string ⟨t.toArray⟩) := ⟨by go_simp, by go_simp⟩
            have hTl : wr.heap.size < (wr.alloc (.cells #[.string ⟨f.toArray⟩, .string ⟨t.toArray⟩] 53)).heap.size := by simp
            clear c0 c1 HOW HSR HKR
            generalize wr.alloc (.cells #[.string ⟨f.toArray⟩, .string ⟨t.toArray⟩] 53) = w3 at HOB HSB HKB k0 k1 hTl ⊢
            have hTS : wr.heap.size ≠ S := by omega
            generalize wr.heap.size = T at k0 k1 hTl hTS ⊢
            refine region_all S (k + 61 + i) 1 7 0 [.val (fun v => u4 = v), .val (fun v => .agg #[.string ⟨f.toArray⟩, .string ⟨t.toArray⟩] = v), .val (fun v => .pointer (some ⟨S, 0, none⟩) = v), .arr 3 (· = [.string ⟨#[120, 97]⟩, .string ⟨#[120, 98]⟩, .string ⟨#[120, 99]⟩]), .val (fun v => ∃ s1 : List UInt8, (s1.length ≤ 100) ∧ .string ⟨s1.toArray⟩ = v), .val (fun v => ∃ s1 : List UInt8, (s1.length ≤ 100) ∧ .agg #[.string ⟨f.toArray⟩, .string ⟨t.toArray⟩, .string ⟨s1.toArray⟩] = v), .arr 1 (fun vs => ∃ s1 : List UInt8, (s1.length ≤ 100) ∧ ([.string ⟨f.toArray⟩, .string ⟨t.toArray⟩, .string ⟨s1.toArray⟩] : List Value) = vs)] [4] [some 20, some 21, some 22, some 23, some 24, some 25, some 26] (by kernel_rfl) (by kernel_rfl) (by kernel_rfl) (by kernel_rfl) (by kernel_rfl) (by kernel_rfl) rfl (by kernel_rfl) rfl rfl (by kernel_rfl) HSB.out ⟨?_, ?_, ?_, ?_, ?_, ?_, ?_, trivial⟩ ?_
            · intro a w' c hk hst hc hfr hdp K hK
              as_aux_lemma =>
                have E4 : a.eval (.tmp 4) = u4 := fr_list hfr 4 (by kernel_rfl)
                have d4 := slot_of E4
                refine gen_pure (v := u4) ?_ (hK _ _ rfl (Keeps.refl _ _) hst)
                clear hK hdp hfr
                go_simp
            · intro a w' c hk hst hc hfr hdp K hK
              as_aux_lemma =>
                have E6 : a.eval (.tmp 6) = .pointer (some ⟨T, 0, none⟩) := fr_list hfr 6 (by kernel_rfl)
                have d6 := slot_of E6
                have cl0 : w'.cell? ⟨T, 0, none⟩ = some (.string ⟨f.toArray⟩) := (hk.cell (p := ⟨T, 0, none⟩) hTl hTS).trans k0
                have cl1 : w'.cell? ⟨T, 1, none⟩ = some (.string ⟨t.toArray⟩) := (hk.cell (p := ⟨T, 1, none⟩) hTl hTS).trans k1
                refine gen_pure (v := .agg #[.string ⟨f.toArray⟩, .string ⟨t.toArray⟩]) ?_ (hK _ _ rfl (Keeps.refl _ _) hst)
                clear hK hdp hfr
                go_simp
            · intro a w' c hk hst hc hfr hdp K hK
              as_aux_lemma =>
                have E0 : a.eval (.tmp 0) = .pointer (some ⟨S, 0, none⟩) := fr_list hfr 0 (by kernel_rfl)
                have d0 := slot_of E0
                refine gen_pure (v := .pointer (some ⟨S, 0, none⟩)) ?_ (hK _ _ rfl (Keeps.refl _ _) hst)
                clear hK hdp hfr
                go_simp
            · intro a w' c hk hst hc hfr hdp K hK
              as_aux_lemma =>
                exact gen_alloc (p := (· = ([.string ⟨#[120, 97]⟩, .string ⟨#[120, 98]⟩, .string ⟨#[120, 99]⟩] : List Value))) #[.string ⟨#[120, 97]⟩, .string ⟨#[120, 98]⟩, .string ⟨#[120, 99]⟩] 9 (bs_string_cs3 _ (fun _ => rfl) _ _ _ _ _ rfl ) rfl hst hK
            · intro a w' c hk hst hc hfr hdp K hK
              as_aux_lemma =>
                have E22 : a.eval (.tmp 22) = .pointer (some ⟨S, 0, none⟩) := Eq.symm (hdp 2 22 _ (by kernel_rfl) (by kernel_rfl) rfl)
                have d22 := slot_of E22
                have d23 := hdp 3 23 _ (by kernel_rfl) (by kernel_rfl) rfl
                have hc2 : c + 1 ≤ 1 := hc
                generalize hv2 : a.eval (.tmp 23) = v2 at d23
                have d3 := slot_of hv2
                clear hv2
                refine gen_call 6 #[.pointer (some ⟨S, 0, none⟩), v2] ?_ (calls_some S _ v2 [[120, 97], [120, 98], [120, 99]] (fun s1 => s1.length ≤ 100) w' hst (by omega) d23 (by decide) (by decide) (by decide)) ?_
                · clear hK hdp hfr; go_simp
                rintro e w'' ⟨r, rfl, hr, hst2, hkp⟩
                exact ⟨_, rfl, hK _ _ ⟨r, hr, rfl⟩ hkp (hst2.mono (by simp; omega))⟩
            · intro a w' c hk hst hc hfr hdp K hK
              as_aux_lemma =>
                have E21 : a.eval (.tmp 21) = .agg #[.string ⟨f.toArray⟩, .string ⟨t.toArray⟩] := Eq.symm (hdp 1 21 _ (by kernel_rfl) (by kernel_rfl) rfl)
                have d21 := slot_of E21
                obtain ⟨s1, hs1, e24⟩ := hdp 4 24 _ (by kernel_rfl) (by kernel_rfl) rfl
                have E24 := Eq.symm e24
                have d24 := slot_of E24
                clear e24
                refine gen_pure (v := .agg #[.string ⟨f.toArray⟩, .string ⟨t.toArray⟩, .string ⟨s1.toArray⟩]) ?_ (hK _ _ ⟨s1, hs1, rfl⟩ (Keeps.refl _ _) hst)
                clear hK hdp hfr
                go_simp
            · intro a w' c hk hst hc hfr hdp K hK
              as_aux_lemma =>
                obtain ⟨s1, hs1, e25⟩ := hdp 5 25 _ (by kernel_rfl) (by kernel_rfl) rfl
                have E25 := Eq.symm e25
                have d25 := slot_of E25
                clear e25
                exact gen_alloc (p := (fun vs => ∃ s1 : List UInt8, (s1.length ≤ 100) ∧ ([.string ⟨f.toArray⟩, .string ⟨t.toArray⟩, .string ⟨s1.toArray⟩] : List Value) = vs)) #[.string ⟨f.toArray⟩, .string ⟨t.toArray⟩, .string ⟨s1.toArray⟩] 73 (bs_api_Owner_tasssz _ (fun _ => rfl) _ _ _ _ _ _ rfl E25) ⟨s1, hs1, rfl⟩ hst hK
            intro w8 hk8 hst8
            rintro _ rfl _ - _ - _ - _ - _ - _ ⟨g26, _, rfl, ⟨s1, hs1, rfl⟩, hgb26, hgl26, hgc26⟩
            simp only [ForVals, Act.put, List.setIfInBounds_toArray, List.set_cons_zero, List.set_cons_succ, List.drop_succ_cons, List.drop_zero]
            have kd : Keeps S w3 w8 := Keeps.trans (by exact Keeps.of_below (ext_drew (Below.refl _ _))) hk8
            have HO8 := Lib.hid (own_keeps HOB.out kd hS2)
            have HK8 := Lib.hid (HKB.out.trans kd)
            have HS8 := Lib.hid hst8
            have hz8 : w2.heap.size ≤ w8.heap.size := HK8.out.size
            have hnews : ∀ (j : Nat) u, ([.string ⟨f.toArray⟩, .string ⟨t.toArray⟩, .string ⟨s1.toArray⟩] : List Value)[j]? = some u → w8.cell? ((⟨g26, 0, none⟩ : Addr).add j) = some u := fun j u hj => by rw [add0]; exact hgc26 j u hj
            clear hk8 hst8 kd HOB HKB HSB k0 k1
            go_wp2_with (at_builtin; refine wpList_append_own_at _ rfl (.tmp 20) (.tmp 26) 26 rfl w2.heap.size 73 i1 _ 3 48 Tryz.underlying26 hi1 hy0 hy1 hy2 rfl (by omega) _ os.length _ rfl HO8.out ⟨g26, 0, none⟩ 1 1 [.string ⟨f.toArray⟩, .string ⟨t.toArray⟩, .string ⟨s1.toArray⟩] rfl rfl hnews (by simp [Value.oneCell']) (by simp only [maxLen]; omega) (by omega) (by omega) ?_; intro v9 w9 hown9 hgr9 _ _)
            have HO9 : Hid (w9.ownsRow w2.heap.size 73 3 v9 (os ++ [Own.mk ⟨f, t⟩ s1]).length (((os ++ [Own.mk ⟨f, t⟩ s1]).map Own.cells).flatten)) := by
              show World.ownsRow _ _ _ _ _ _ _
              rw [ocells_snoc, List.length_append]
              exact hown9
            have HK9 : Hid (Keeps S w2 w9) := HK8.out.grown0 hgr9 (fun b e => (HO8.out.lt b e).1)
            have HS9 : Hid (StreamOk w9 S (k + 61 + i + 1)) := HS8.out.upto ((Below.refl (S + 1) w8).grown hgr9 (by omega) (fun b e => by have := (HO8.out.lt b e).1; omega))
            go_roundw
            case rel => exact ⟨i + 1, os ++ [Own.mk ⟨f, t⟩ s1], by omega, by go_num, by simp [hlen], oshort_snoc HOS.out sf st hs1, HO9.out, HS9.out, HK9.out⟩
            case measure => simp [intOf]; omega
        · obtain rfl : i = nl := by omega
          have hol : os.length ≤ 5 := by omega
          have HS3 : Hid (StreamOk wr S (k + 66)) := HSR.out.mono (by omega)
          have HK3 := Lib.hid (HK2.out.trans HKR.out)
          have hS3 : S < wr.heap.size := HSR.out.lt
          have hzr : w2.heap.size ≤ wr.heap.size := HKR.out.size
          have HO3 : Hid (wr.ownsRow w.heap.size 73 3 u4 os.length ((os.map Own.cells).flatten)) := own_le HOW.out hzw
          have hzw3 : w.heap.size ≤ wr.heap.size := by omega
          obtain ⟨w3, rfl⟩ : ∃ x : World, x = wr := ⟨_, rfl⟩
          obtain ⟨vo, rfl⟩ : ∃ x : Value, x = u4 := ⟨_, rfl⟩
          clear HSR HKR HOW HRW HSH HS2 HK2 hlen hzr hzw hS2 hS1 hnl hll hi hlt
          as_aux_lemma =>
            go_wp2_with (first | (refine wpList_val rfl (bs_ports4 _ (fun _ => rfl) _ _ _ _ _ _ rfl) ?_))
            have HL : Hid (Lst S (w3.alloc (.cells #[.string ⟨#[43, 49, 48, 48, 48]⟩, .string ⟨#[43, 49, 48, 48, 49]⟩, .string ⟨#[43, 49, 57, 57, 48]⟩, .string ⟨#[43, 49, 57, 57, 57, 53]⟩] 9)) w3.heap.size 4 four) := lst_new S w3 hS3 four _ rfl _ rfl
            have HS4 : Hid (StreamOk (w3.alloc (.cells #[.string ⟨#[43, 49, 48, 48, 48]⟩, .string ⟨#[43, 49, 48, 48, 49]⟩, .string ⟨#[43, 49, 57, 57, 48]⟩, .string ⟨#[43, 49, 57, 57, 57, 53]⟩] 9)) S (k + 66)) := HS3.out.below (ext_alloc (Below.refl _ _))
            have HK4 : Hid (Keeps S w3 (w3.alloc (.cells #[.string ⟨#[43, 49, 48, 48, 48]⟩, .string ⟨#[43, 49, 48, 48, 49]⟩, .string ⟨#[43, 49, 57, 57, 48]⟩, .string ⟨#[43, 49, 57, 57, 57, 53]⟩] 9))) := (Keeps.refl _ _).alloc _
            generalize w3.alloc (.cells #[.string ⟨#[43, 49, 48, 48, 48]⟩, .string ⟨#[43, 49, 48, 48, 49]⟩, .string ⟨#[43, 49, 57, 57, 48]⟩, .string ⟨#[43, 49, 57, 57, 57, 53]⟩] 9) = w4 at HL HS4 HK4 ⊢
            have hz3 := HK4.out.size
            have hS4 : S < w4.heap.size := HS4.out.lt
            have hzw4 : w.heap.size ≤ w4.heap.size := by omega
            obtain ⟨Q, hQ⟩ : ∃ Q, w3.heap.size = Q := ⟨_, rfl⟩
            have HQ : Hid (w3.heap.size = Q) := hQ
            rw [hQ] at HL ⊢
            clear hQ HS3
            as_aux_lemma =>
              go_loopw [7, 31] (fun v7 it wr => ∃ (i : Nat) (ps : List Prt), i ≤ 4 ∧ it = .int .i64 i ∧ ps.length ≤ 3 * i ∧ Hid (PShort ps) ∧ Hid (wr.ownsRow w4.heap.size 76 3 v7 ps.length ((ps.map Prt.cells).flatten)) ∧ Hid (StreamOk wr S (k + 66 + 6 * i)) ∧ Hid (Keeps S w4 wr)) (fun _ it _ => 4 - (intOf it).toNat)
              case atStart => exact ⟨0, [], Nat.zero_le _, rfl, Nat.zero_le _, (fun r hr => by cases hr), World.ownsRow_nil _ _ _ _, HS4.out, Keeps.refl _ _⟩
              case round =>
                obtain ⟨i, ps, hi, rfl, hpl, HPS, HPW, HSR, HKR⟩ := hrel
                by_cases hlt : i < 4
                · obtain ⟨hQl, hQS, hQc⟩ := HL.out.keeps HKR.out
                  have q0 := hQc i hlt
                  have hn9 := four_short i
                  clear hQc
                  generalize four.getD i [] = nm at q0 hn9
                  as_aux_lemma =>
                    go_wp2_with fail
                    refine (next_any S (k + 66 + 6 * i) 20 _ HSR.out (by omega) (by omega) (by omega)).mono ?_
                    rintro e w5 ⟨z5, rfl, y0, y1, hst5, hk5⟩
                    have HS5 := Lib.hid hst5
                    have HK5 := Lib.hid (HKR.out.trans hk5)
                    have HP5 := Lib.hid (own_keeps HPW.out hk5 hS4)
                    clear hst5 hk5 HSR HKR HPW q0
                    as_aux_lemma =>
                      go_wp2_with fail
                      refine (next_any S (k + 66 + 6 * i + 1) 3 _ HS5.out (by omega) (by omega) (by omega)).mono ?_
                      rintro e w6 ⟨m, rfl, x0, x1, hst6, hk6⟩
                      obtain ⟨m, rfl⟩ := Int.eq_ofNat_of_zero_le x0
                      have HS6 := Lib.hid hst6
                      have HK6 := Lib.hid (HK5.out.trans hk6)
                      have HP6 := Lib.hid (own_keeps HP5.out hk6 hS4)
                      clear hst6 hk6 HS5 HK5 HP5
                      obtain ⟨wo, rfl⟩ : ∃ wo : World, wo = wr := ⟨_, rfl⟩
                      as_aux_lemma =>
                        go_wp2_with fail
                        go_loopw [7, 10, 39] (fun v7 v10 it wr => ∃ (j : Nat) (qs : List Prt) (z : Int), j ≤ m ∧ it = .int .i64 j ∧ v10 = .int .i64 z ∧ 0 ≤ z ∧ z ≤ 20 + 50 * j ∧ qs.length ≤ 3 * i + j ∧ Hid (PShort qs) ∧ Hid (wr.ownsRow w4.heap.size 76 3 v7 qs.length ((qs.map Prt.cells).flatten)) ∧ Hid (StreamOk wr S (k + 66 + 6 * i + 2 + 2 * j)) ∧ Hid (Keeps S w4 wr)) (fun _ _ it _ => m - (intOf it).toNat)
                        case atStart => exact ⟨0, ps, z5, Nat.zero_le _, rfl, rfl, by omega, by omega, by omega, HPS.out, HP6.out, HS6.out, HK6.out⟩
                        case round =>
                          obtain ⟨j, qs, y, hj, rfl, rfl, v0, v1, hql, HQS, HQW, HSJ, HKJ⟩ := hrel
                          by_cases hjm : j < m
                          · have hSJ : S < wr.heap.size := HSJ.out.lt
                            as_aux_lemma =>
                              go_wp2_with (first | (refine wpList_val rfl (bs_ports3 _ (fun _ => rfl) _ _ _ _ _ rfl) ?_))
                              refine (some_lit S (k + 66 + 6 * i + 2 + 2 * j) [[120, 97], [120, 98], [120, 100]] (fun s => s.length ≤ 100) _ _ _ HSJ.out (by omega) rfl rfl (by decide) (by decide) (by decide)).mono ?_
                              rintro e w7 ⟨cs, rfl, hcs, hst7, hk7⟩
                              have HS7 := Lib.hid hst7
                              have HK7 := Lib.hid (HKJ.out.trans hk7)
                              have HP7 := Lib.hid (own_keeps HQW.out hk7 hS4)
                              have hcs : cs.length ≤ 100 := hcs
                              clear hst7 hk7 HSJ HKJ HQW
                              have HPA := Lib.hid (HP7.out.alloc (.cells #[.string ⟨nm.toArray⟩, .int .i64 y, .string ⟨cs.toArray⟩] 76))
                              have hz7 : w4.heap.size ≤ w7.heap.size := HK7.out.size
                              as_aux_lemma =>
                                go_wp2_with (first | (refine wpList_val rfl (bs_p3 _ (fun _ => rfl) _ _ rfl) ?_) | (at_builtin; refine wpList_append_own_at _ rfl (.tmp 41) (.tmp 48) 27 rfl w4.heap.size 76 i2 _ 3 40 Tryz.underlying27 hi2 hz0 hz1 hz2 rfl (by omega) _ qs.length _ rfl HPA.out ⟨w7.heap.size, 0, none⟩ 1 1 [.string ⟨nm.toArray⟩, .int .i64 y, .string ⟨cs.toArray⟩] rfl rfl (fun j u hj => by rw [add0]; match j, hj with | 0, hj => simp at hj; subst hj; go_simp | 1, hj => simp at hj; subst hj; go_simp | 2, hj => simp at hj; subst hj; go_simp) (by simp [Value.oneCell']) (by simp only [maxLen]; omega) (by omega) (by simp; omega) ?_; intro v9 w9 hown9 hgr9 _ _))
                                have HP9 : Hid (w9.ownsRow w4.heap.size 76 3 v9 (qs ++ [Prt.mk nm y cs]).length (((qs ++ [Prt.mk nm y cs]).map Prt.cells).flatten)) := by
                                  show World.ownsRow _ _ _ _ _ _ _
                                  rw [pcells_snoc, List.length_append]
                                  exact hown9
                                have hup : Below (S + 1) w7 w9 := upto_grown hgr9 (by omega) (fun b e => by have := (HP7.out.lt b e).1; omega)
                                have HS9 := Lib.hid (HS7.out.upto hup)
                                have HK9 : Hid (Keeps S w4 w9) := HK7.out.grown hgr9 (fun b e => (HP7.out.lt b e).1)
                                clear hown9 hgr9 hup HPA HP7 HS7 HK7
                                refine (pick_lit S (k + 66 + 6 * i + 2 + 2 * j + 1) [1, 10, 50] (fun x => 1 ≤ x ∧ x ≤ 50) _ _ _ HS9.out (by omega) rfl rfl (by decide) (by decide) (by decide)).mono ?_
                                rintro e w10 ⟨d, rfl, ⟨d0, d1⟩, hst10, hk10⟩
                                have HS10 := Lib.hid hst10
                                have HK10 := Lib.hid (HK9.out.trans hk10)
                                have HP10 := Lib.hid (own_keeps HP9.out hk10 hS4)
                                have wy : IntKind.i64.wrap (y + d) = y + d := IntWalk.i64_in _ (by omega)
                                clear hst10 hk10 HS9 HK9 HP9
                                as_aux_lemma =>
                                  go_wp2_with fail
                                  go_roundw
                                  case rel => exact ⟨j + 1, qs ++ [Prt.mk nm y cs], y + d, by omega, by go_num, rfl, by omega, by omega, by rw [List.length_append, List.length_singleton]; omega, pshort_snoc HQS.out hn9 hcs, HP10.out, HS10.out.mono (by omega), HK10.out⟩
                                  case measure => simp [intOf]; omega
                          · obtain rfl : j = m := by omega
                            as_aux_lemma =>
                              go_wp2_with fail
                              go_roundw
                              case rel => exact ⟨i + 1, qs, by omega, by go_num, by omega, HQS.out, HQW.out, HSJ.out.mono (by omega), HKJ.out⟩
                              case measure => simp [intOf]; omega
                · obtain rfl : i = 4 := by omega
                  have HO5 := Lib.hid (own_keeps HO3.out (HK4.out.trans HKR.out) hSl)
                  have HK5 := Lib.hid (HK3.out.trans (HK4.out.trans HKR.out))
                  have hzR : w4.heap.size ≤ wr.heap.size := HKR.out.size
                  have hvo : ∀ b, vo.ownBlock = some b → w.heap.size ≤ b ∧ b < w3.heap.size := fun b e => HO3.out.lt b e
                  clear HK4 HKR HL HO3 HK3 HQ hlt hi
                  as_aux_lemma =>
                    go_wp2_with fail
                    refine (flip_any S (k + 66 + 6 * 4) 12 _ HSR.out (by omega) (by decide) (by decide)).mono ?_
                    rintro e w6 ⟨fl, rfl, hst6, hk6⟩
                    have HS6 := Lib.hid hst6
                    have HK6 := Lib.hid (HK5.out.trans hk6)
                    have HO6 := Lib.hid (own_keeps HO5.out hk6 hSl)
                    have HP6 := Lib.hid (own_keeps HPW.out hk6 hS4)
                    have hzz6 : w4.heap.size ≤ w6.heap.size := Nat.le_trans hzR hk6.size
                    clear hst6 hk6 HSR HK5 HO5 HPW
                    cases fl
                    · skip
                      as_aux_lemma =>
                        go_wp2_with fail
                        go_ret2
                        exact ⟨_, os, _, ps, rfl, HO6.out, own_le HP6.out hzw4, by omega, by omega, HOS.out, HPS.out, HS6.out.mono (by omega), HK6.out⟩
                    · skip
                      as_aux_lemma =>
                        go_wp2_with fail
                        refine (next_any S (k + 66 + 6 * 4 + 1) 3 _ HS6.out (by omega) (by omega) (by omega)).mono ?_
                        rintro e w7 ⟨m, rfl, x0, x1, hst7, hk7⟩
                        obtain ⟨m, rfl⟩ := Int.eq_ofNat_of_zero_le x0
                        have HS7 := Lib.hid hst7
                        have HK7 := Lib.hid (HK6.out.trans hk7)
                        have HO7 := Lib.hid (own_keeps HO6.out hk7 hSl)
                        have HP7 := Lib.hid (own_keeps HP6.out hk7 hS4)
                        have hzz7 : w4.heap.size ≤ w7.heap.size := Nat.le_trans hzz6 hk7.size
                        clear hst7 hk7 HS6 HK6 HO6 HP6
                        obtain hm | hm | hm : m = 0 ∨ m = 1 ∨ m = 2 := by omega
                        · subst hm
                          as_aux_lemma =>
                            go_wp2_with (first | (refine wpList_val rfl (bs_ports3 _ (fun _ => rfl) _ _ _ _ _ rfl) ?_))
                            refine (some_lit S (k + 66 + 6 * 4 + 2) [[], [65], [120, 97]] (fun s => s.length ≤ 100) _ _ _ HS7.out (by omega) rfl rfl (by decide) (by decide) (by decide)).mono ?_
                            rintro e w8 ⟨cs, rfl, hcs, hst8, hk8⟩
                            have HS8 := Lib.hid hst8
                            have HK8 := Lib.hid (HK7.out.trans hk8)
                            have HO8 := Lib.hid (own_keeps HO7.out hk8 hSl)
                            have HP8 := Lib.hid (own_keeps HP7.out hk8 hS4)
                            have hcs : cs.length ≤ 100 := hcs
                            have hzz8 : w4.heap.size ≤ w8.heap.size := Nat.le_trans hzz7 hk8.size
                            clear hst8 hk8 HS7 HK7 HO7 HP7
                            have HOA := Lib.hid (HO8.out.alloc (.cells #[.string ⟨#[43, 57, 57, 57, 57, 57, 57, 57, 57, 57, 57, 57, 57, 57, 57, 57]⟩, .string ⟨#[43, 57, 57, 57, 57, 57, 57, 57, 57, 57, 57, 57, 57, 57, 57, 57]⟩, .string ⟨cs.toArray⟩] 73))
                            have hz8 : w.heap.size ≤ w8.heap.size := HK8.out.size
                            as_aux_lemma =>
                              go_wp2_with (at_builtin; refine wpList_append_own_at _ rfl (.tmp 65) (.tmp 71) 26 rfl w.heap.size 73 i1 _ 3 48 Tryz.underlying26 hi1 hy0 hy1 hy2 rfl (by omega) _ os.length _ rfl HOA.out ⟨w8.heap.size, 0, none⟩ 1 1 [.string ⟨#[43, 57, 57, 57, 57, 57, 57, 57, 57, 57, 57, 57, 57, 57, 57, 57]⟩, .string ⟨#[43, 57, 57, 57, 57, 57, 57, 57, 57, 57, 57, 57, 57, 57, 57, 57]⟩, .string ⟨cs.toArray⟩] rfl rfl (fun j u hj => by rw [add0]; match j, hj with | 0, hj => simp at hj; subst hj; go_simp | 1, hj => simp at hj; subst hj; go_simp | 2, hj => simp at hj; subst hj; go_simp) (by simp [Value.oneCell']) (by simp only [maxLen]; omega) (by omega) (by simp; omega) ?_; intro v9 w9 hown9 hgr9 _ _)
                              have HO9 : Hid (w9.ownsRow w.heap.size 73 3 v9 (os ++ [Own.mk ⟨[43, 57, 57, 57, 57, 57, 57, 57, 57, 57, 57, 57, 57, 57, 57, 57], [43, 57, 57, 57, 57, 57, 57, 57, 57, 57, 57, 57, 57, 57, 57, 57]⟩ cs]).length (((os ++ [Own.mk ⟨[43, 57, 57, 57, 57, 57, 57, 57, 57, 57, 57, 57, 57, 57, 57, 57], [43, 57, 57, 57, 57, 57, 57, 57, 57, 57, 57, 57, 57, 57, 57, 57]⟩ cs]).map Own.cells).flatten)) := by
                                show World.ownsRow _ _ _ _ _ _ _
                                rw [ocells_snoc, List.length_append]
                                exact hown9
                              have hup : Below (S + 1) w8 w9 := upto_grown hgr9 (by omega) (fun b e => by have := (HO8.out.lt b e).1; omega)
                              have HS9 := Lib.hid (HS8.out.upto hup)
                              have HK9 : Hid (Keeps S w w9) := HK8.out.grown hgr9 (fun b e => (HO8.out.lt b e).1)
                              have HP9 := Lib.hid (own_off HP8.out (grown_alloc hgr9) (fun b e b' e' => by have := (HP8.out.lt b e).1; have := (hvo b' e').2; omega))
                              clear hown9 hgr9 hup HOA HO8 HS8 HK8 HP8
                              go_wp2_with fail
                              go_ret2
                              exact ⟨_, _, _, ps, rfl, HO9.out, own_le HP9.out hzw4, by rw [List.length_append, List.length_singleton]; omega, by omega, oshort_snoc HOS.out (by simp) (by simp) hcs, HPS.out, HS9.out.mono (by omega), HK9.out⟩
                        · subst hm
                          as_aux_lemma =>
                            go_wp2_with (first | (refine wpList_val rfl (bs_ports3 _ (fun _ => rfl) _ _ _ _ _ rfl) ?_))
                            refine (some_lit S (k + 66 + 6 * 4 + 2) [[43, 49, 48, 48, 48], [120], [43, 57, 57, 57, 57, 57]] (fun s => s.length ≤ 100) _ _ _ HS7.out (by omega) rfl rfl (by decide) (by decide) (by decide)).mono ?_
                            rintro e w8 ⟨nm, rfl, hnm, hst8, hk8⟩
                            have HS8 := Lib.hid hst8
                            have HK8 := Lib.hid (HK7.out.trans hk8)
                            have HO8 := Lib.hid (own_keeps HO7.out hk8 hSl)
                            have HP8 := Lib.hid (own_keeps HP7.out hk8 hS4)
                            have hnm : nm.length ≤ 100 := hnm
                            have hzz8 : w4.heap.size ≤ w8.heap.size := Nat.le_trans hzz7 hk8.size
                            clear hst8 hk8 HS7 HK7 HO7 HP7
                            as_aux_lemma =>
                              go_wp2_with fail
                              refine (odd_any S (k + 66 + 6 * 4 + 2 + 1) 0 100 _ HS8.out (by omega) (by omega) (by omega) (by omega)).mono ?_
                              rintro e w9 ⟨y, rfl, ⟨y0, y1⟩, hst9, hk9⟩
                              have HS9 := Lib.hid hst9
                              have HK9 := Lib.hid (HK8.out.trans hk9)
                              have HO9 := Lib.hid (own_keeps HO8.out hk9 hSl)
                              have HP9 := Lib.hid (own_keeps HP8.out hk9 hS4)
                              have hzz9 : w4.heap.size ≤ w9.heap.size := Nat.le_trans hzz8 hk9.size
                              clear hst9 hk9 HS8 HK8 HO8 HP8
                              as_aux_lemma =>
                                go_wp2_with (first | (refine wpList_val rfl (bs_ports2 _ (fun _ => rfl) _ _ _ _ rfl) ?_))
                                refine (some_lit S (k + 66 + 6 * 4 + 2 + 1 + 2) [[120, 97], []] (fun s => s.length ≤ 100) _ _ _ HS9.out (by omega) rfl rfl (by decide) (by decide) (by decide)).mono ?_
                                rintro e w10 ⟨cs, rfl, hcs, hst10, hk10⟩
                                have HS10 := Lib.hid hst10
                                have HK10 := Lib.hid (HK9.out.trans hk10)
                                have HO10 := Lib.hid (own_keeps HO9.out hk10 hSl)
                                have HP10 := Lib.hid (own_keeps HP9.out hk10 hS4)
                                have hcs : cs.length ≤ 100 := hcs
                                have hzz10 : w4.heap.size ≤ w10.heap.size := Nat.le_trans hzz9 hk10.size
                                clear hst10 hk10 HS9 HK9 HO9 HP9
                                have HPA := Lib.hid (HP10.out.alloc (.cells #[.string ⟨nm.toArray⟩, .int .i64 y, .string ⟨cs.toArray⟩] 76))
                                have hz10 : w.heap.size ≤ w10.heap.size := HK10.out.size
                                as_aux_lemma =>
                                  go_wp2_with (at_builtin; refine wpList_append_own_at _ rfl (.tmp 75) (.tmp 85) 27 rfl w4.heap.size 76 i2 _ 3 40 Tryz.underlying27 hi2 hz0 hz1 hz2 rfl (by omega) _ ps.length _ rfl HPA.out ⟨w10.heap.size, 0, none⟩ 1 1 [.string ⟨nm.toArray⟩, .int .i64 y, .string ⟨cs.toArray⟩] rfl rfl (fun j u hj => by rw [add0]; match j, hj with | 0, hj => simp at hj; subst hj; go_simp | 1, hj => simp at hj; subst hj; go_simp | 2, hj => simp at hj; subst hj; go_simp) (by simp [Value.oneCell']) (by simp only [maxLen]; omega) (by omega) (by simp; omega) ?_; intro v11 w11 hown11 hgr11 _ _)
                                  have HP11 : Hid (w11.ownsRow w4.heap.size 76 3 v11 (ps ++ [Prt.mk nm y cs]).length (((ps ++ [Prt.mk nm y cs]).map Prt.cells).flatten)) := by
                                    show World.ownsRow _ _ _ _ _ _ _
                                    rw [pcells_snoc, List.length_append]
                                    exact hown11
                                  have hup : Below (S + 1) w10 w11 := upto_grown hgr11 (by omega) (fun b e => by have := (HP10.out.lt b e).1; omega)
                                  have HS11 := Lib.hid (HS10.out.upto hup)
                                  have HK11 : Hid (Keeps S w w11) := HK10.out.grown hgr11 (fun b e => by have := (HP10.out.lt b e).1; omega)
                                  have HO11 := Lib.hid (own_off HO10.out (grown_alloc hgr11) (fun b e b' e' => by have := (HP10.out.lt b' e').1; have := ((hvo b e).2); omega))
                                  clear hown11 hgr11 hup HPA HP10 HS10 HK10 HO10
                                  go_wp2_with fail
                                  go_ret2
                                  exact ⟨_, os, _, _, rfl, HO11.out, own_le HP11.out hzw4, by omega, by rw [List.length_append, List.length_singleton]; omega, HOS.out, pshort_snoc HPS.out hnm hcs, HS11.out.mono (by omega), HK11.out⟩
                        · subst hm
                          as_aux_lemma =>
                            go_wp2_with fail
                            refine (rev_own HP7.out rfl (by omega)).mono ?_
                            rintro e w8 ⟨rfl, hown8, hgr8⟩
                            have HP8 := Lib.hid hown8
                            have HK8 : Hid (Keeps S w w8) := HK7.out.grown0 hgr8 (fun b e => by have := (HP7.out.lt b e).1; omega)
                            have HS8 : Hid (StreamOk w8 S (k + 66 + 6 * 4 + 2)) := HS7.out.upto ((Below.refl (S + 1) w7).grown hgr8 (by omega) (fun b e => by have := (HP7.out.lt b e).1; omega))
                            have HO8 := Lib.hid (own_off HO7.out hgr8 (fun b e b' e' => by have := (HP7.out.lt b' e').1; have := (hvo b e).2; omega))
                            clear hown8 hgr8 HP7 HS7 HK7 HO7
                            as_aux_lemma =>
                              go_wp2_with fail
                              go_ret2
                              exact ⟨_, os, _, ps.reverse, rfl, HO8.out, (by rw [List.length_reverse]; exact own_le HP8.out hzw4), by omega, by rw [List.length_reverse]; omega, HOS.out, pshort_rev HPS.out, HS8.out.mono (by omega), HK8.out⟩
end Go.Proofs.YtmbimfmalijjpaaGreatDoor

set_option linter.unusedVariables false
set_option linter.unusedSimpArgs false
namespace Go.Proofs.YtmbimfmalijjpaaGreatDoor
open Go.RowKit

/-- Ranges of right numbers. -/
abbrev GRng := {r : Rng // isNumB r.f = true ∧ isNumB r.t = true}
instance : Inhabited GRng := ⟨⟨⟨r0S, r1S⟩, by decide⟩⟩
instance : Inhabited Rng := ⟨noRng⟩
def hasP (n : List UInt8) (r : Rng) : Bool := decide (r.f.length = n.length) && (decide (numV r.f ≤ numV n) && decide (numV n ≤ numV r.t))
theorem has_same {r : Rng} {n : List UInt8} (hf : isNumB r.f = true) (ht : isNumB r.t = true) (hl : r.f.length = r.t.length) (hn : isNumB n = true) : hasP n r = inRng r n := by
  have h := in_rng hf ht hl hn
  cases h1 : inRng r n with
  | true =>
    obtain ⟨k1, k2, k3⟩ := h.1 h1
    unfold hasP
    rw [decide_eq_true k1, decide_eq_true k2, decide_eq_true k3]
    rfl
  | false =>
    cases h2 : hasP n r with
    | false => rfl
    | true =>
      unfold hasP at h2
      simp only [Bool.and_eq_true, decide_eq_true_eq] at h2
      rw [h.2 h2] at h1
      cases h1

set_option maxRecDepth 100000 in
set_option maxHeartbeats 2000000 in
theorem has_pred (nl : Int) (nv : Int) (B : Nat) (w : World) (hB : B < w.heap.size) (c0 : w.cell? ⟨B, 0, none⟩ = some (.int .i64 nl)) (c1 : w.cell? ⟨B, 1, none⟩ = some (.int .i64 nv)) :
    PredBelow Tryz.prog 106 #[.pointer (some ⟨B, 0, none⟩)] (fun x : GRng => .agg (Rng.cells x.1).toArray) (fun x => decide ((x.1.f.length : Int) - 1 = nl) && (decide (numV x.1.f ≤ nv) && decide (nv ≤ numV x.1.t))) w := fun W x hb => by
  have k0 := (hb.cell (p := ⟨B, 0, none⟩) hB).trans c0
  have k1 := (hb.cell (p := ⟨B, 1, none⟩) hB).trans c1
  have hBW : B < W.heap.size := Nat.lt_of_lt_of_le hB hb.size
  have hne : B ≠ W.heap.size := by omega
  obtain ⟨⟨f, t⟩, hf, ht⟩ := x
  show Calls Tryz.prog 106 #[.agg #[.string ⟨f.toArray⟩, .string ⟨t.toArray⟩], .pointer (some ⟨B, 0, none⟩)] W _
  simp only at hf ht ⊢
  have HB := Lib.hid hb
  have HS := Lib.hid (fun W => spanOf_num f t hf ht W)
  clear hb c0 c1 hB
  generalize numV f = vf at HS ⊢
  generalize numV t = vt at HS ⊢
  generalize hx : (f.length : Int) - 1 = lf at HS ⊢
  have HX := Lib.hid hx
  clear hx
  go_enter Tryz.func106, Tryz.ntmps106
  go_wp2_with fail
  refine (HS.out _).mono ?_
  rintro e w2 ⟨rfl, hb2⟩
  have q0 := (hb2.cell (p := ⟨B, 0, none⟩) (by simp; omega)).trans ((by go_simp : _ = some (.int .i64 nl)))
  have q1 := (hb2.cell (p := ⟨B, 1, none⟩) (by simp; omega)).trans ((by go_simp : _ = some (.int .i64 nv)))
  have hz : B < w2.heap.size := by have := hb2.size; simp at this; omega
  have hne2 : B ≠ w2.heap.size := by omega
  have HB2 : Hid (Below w.heap.size w w2) := HB.out.trans ((ext_trans (ext_alloc (Below.refl _ _)) hb2).mono HB.out.size)
  clear hb2 k0 k1 HB HS
  by_cases h1 : lf = nl
  · subst h1
    by_cases h2 : vf ≤ nv
    · by_cases h3 : nv ≤ vt
      · go_wp2_with fail
        go_ret
        exact ⟨by simp [h2, h3], HB2.out.trans (by first | exact (ext_alloc (Below.refl _ _)).mono HB2.out.size | exact (ext_drew (ext_alloc (Below.refl _ _))).mono HB2.out.size)⟩
      · go_wp2_with fail
        go_ret
        exact ⟨by simp [h2, h3], HB2.out.trans (by first | exact (ext_alloc (Below.refl _ _)).mono HB2.out.size | exact (ext_drew (ext_alloc (Below.refl _ _))).mono HB2.out.size)⟩
    · go_wp2_with fail
      go_ret
      exact ⟨by simp; omega, HB2.out.trans (by first | exact (ext_alloc (Below.refl _ _)).mono HB2.out.size | exact (ext_drew (ext_alloc (Below.refl _ _))).mono HB2.out.size)⟩
  · have h1b : (lf == nl) = false := by simpa using h1
    go_wp2_with fail
    go_ret
    exact ⟨by simp [h1], HB2.out.trans (by first | exact (ext_alloc (Below.refl _ _)).mono HB2.out.size | exact (ext_drew (ext_alloc (Below.refl _ _))).mono HB2.out.size)⟩

set_option maxRecDepth 100000 in
set_option maxHeartbeats 2000000 in
/-- Is a number in one range? -/
theorem has_any (n : List UInt8) (hn : isNumB n = true) (zs : List GRng) (b off : Nat) (m c : Nat) (hm : m = zs.length) (hm2 : m ≤ 5000) (w : World) (hb : b < w.heap.size) (hc : ∀ j, j < zs.length → ∀ i v, (Rng.cells (zs[j]!).1)[i]? = some v → w.cell? ⟨b, off + j * 2 + i, none⟩ = some v) :
    Calls Tryz.prog 78 #[.slice (some ⟨b, off, none⟩) m c, .string ⟨n.toArray⟩] w fun e w' => ∃ k : Int, e = .returned (.tuple #[.int .i64 k, .bool (decide (0 ≤ k))]) ∧ (0 ≤ k ↔ ∃ x ∈ zs, hasP n x.1 = true) ∧ Below w.heap.size w w' := by
  subst hm
  have HC := Lib.hid hc
  have HS := Lib.hid (fun W => spanOf_num n n hn hn W)
  clear hc hn
  have HP : Hid (∀ x : GRng, (decide ((x.1.f.length : Int) - 1 = (n.length : Int) - 1) && (decide (numV x.1.f ≤ numV n) && decide (numV n ≤ numV x.1.t))) = hasP n x.1) := fun x => by
    unfold hasP
    congr 1
    congr 1
    exact propext (by omega)
  go_enter Tryz.func78, Tryz.ntmps78
  go_wp2_with fail
  refine (HS.out _).mono ?_
  rintro e w2 ⟨rfl, hb2⟩
  have HB2 := Lib.hid hb2
  have hz : b < w2.heap.size := Nat.lt_of_lt_of_le hb hb2.size
  clear hb2 HS
  go_wp2_with fail
  have hW : Hid (Below w.heap.size w (w2.alloc (.cells #[.int .i64 ((n.length : Int) - 1), .int .i64 (numV n), .int .i64 (numV n)] 99))) := ext_alloc HB2.out
  have d0 : (w2.alloc (.cells #[.int .i64 ((n.length : Int) - 1), .int .i64 (numV n), .int .i64 (numV n)] 99)).cell? ⟨w2.heap.size, 0, none⟩ = some (.int .i64 ((n.length : Int) - 1)) := by go_simp
  have d1 : (w2.alloc (.cells #[.int .i64 ((n.length : Int) - 1), .int .i64 (numV n), .int .i64 (numV n)] 99)).cell? ⟨w2.heap.size, 1, none⟩ = some (.int .i64 (numV n)) := by go_simp
  have hz2 : w2.heap.size < (w2.alloc (.cells #[.int .i64 ((n.length : Int) - 1), .int .i64 (numV n), .int .i64 (numV n)] 99)).heap.size := by simp
  have hbl : Hid (Below w.heap.size w (w2.alloc (.cells #[.int .i64 ((n.length : Int) - 1), .int .i64 (numV n), .int .i64 (numV n)] 99))) := hW
  generalize w2.alloc (.cells #[.int .i64 ((n.length : Int) - 1), .int .i64 (numV n), .int .i64 (numV n)] 99) = W3 at hW d0 d1 hz2 hbl ⊢
  refine (Tryz.slices_idxR (fun x : GRng => Rng.cells x.1) (fun x => rfl) (fun x => decide ((x.1.f.length : Int) - 1 = (n.length : Int) - 1) && (decide (numV x.1.f ≤ numV n) && decide (numV n ≤ numV x.1.t))) 106 #[.pointer (some ⟨w2.heap.size, 0, none⟩)] (fun args w => rfl) b off zs.length c zs _ (has_pred _ _ w2.heap.size _ hz2 d0 d1) (Nat.le_refl _) (by omega) (Nat.lt_of_lt_of_le hb hW.out.size) (fun j hj i v hv => (hW.out.cell (p := ⟨b, off + j * 2 + i, none⟩) hb).trans (HC.out j hj i v hv))).mono ?_
  rintro e w4 ⟨rfl, hb4⟩
  have HB4 := Lib.hid (ext_trans hW.out hb4)
  have hi := idx_find (fun x : GRng => decide ((x.1.f.length : Int) - 1 = (n.length : Int) - 1) && (decide (numV x.1.f ≤ numV n) && decide (numV n ≤ numV x.1.t))) (zs.take zs.length)
  rw [List.take_length] at hi ⊢
  have HI := Lib.hid hi
  clear hb4 hi d0 d1 hz2 hbl hW
  generalize Lib.idxBy _ zs default = r at HI ⊢
  go_wp2_with fail
  go_ret2
  refine ⟨r, rfl, ?_, HB4.out⟩
  rcases HI.out with ⟨h1, h2⟩ | ⟨k, hk, h1, h2, _⟩
  · rw [h1]
    refine ⟨fun h => by omega, fun ⟨x, hx, hp⟩ => ?_⟩
    have := List.find?_eq_none.1 h2 x hx
    rw [HP.out x] at this
    exact absurd hp this
  · rw [h1]
    refine ⟨fun _ => ?_, fun _ => by omega⟩
    have h3 := List.find?_some h2
    have h4 := List.mem_of_find?_eq_some h2
    rw [HP.out] at h3
    exact ⟨_, h4, h3⟩
end Go.Proofs.YtmbimfmalijjpaaGreatDoor

set_option linter.unusedVariables false
set_option linter.unusedSimpArgs false
namespace Go.Proofs.YtmbimfmalijjpaaGreatDoor
open Go.RowKit

theorem own_at : ∀ {os : List Own} {n : List UInt8} {k : Nat}, k < os.length → (∀ j, j < k → inRng (os.getD j noOwn).r n = false) → inRng (os.getD k noOwn).r n = true → ownC os n = some (os.getD k noOwn).c
  | [], _, _, hk, _, _ => by simp at hk
  | o :: os, n, 0, _, _, h => by
    have h' : inRng o.r n = true := h
    unfold ownC
    rw [List.find?_cons, h']
    rfl
  | o :: os, n, k + 1, hk, hb, h => by
    have h0 : inRng o.r n = false := hb 0 (by omega)
    have ih := own_at (os := os) (n := n) (k := k) (by simpa using hk) (fun j hj => hb (j + 1) (by omega)) h
    unfold ownC at ih ⊢
    rw [List.find?_cons, h0]
    exact ih
theorem own_no : ∀ {os : List Own} {n : List UInt8}, (∀ j, j < os.length → inRng (os.getD j noOwn).r n = false) → ownC os n = none
  | [], _, _ => rfl
  | o :: os, n, h => by
    have h0 : inRng o.r n = false := h 0 (by simp)
    have ih := own_no (os := os) (n := n) (fun j hj => h (j + 1) (by simpa using hj))
    unfold ownC at ih ⊢
    rw [List.find?_cons, h0]
    exact ih

set_option maxRecDepth 100000 in
set_option maxHeartbeats 2000000 in
theorem hasN_pred (n : List UInt8) (B : Nat) (w : World) (hB : B < w.heap.size) (c0 : w.cell? ⟨B, 0, none⟩ = some (.string ⟨n.toArray⟩)) :
    PredBelow Tryz.prog 80 #[.pointer (some ⟨B, 0, none⟩)] (fun x : Rng => .agg (Rng.cells x).toArray) (fun x => inRng x n) w := fun W x hb => by
  have k0 := (hb.cell (p := ⟨B, 0, none⟩) hB).trans c0
  have hBW : B < W.heap.size := Nat.lt_of_lt_of_le hB hb.size
  have hne : B ≠ W.heap.size := by omega
  obtain ⟨f, t⟩ := x
  show Calls Tryz.prog 80 #[.agg #[.string ⟨f.toArray⟩, .string ⟨t.toArray⟩], .pointer (some ⟨B, 0, none⟩)] W fun e w' => e = .returned (.bool (inRng ⟨f, t⟩ n)) ∧ Below w.heap.size w w'
  have HB := Lib.hid hb
  have HIN : Hid (inRng ⟨f, t⟩ n = (decide (f.length = n.length) && ((Op.bytesLess f n || f == n) && (Op.bytesLess n t || n == t)))) := rfl
  generalize inRng ⟨f, t⟩ n = R at HIN ⊢
  have HEND : Hid (∀ o, Below w.heap.size w (W.alloc o)) := fun o => HB.out.trans ((ext_alloc (Below.refl _ _)).mono HB.out.size)
  clear hb c0 hB
  go_enter Tryz.func80, Tryz.ntmps80
  by_cases hl : f.length = n.length
  · have hlI : (f.length : Int) = n.length := by omega
    have HI2 : Hid (R = ((Op.bytesLess f n || f == n) && (Op.bytesLess n t || n == t))) := by show _ = _; rw [HIN.out, decide_eq_true hl]; rfl
    clear HIN hl
    cases b1 : Op.bytesLess f n with
    | true =>
      have HI3 : Hid (R = (Op.bytesLess n t || n == t)) := by show _ = _; rw [HI2.out, b1]; rfl
      clear HI2
      cases b2 : Op.bytesLess n t with
      | true =>
        have HI4 : Hid (R = true) := by show _ = _; rw [HI3.out, b2]; rfl
        clear HI3
        go_wp2_with fail
        go_ret
        exact ⟨by rw [HI4.out]; rfl, HEND.out _⟩
      | false =>
        by_cases e2 : n = t
        · subst e2
          have HI4 : Hid (R = true) := by show _ = _; rw [HI3.out]; simp
          clear HI3
          go_wp2_with fail
          go_ret
          exact ⟨by rw [HI4.out]; rfl, HEND.out _⟩
        · have e2b : (n == t) = false := beq_eq_false_iff_ne.2 e2
          have HI4 : Hid (R = false) := by show _ = _; rw [HI3.out, b2, e2b]; rfl
          clear HI3 e2
          go_wp2_with fail
          go_ret
          exact ⟨by rw [HI4.out]; rfl, HEND.out _⟩
    | false =>
      by_cases e1 : f = n
      · subst e1
        have HI3 : Hid (R = (Op.bytesLess f t || f == t)) := by show _ = _; rw [HI2.out, b1]; simp
        clear HI2
        cases b2 : Op.bytesLess f t with
        | true =>
          have HI4 : Hid (R = true) := by show _ = _; rw [HI3.out, b2]; rfl
          clear HI3
          go_wp2_with fail
          go_ret
          exact ⟨by rw [HI4.out]; rfl, HEND.out _⟩
        | false =>
          by_cases e2 : f = t
          · subst e2
            have HI4 : Hid (R = true) := by show _ = _; rw [HI3.out]; simp
            clear HI3
            go_wp2_with fail
            go_ret
            exact ⟨by rw [HI4.out]; rfl, HEND.out _⟩
          · have e2b : (f == t) = false := beq_eq_false_iff_ne.2 e2
            have HI4 : Hid (R = false) := by show _ = _; rw [HI3.out, b2, e2b]; rfl
            clear HI3 e2
            go_wp2_with fail
            go_ret
            exact ⟨by rw [HI4.out]; rfl, HEND.out _⟩
      · have e1b : (f == n) = false := beq_eq_false_iff_ne.2 e1
        have HI4 : Hid (R = false) := by show _ = _; rw [HI2.out, b1, e1b]; rfl
        clear HI2 e1
        go_wp2_with fail
        go_ret
        exact ⟨by rw [HI4.out]; rfl, HEND.out _⟩
  · have hlI : ((f.length : Int) == n.length) = false := by simp; omega
    have HI4 : Hid (R = false) := by show _ = _; rw [HIN.out, decide_eq_false hl]; rfl
    clear HIN hl
    go_wp2_with fail
    go_ret
    exact ⟨by rw [HI4.out]; rfl, HEND.out _⟩
set_option maxRecDepth 100000 in
set_option maxHeartbeats 2000000 in
theorem hasNumber_any (n : List UInt8) (zs : List Rng) (b off m c : Nat) (hm : m = zs.length) (hm2 : m ≤ 5000) (w : World) (hb : b < w.heap.size) (hc : ∀ j, j < zs.length → ∀ i v, (Rng.cells (zs[j]!))[i]? = some v → w.cell? ⟨b, off + j * 2 + i, none⟩ = some v) :
    Calls Tryz.prog 38 #[.slice (some ⟨b, off, none⟩) m c, .string ⟨n.toArray⟩] w fun e w' => e = .returned (.bool (zs.any fun x => inRng x n)) ∧ Below w.heap.size w w' := by
  subst hm
  have HC := Lib.hid hc
  clear hc
  go_enter Tryz.func38, Tryz.ntmps38
  go_wp2_with fail
  refine (Tryz.slices_hasR Rng.cells (fun x => rfl) (fun x => inRng x n) 80 #[.pointer (some ⟨w.heap.size, 0, none⟩)] (fun args w => rfl) b off zs.length c zs _ (hasN_pred n w.heap.size _ (by simp) (by go_simp)) (Nat.le_refl _) (by omega) (by simp; omega) (fun j hj i v hv => (World.cell?_alloc_lt _ _ _ (by show b < _; omega)).trans (HC.out j hj i v hv))).mono ?_
  rintro e w4 ⟨rfl, hb4⟩
  have HB4 : Hid (Below w.heap.size w w4) := ext_trans (ext_alloc (Below.refl _ _)) hb4
  rw [List.take_length]
  clear hb4
  generalize hrr : (zs.any fun x => inRng x n) = r
  have HRR := Lib.hid hrr
  clear hrr
  go_wp2_with fail
  go_ret
  exact ⟨by rw [HRR.out]; rfl, HB4.out⟩

/-- Owners whose ranges are right. -/
def OwnsOk (os : List Own) : Prop := ∀ i, i < os.length → isNumB (os.getD i noOwn).r.f = true ∧ isNumB (os.getD i noOwn).r.t = true ∧ (os.getD i noOwn).r.f.length = (os.getD i noOwn).r.t.length
set_option maxRecDepth 100000 in
set_option maxHeartbeats 2000000 in
theorem owner_any (w : World) (a : Option Addr) (m cap : Nat) (os : List Own) (hr : OwnRow w a m os) (hcap : m ≤ cap) (hok : OwnsOk os) (n : List UInt8) (hn : isNumB n = true) :
    Calls Tryz.prog 60 #[.slice a m cap, .string ⟨n.toArray⟩] w fun e w' => e = .returned (.tuple #[.string ⟨((ownC os n).getD []).toArray⟩, .bool (ownC os n).isSome]) ∧ Below w.heap.size w w' := by
  have HR := Lib.hid hr
  have hfew := hr.few
  have HLEN := Lib.hid hr.len
  have HOK := Lib.hid hok
  have HNO : Hid ((∀ j, j < m → inRng (os.getD j noOwn).r n = false) → ownC os n = none) := fun h => own_no (fun j hj => h j (by rw [HLEN.out]; exact hj))
  have HYES : Hid (∀ k, k < m → (∀ j, j < k → inRng (os.getD j noOwn).r n = false) → inRng (os.getD k noOwn).r n = true → ownC os n = some (os.getD k noOwn).c) := fun k h1 h2 h3 => own_at (by rw [← HLEN.out]; exact h1) h2 h3
  generalize ownC os n = R at HNO HYES ⊢
  have HN := Lib.hid hn
  clear hr hok hn
  go_enter Tryz.func60, Tryz.ntmps60
  go_wp2_with fail
  go_loopw [12] (fun it wr => ∃ k : Nat, k ≤ m ∧ it = .int .i64 k ∧ Hid (∀ j, j < k → inRng (os.getD j noOwn).r n = false) ∧ Hid (Below w.heap.size w wr)) (fun it _ => m - (intOf it).toNat)
  case atStart => exact ⟨0, Nat.zero_le _, rfl, fun j hj => by omega, Below.refl _ _⟩
  case round =>
    obtain ⟨k, hk, rfl, HZ, HB⟩ := hrel
    by_cases hlt : k < m
    · obtain ⟨b, off, rfl, hb, hc⟩ := HR.out.at (by omega)
      obtain ⟨g0, g1, g2⟩ := hc k hlt
      have c0 := (HB.out.cell (p := ⟨b, off + k * 3, none⟩) hb).trans g0
      have c1 := (HB.out.cell (p := ⟨b, off + k * 3 + 1, none⟩) hb).trans g1
      have c2 := (HB.out.cell (p := ⟨b, off + k * 3 + 2, none⟩) hb).trans g2
      obtain ⟨o1, o2, o3⟩ := HOK.out k (by have := HLEN.out; omega)
      have HIN : Hid (inRng (os.getD k noOwn).r n = true → R = some (os.getD k noOwn).c) := HYES.out k hlt HZ.out
      have HSAME : Hid (hasP n (os.getD k noOwn).r = inRng (os.getD k noOwn).r n) := has_same o1 o2 o3 HN.out
      have HNX : Hid (inRng (os.getD k noOwn).r n = false → ∀ j, j < k + 1 → inRng (os.getD j noOwn).r n = false) := fun h j hj => by
        rcases Nat.lt_succ_iff_lt_or_eq.1 hj with h9 | rfl
        · exact HZ.out j h9
        · exact h
      clear g0 g1 g2 hc HZ HYES HNO HOK
      generalize inRng (os.getD k noOwn).r n = P at HIN HSAME HNX
      generalize os.getD k noOwn = o at c0 c1 c2 o1 o2 HIN HSAME
      obtain ⟨⟨f, t⟩, c⟩ := o
      simp only at c0 c1 c2 o1 o2 HIN HSAME
      have HG : Hid (isNumB f = true ∧ isNumB t = true) := ⟨o1, o2⟩
      clear o1 o2 o3
      as_aux_lemma =>
        go_wp2_with fail
        refine (has_any n HN.out [⟨⟨f, t⟩, HG.out⟩] (wr.heap.size + 1) 0 1 1 rfl (by omega) _ (by simp) (fun j hj i v hv => ?_)).mono ?_
        · have hj0 : j = 0 := by simpa using hj
          subst hj0
          match i with
          | 0 => simp [Rng.cells] at hv; subst hv; go_simp
          | 1 => simp [Rng.cells] at hv; subst hv; go_simp
          | i + 2 => simp [Rng.cells] at hv
        rintro e w4 ⟨q, rfl, hq, hb4⟩
        obtain ⟨qc, qf⟩ := bcell hb4
        have e2 : w4.cell? ⟨wr.heap.size, 2, none⟩ = some (.string ⟨c.toArray⟩) := (qc _ 2 (by simp; omega)).trans (by go_simp)
        have HB4 : Hid (Below w.heap.size w w4) := ext_trans (ext_alloc (ext_alloc HB.out)) hb4
        have HQ : Hid (0 ≤ q ↔ P = true) := by
          show _ ↔ _
          rw [hq, ← HSAME.out]
          simp
        have hwz : Hid (w.heap.size ≤ wr.heap.size) := HB.out.size
        clear qc qf hb4 c0 c1 c2 hq HSAME HG
        generalize wr.heap.size = T at e2 hwz ⊢
        by_cases hq0 : 0 ≤ q
        · obtain rfl : R = some c := HIN.out (HQ.out.1 hq0)
          clear HIN HNX HQ
          as_aux_lemma =>
            go_wp2_with fail
            go_ret2
            exact ⟨rfl, HB4.out⟩
        · have HZ2 := Lib.hid (HNX.out (by cases P; rfl; exact absurd (HQ.out.2 rfl) hq0))
          clear HIN HNX HQ
          as_aux_lemma =>
            go_wp2_with fail
            go_roundw
            case rel => exact ⟨k + 1, by omega, by go_num, HZ2.out, HB4.out⟩
            case measure => simp [intOf]; omega
    · obtain rfl : k = m := by omega
      obtain rfl : R = none := HNO.out HZ.out
      go_wp2_with fail
      go_ret2
      exact ⟨rfl, HB.out⟩
set_option maxRecDepth 100000 in
set_option maxHeartbeats 2000000 in
theorem ownerOf_any (w : World) (a : Option Addr) (m cap : Nat) (os : List Own) (hr : OwnRow w a m os) (hcap : m ≤ cap) (n : List UInt8) :
    Calls Tryz.prog 62 #[.slice a m cap, .string ⟨n.toArray⟩] w fun e w' => e = .returned (.string ⟨((ownC os n).getD []).toArray⟩) ∧ Below w.heap.size w w' := by
  have HR := Lib.hid hr
  have hfew := hr.few
  have HLEN := Lib.hid hr.len
  have HNO : Hid ((∀ j, j < m → inRng (os.getD j noOwn).r n = false) → ownC os n = none) := fun h => own_no (fun j hj => h j (by rw [HLEN.out]; exact hj))
  have HYES : Hid (∀ k, k < m → (∀ j, j < k → inRng (os.getD j noOwn).r n = false) → inRng (os.getD k noOwn).r n = true → ownC os n = some (os.getD k noOwn).c) := fun k h1 h2 h3 => own_at (by rw [← HLEN.out]; exact h1) h2 h3
  generalize ownC os n = R at HNO HYES ⊢
  clear hr
  go_enter Tryz.func62, Tryz.ntmps62
  go_wp2_with fail
  go_loopw [9] (fun it wr => ∃ k : Nat, k ≤ m ∧ it = .int .i64 k ∧ Hid (∀ j, j < k → inRng (os.getD j noOwn).r n = false) ∧ Hid (Below w.heap.size w wr)) (fun it _ => m - (intOf it).toNat)
  case atStart => exact ⟨0, Nat.zero_le _, rfl, fun j hj => by omega, Below.refl _ _⟩
  case round =>
    obtain ⟨k, hk, rfl, HZ, HB⟩ := hrel
    by_cases hlt : k < m
    · obtain ⟨b, off, rfl, hb, hc⟩ := HR.out.at (by omega)
      obtain ⟨g0, g1, g2⟩ := hc k hlt
      have c0 := (HB.out.cell (p := ⟨b, off + k * 3, none⟩) hb).trans g0
      have c1 := (HB.out.cell (p := ⟨b, off + k * 3 + 1, none⟩) hb).trans g1
      have c2 := (HB.out.cell (p := ⟨b, off + k * 3 + 2, none⟩) hb).trans g2
      have HIN : Hid (inRng (os.getD k noOwn).r n = true → R = some (os.getD k noOwn).c) := HYES.out k hlt HZ.out
      have HNX : Hid (inRng (os.getD k noOwn).r n = false → ∀ j, j < k + 1 → inRng (os.getD j noOwn).r n = false) := fun h j hj => by
        rcases Nat.lt_succ_iff_lt_or_eq.1 hj with h9 | rfl
        · exact HZ.out j h9
        · exact h
      clear g0 g1 g2 hc HZ HYES HNO
      generalize os.getD k noOwn = o at c0 c1 c2 HIN HNX
      obtain ⟨⟨f, t⟩, c⟩ := o
      simp only at c0 c1 c2 HIN HNX
      as_aux_lemma =>
        go_wp2_with fail
        refine (hasNumber_any n [⟨f, t⟩] (wr.heap.size + 1) 0 1 1 rfl (by omega) _ (by simp) (fun j hj i v hv => ?_)).mono ?_
        · have hj0 : j = 0 := by simpa using hj
          subst hj0
          match i with
          | 0 => simp [Rng.cells] at hv; subst hv; go_simp
          | 1 => simp [Rng.cells] at hv; subst hv; go_simp
          | i + 2 => simp [Rng.cells] at hv
        rintro e w4 ⟨rfl, hb4⟩
        obtain ⟨qc, qf⟩ := bcell hb4
        have e2 : w4.cell? ⟨wr.heap.size, 2, none⟩ = some (.string ⟨c.toArray⟩) := (qc _ 2 (by simp; omega)).trans (by go_simp)
        have HB4 : Hid (Below w.heap.size w w4) := ext_trans (ext_alloc (ext_alloc HB.out)) hb4
        have hwz : Hid (w.heap.size ≤ wr.heap.size) := HB.out.size
        rw [show ([⟨f, t⟩] : List Rng).any (fun x => inRng x n) = inRng ⟨f, t⟩ n from by simp]
        clear qc qf hb4 c0 c1 c2
        generalize wr.heap.size = T at e2 hwz ⊢
        generalize inRng ⟨f, t⟩ n = P at HIN HNX ⊢
        cases P
        · have HZ2 := Lib.hid (HNX.out rfl)
          clear HIN HNX
          as_aux_lemma =>
            go_wp2_with fail
            go_roundw
            case rel => exact ⟨k + 1, by omega, by go_num, HZ2.out, HB4.out⟩
            case measure => simp [intOf]; omega
        · obtain rfl : R = some c := HIN.out rfl
          clear HIN HNX
          as_aux_lemma =>
            go_wp2_with fail
            go_ret
            exact ⟨rfl, HB4.out⟩
    · obtain rfl : k = m := by omega
      obtain rfl : R = none := HNO.out HZ.out
      go_wp2_with fail
      go_ret
      exact ⟨rfl, HB.out⟩
end Go.Proofs.YtmbimfmalijjpaaGreatDoor

set_option linter.unusedVariables false
set_option linter.unusedSimpArgs false
namespace Go.Proofs.YtmbimfmalijjpaaGreatDoor
open Go.RowKit Go.Shelf

attribute [local go_sem] Oper.semAt_some

/-- What comes off the back: ports m - 1, m - 2, .. with their places. -/
def backs (ps : List Prt) (m k : Nat) : List (Int × Prt) := (List.range k).map fun (j : Nat) => ((m : Int) - 1 - (j : Int), ps.getD (m - 1 - j) noPrt)
theorem backs_succ (ps : List Prt) (m k : Nat) : backs ps m (k + 1) = backs ps m k ++ [((m : Int) - 1 - k, ps.getD (m - 1 - k) noPrt)] := by simp [backs, List.range_succ]
theorem backs_len (ps : List Prt) (m k : Nat) : (backs ps m k).length = k := by simp [backs]

set_option maxRecDepth 100000 in
set_option maxHeartbeats 2000000 in
theorem back1_in (n : Nat) (hn : 1 ≤ n) (l Bs n₀ : Nat) (a : Option Addr) (m cap : Nat) (ps : List Prt) (hcap : m ≤ cap) (J Jx : List (Int × Prt) → World → Prop)
    (hY : ∀ pre x W, J pre W → pre.length < m → YieldAt Fence.wide (n - 1) Tryz.prog l #[.int .i64 x.1, .agg (Prt.cells x.2).toArray] W fun e W' =>
      (e = .returned (.bool true) ∧ J (pre ++ [x]) W' ∧ Below n₀ W W') ∨ (e = .returned (.bool false) ∧ Jx (pre ++ [x]) W'))
    (W : World) (hn0 : n₀ ≤ W.heap.size) (hBs : Bs < n₀) (hB0 : W.cell? ⟨Bs, 0, none⟩ = some (.slice a m cap)) (hp : ∀ w', Below n₀ W w' → PrtRow w' a m ps) (hb : ∀ b off, a = some ⟨b, off, none⟩ → 0 < m → b < n₀) (h0 : J [] W) :
    CallsIn Fence.wide n Tryz.prog 95 #[.func (.yield l) #[] #[], .pointer (some ⟨Bs, 0, none⟩)] W fun e W' => (∃ v, e = .returned v) ∧
      (J (backs ps m m) W' ∨ (∃ k, k ≤ m ∧ Jx (backs ps m k) W')) := by
  have hfew := (hp W (Below.refl _ _)).few
  refine callsIn_of_wp Tryz.func95 rfl trivial ?_ rfl
  simp only [Tryz.ntmps95, List.size_toArray, List.length_cons, List.length_nil, Nat.reduceAdd, Nat.reduceSub, Array.replicate_succ, Array.replicate_zero, List.push_toArray, List.append_toArray, List.nil_append, List.cons_append]
  gi_wp2
  gi_loopw [3] (fun i wr => ∃ k : Nat, k ≤ m ∧ i = .int .i64 ((m : Int) - 1 - k) ∧ J (backs ps m k) wr ∧ Below n₀ W wr)
    (fun i _ => ((intOf i) + 1).toNat)
  case atStart => exact ⟨0, Nat.zero_le _, by go_num, h0, Below.refl _ _⟩
  case round =>
    obtain ⟨k, hk, rfl, hJs, hnx⟩ := hrel
    have hcS : wr.cell? ⟨Bs, 0, none⟩ = some (.slice a m cap) := (hnx.cell (p := ⟨Bs, 0, none⟩) hBs).trans hB0
    by_cases hlt : k < m
    · obtain ⟨b, off, rfl, hbl, hc⟩ := (hp wr hnx).at (by omega)
      obtain ⟨e0, e1, e2⟩ := hc (m - 1 - k) (by omega)
      obtain ⟨fn, tmps, assign, body, hy, hR⟩ := hY _ ((m : Int) - 1 - k, ps.getD (m - 1 - k) noPrt) wr hJs (by rw [backs_len]; exact hlt)
      have hge : (0 : Int) ≤ (m : Int) - 1 - k := by omega
      have hidx : ((m : Int) - 1 - k).toNat = m - 1 - k := by omega
      have hlm : (m : Int) - 1 - k < m := by omega
      have hsub : IntKind.i64.wrap ((m : Int) - 1 - k - 1) = (m : Int) - 1 - k - 1 := IntWalk.i64_in _ (by omega)
      generalize hpx : ps.getD (m - 1 - k) noPrt = p at e0 e1 e2 hy hR
      have HPX := Lib.hid hpx
      clear hpx hc
      obtain ⟨pn, pa, pc⟩ := p
      dsimp only [Prt.cells] at e0 e1 e2 hy hR
      gi_wp2
      refine hR.mono ?_
      rintro e W3 (⟨rfl, hJ3, hk3⟩ | ⟨rfl, hJx3⟩)
      · gi_wp2
        go_roundw
        case rel => exact ⟨k + 1, by omega, by go_num, by rw [backs_succ, HPX.out]; exact hJ3, hnx.trans hk3⟩
        case measure => simp [intOf]; omega
      · gi_wp2
        refine bodyPost_ret (results_none rfl _ _ _) rfl ?_
        exact ⟨⟨_, rfl⟩, .inr ⟨k + 1, by omega, by rw [backs_succ, HPX.out]; exact hJx3⟩⟩
    · obtain rfl : k = m := by omega
      gi_wp2
      go_end0
      exact ⟨⟨_, rfl⟩, .inl hJs⟩

set_option maxHeartbeats 1000000 in
theorem back_in (n : Nat) (a : Option Addr) (m cap : Nat) (w : World) :
    CallsIn Fence.wide n Tryz.prog 59 #[.slice a m cap] w fun e w' => e = .returned (.func (.func 95) #[] #[.pointer (some ⟨w.heap.size, 0, none⟩)]) ∧ w' = w.alloc (.cells #[.slice a m cap] 27) := by
  refine callsIn_of_wp Tryz.func59 rfl trivial ?_ rfl
  simp only [Tryz.ntmps59, List.size_toArray, List.length_cons, List.length_nil, Nat.reduceAdd, Nat.reduceSub, Array.replicate_succ, Array.replicate_zero, List.push_toArray, List.append_toArray, List.nil_append, List.cons_append]
  gi_wp2
  go_ret
  exact ⟨rfl, rfl⟩
theorem back_stops (n : Nat) (hn : 1 ≤ n) (Bs : Nat) (a : Option Addr) (m cap : Nat) (ps : List Prt) (hcap : m ≤ cap) (w : World) (hBs : Bs < w.heap.size) (hB0 : w.cell? ⟨Bs, 0, none⟩ = some (.slice a m cap)) (hp : PrtRow w a m ps) :
    SeqStopsK Fence.wide n Tryz.prog 95 #[.pointer (some ⟨Bs, 0, none⟩)] (fun x : Int × Prt => #[.int .i64 x.1, .agg (Prt.cells x.2).toArray]) (Below w.heap.size) (fun ys => ys = backs ps m m) (fun pre => ∃ k, k ≤ m ∧ pre = backs ps m k) m w := fun l J Jx W hW _ _ hY h0 => by
  refine (back1_in n hn l Bs w.heap.size a m cap ps hcap J Jx hY W hW.size hBs ((hW.cell (p := ⟨Bs, 0, none⟩) hBs).trans hB0) (fun w' h => hp.below (hW.trans h)) (fun b off ha hm => ?_) h0).mono ?_
  · obtain ⟨b', off', h1, h2, -⟩ := hp.at hm
    rw [ha] at h1
    cases h1
    exact h2
  · rintro e W' ⟨hv, h | ⟨k, hk, h⟩⟩
    · exact ⟨hv, .inl ⟨_, rfl, h⟩⟩
    · exact ⟨hv, .inr ⟨_, ⟨k, hk, rfl⟩, h⟩⟩

/-- Ports that come off the back and don't match leave the rest. -/
theorem last_less (ps : List Prt) (n : List UInt8) (t : Int) (m : Nat) : ∀ k, k ≤ m → (∀ p ∈ backs ps m k, ¬ (p.2.n = n ∧ p.2.at_ ≤ t)) → lastTo ps n t m = lastTo ps n t (m - k)
  | 0, _, _ => rfl
  | k + 1, hk, h => by
    rw [last_less ps n t m k (by omega) (fun p hp => h p (by rw [backs_succ]; exact List.mem_append_left _ hp))]
    have h1 := h _ (by rw [backs_succ]; exact List.mem_append_right _ (List.mem_singleton.2 rfl))
    rw [show m - k = (m - (k + 1)) + 1 by omega, lastTo, if_neg]
    rw [show m - 1 - k = m - (k + 1) by omega] at h1
    exact h1
theorem car_back {os : List Own} {ps : List Prt} {n : List UInt8} {t : Int} {k : Nat} (hk : k < ps.length) (h : ∀ p ∈ backs ps ps.length k, ¬ (p.2.n = n ∧ p.2.at_ ≤ t)) (h1 : (ps.getD (ps.length - 1 - k) noPrt).n = n ∧ (ps.getD (ps.length - 1 - k) noPrt).at_ ≤ t) : carV os ps n t = some (ps.getD (ps.length - 1 - k) noPrt).c := by
  unfold carV carTo
  rw [last_less ps n t ps.length k (by omega) h, show ps.length - k = (ps.length - 1 - k) + 1 by omega, lastTo, if_pos h1]
theorem car_none {os : List Own} {ps : List Prt} {n : List UInt8} {t : Int} (h : ∀ p ∈ backs ps ps.length ps.length, ¬ (p.2.n = n ∧ p.2.at_ ≤ t)) : carV os ps n t = ownC os n := by
  unfold carV carTo
  rw [last_less ps n t ps.length ps.length (Nat.le_refl _) h, Nat.sub_self]
  rfl
end Go.Proofs.YtmbimfmalijjpaaGreatDoor

set_option linter.unusedVariables false
set_option linter.unusedSimpArgs false
namespace Go.Proofs.YtmbimfmalijjpaaGreatDoor
open Go.RowKit

theorem own_lit0 (w : World) (base : Nat) (hb : base ≤ w.heap.size) : (w.alloc (.cells #[] 9)).ownsRow base 9 1 (.slice (some ⟨w.heap.size, 0, none⟩) 0 0) 0 [] := World.ownsRow_lit w #[] 0 hb (by simp only [maxLen]; omega) rfl
def ClonePost (n : Nat) (x : List (List UInt8)) (w : World) (e : Ending) (w' : World) : Prop := ∃ v', e = .returned v' ∧ w'.ownsRow w.heap.size 9 1 v' n (x.map encS) ∧ Below w.heap.size w w'
set_option maxRecDepth 100000 in
set_option maxHeartbeats 2000000 in
theorem cloneW_any (w : World) (base : Nat) (v : Value) (n : Nat) (x : List (List UInt8)) (h : w.ownsRow base 9 1 v n (x.map encS)) (hn : n ≤ 100000) : Calls Tryz.prog 96 #[v] w (ClonePost n x w) := by
  obtain ⟨i0, hi, hz0, hz1, hz2⟩ := info_parts Tryz.infoStr
  have hl : x.length = n := by have := h.1; simpa using this
  have HO := Lib.hid h
  have q24 : ∀ (w : World) (a : Option Addr) (n c n' c' : Nat), (binOp .eql 36 (.slice a n c) (.slice none n' c')).run Tryz.prog w = .ok (.bool a.isNone) w := fun w a n c n' c' => Lib.run_eql_slice_nil w _ _ a n c n' c' Tryz.underlying36
  rcases h.2 with ⟨rfl, h0⟩ | ⟨g, cap, cur, rfl, hbg, hg, _⟩
  · have hx : x = [] := List.eq_nil_of_length_eq_zero (by omega)
    subst hx
    subst h0
    clear h hl HO
    go_enter Tryz.func96, Tryz.ntmps96
    go_wp2_with fail
    go_ret
    exact ⟨_, rfl, World.ownsRow_nil _ _ _ _, (by (try show Below _ _ _); repeat (with_reducible first | exact Below.refl _ _ | assumption | exact Hid.out (by assumption) | refine ext_alloc ?_ | refine ext_drewN ?_ | refine ext_drew ?_ | refine ext_setCell ?_ (Nat.le_refl _) | refine ext_setCell ?_ (Nat.le_succ _) | refine ext_trans ?_ (by assumption) | (refine ext_setCell ?_ (by simp)) | (refine ext_setCell ?_ (by simp at *; omega))))⟩
  · have hgl : g < w.heap.size := (Array.getElem?_eq_some_iff.1 hg).1
    have HLN : Hid ((x.map encS).length = n * 1) := by show _ = _; rw [List.length_map]; omega
    have HCE : Hid (∀ (j : Nat) u, (x.map encS)[j]? = some u → (w.alloc (.cells #[] 9)).cell? ((⟨g, 0, none⟩ : Addr).add j) = some u) := fun j u hu => by
      have hj : j < x.length := by
        obtain ⟨hj, -⟩ := List.getElem?_eq_some_iff.1 hu
        simpa using hj
      rw [add0, ((Below.refl w.heap.size w).alloc (Nat.le_refl _) (.cells #[] 9)).cell (p := ⟨g, j, none⟩) hgl, HO.out.cellAt j (by omega), hu]
    have HON : Hid (∀ u ∈ x.map encS, u.oneCell' = true) := fun u hu => by
      obtain ⟨y, -, rfl⟩ := List.mem_map.1 hu
      rfl
    have HOA := Lib.hid (own_lit0 w w.heap.size (Nat.le_refl _))
    clear h hl hg
    go_enter Tryz.func96, Tryz.ntmps96
    go_wp2_with (at_builtin; refine wpList_append_own _ rfl (.tmp 5) (.tmp 6) 36 rfl w.heap.size 9 i0 (.string ⟨#[]⟩) 1 16 Tryz.underlying36 hi hz0 hz1 hz2 rfl (by decide) _ 0 _ rfl HOA.out ⟨g, 0, none⟩ n cap (x.map encS) rfl HLN.out HCE.out HON.out (by simp only [maxLen]; omega) (by omega) (by simp) ?_; intro v6 w6 hown6 hgr6 _)
    have HO6 : Hid (w6.ownsRow w.heap.size 9 1 v6 n (x.map encS)) := by
      show World.ownsRow _ _ _ _ _ _ _
      rw [Nat.zero_add, List.nil_append] at hown6
      exact hown6
    have HB6 : Hid (Below w.heap.size w w6) := upto_grown hgr6 (Nat.le_refl _) (fun b e => (HOA.out.lt b e).1)
    clear hown6 hgr6
    go_ret
    exact ⟨v6, rfl, HO6.out, HB6.out⟩
end Go.Proofs.YtmbimfmalijjpaaGreatDoor

set_option linter.unusedVariables false
set_option linter.unusedSimpArgs false
namespace Go.Proofs.YtmbimfmalijjpaaGreatDoor
open Go.RowKit Go.Sort

theorem own_short {w : World} {base : Nat} {e : TypeId} {g n cap : Nat} {A B : List Value} (h : w.ownsRow base e 1 (.slice (some ⟨g, 0, none⟩) n cap) n (A ++ B)) : w.ownsRow base e 1 (.slice (some ⟨g, 0, none⟩) A.length cap) A.length A := by
  have hl : (A ++ B).length = n := by have := h.1; simpa using this
  rcases h.2 with ⟨h0, _⟩ | ⟨g', cap', cur, hv, hb, hg, h1, h2, h3, h4⟩
  · cases h0
  · cases hv
    have hA : A.length ≤ n := by rw [← hl, List.length_append]; omega
    refine ⟨by simp, Or.inr ⟨g, cap, cur, rfl, hb, hg, by omega, h2, h3, ?_⟩⟩
    have h5 := congrArg (List.take A.length) h4
    rw [List.take_take, List.take_left, Nat.min_eq_left (by omega)] at h5
    rw [Nat.mul_one]
    exact h5
def SortPost (base : Nat) (v : Value) (n : Nat) (ys : List (List UInt8)) (w : World) (e : Ending) (w' : World) : Prop :=
  e = .returned (.tuple #[]) ∧ w'.ownsRow base 9 1 v n (ys.map encS) ∧ w.grownBy w' v.ownBlock
theorem grown_same (w : World) (r : Option Nat) : w.grownBy w r := ⟨rfl, rfl, rfl, Nat.le_refl _, fun _ _ _ => rfl⟩
theorem sort_own {w : World} {base : Nat} {v : Value} {n : Nat} {xs : List (List UInt8)} (h : w.ownsRow base 9 1 v n (xs.map encS)) (hn : n ≤ 100000) : Calls Tryz.prog 82 #[v] w (SortPost base v n (xs.mergeSort leB) w) := by
  have hl : xs.length = n := by have := h.1; simpa using this
  rcases h.2 with ⟨rfl, h0⟩ | ⟨g, cap, cur, rfl, hb, hg, h1, h2, h3, h4⟩
  · obtain rfl : xs = [] := List.eq_nil_of_length_eq_zero (by omega)
    refine (Tryz.slices_SortS_none none 0 w).mono ?_
    rintro e w' ⟨rfl, rfl⟩
    exact ⟨rfl, by simpa using h, grown_same _ _⟩
  · have hlt := (Array.getElem?_eq_some_iff.1 hg).1
    subst hl
    refine (Tryz.slices_SortS g 0 cap xs w (holds_of_block hg (by rw [Nat.mul_one] at h4; exact h4)) hlt (by omega)).mono ?_
    rintro e w' ⟨rfl, q, os, rfl⟩
    exact ⟨rfl, ownsRow_sorted (by simp) hb hg h1 h2 h3, grownBy_sorted _⟩
def CompactPost (base : Nat) (v : Value) (ys : List (List UInt8)) (w : World) (e : Ending) (w' : World) : Prop :=
  ∃ v', e = .returned v' ∧ w'.ownsRow base 9 1 v' ys.length (ys.map encS) ∧ w.grownBy w' v.ownBlock
theorem compact_own {w : World} {base : Nat} {v : Value} {n : Nat} {xs : List (List UInt8)} (h : w.ownsRow base 9 1 v n (xs.map encS)) (hn : n ≤ 100000) : Calls Tryz.prog 97 #[v] w (CompactPost base v (Lib.compact xs) w) := by
  have hl : xs.length = n := by have := h.1; simpa using this
  rcases h.2 with ⟨rfl, h0⟩ | ⟨g, cap, cur, rfl, hb, hg, h1, h2, h3, h4⟩
  · obtain rfl : xs = [] := List.eq_nil_of_length_eq_zero (by omega)
    refine (Tryz.slices_CompactS_empty none 0 w).mono ?_
    rintro e w' ⟨rfl, rfl⟩
    exact ⟨_, rfl, World.ownsRow_nil _ _ _ _, grown_same _ _⟩
  · have hlt := (Array.getElem?_eq_some_iff.1 hg).1
    subst hl
    refine (Tryz.slices_CompactS g 0 cap xs w (holds_of_block hg (by rw [Nat.mul_one] at h4; exact h4)) (by omega) h1).mono ?_
    rintro e w' ⟨rfl, q, rfl⟩
    have hcl : (Lib.compact xs).length ≤ xs.length := by
      unfold Lib.compact Lib.compactUpTo
      rw [List.length_map]
      refine Nat.le_trans (List.length_filter_le _ _) ?_
      simp
    have h5 := ownsRow_sorted (n := q) (os := #[]) (ts := Lib.compact xs ++ List.replicate (xs.length - (Lib.compact xs).length) []) (ss := xs) (by rw [List.length_append, List.length_replicate]; omega) hb hg h1 h2 h3
    have h6 := grownBy_sorted (w := w) (g := g) (n := q) (os := #[]) (Lib.compact xs ++ List.replicate (xs.length - (Lib.compact xs).length) []).toArray
    rw [grow_empty] at h5 h6
    rw [List.map_append] at h5
    have h7 := own_short h5
    rw [List.length_map] at h7
    exact ⟨_, rfl, h7, h6⟩
def OncePost (ys : List (List UInt8)) (w : World) (e : Ending) (w' : World) : Prop :=
  ∃ v', e = .returned v' ∧ w'.ownsRow w.heap.size 9 1 v' ys.length (ys.map encS) ∧ Below w.heap.size w w'
set_option maxRecDepth 100000 in
theorem once_any {w : World} {base : Nat} {v : Value} {n : Nat} {xs : List (List UInt8)} (h : w.ownsRow base 9 1 v n (xs.map encS)) (hn : n ≤ 100000) : Calls Tryz.prog 63 #[v] w (OncePost (onceL xs) w) := by
  have HO := Lib.hid h
  clear h
  go_enter Tryz.func63, Tryz.ntmps63
  go_wp2_with fail
  refine (cloneW_any _ base _ n xs HO.out hn).mono ?_
  rintro e w1 ⟨v1, rfl, ho1, hb1⟩
  have HB1 := Lib.hid hb1
  have HO1 := Lib.hid ho1
  clear ho1 hb1
  go_wp2_with fail
  refine (sort_own HO1.out hn).mono ?_
  rintro e w2 ⟨rfl, ho2, hg2⟩
  have HO2 := Lib.hid ho2
  have HB2 : Hid (Below w.heap.size w w2) := HB1.out.grown hg2 HB1.out.size (fun b e => (HO1.out.lt b e).1)
  clear ho2 hg2
  go_wp2_with fail
  refine (compact_own HO2.out hn).mono ?_
  rintro e w3 ⟨v3, rfl, ho3, hg3⟩
  have HB3 : Hid (Below w.heap.size w w3) := HB2.out.grown hg3 HB2.out.size (fun b e => (HO2.out.lt b e).1)
  have HO3 := Lib.hid ho3
  clear ho3 hg3
  go_wp2_with fail
  go_ret
  exact ⟨_, rfl, HO3.out, HB3.out⟩
end Go.Proofs.YtmbimfmalijjpaaGreatDoor

set_option linter.unusedVariables false
set_option linter.unusedSimpArgs false
namespace Go.Proofs.YtmbimfmalijjpaaGreatDoor
open Go.RowKit

/-- The error of Moved. -/
def movE (os : List Own) (ps : List Prt) (c : List UInt8) (t : Int) : Int := if portsErr os ps ≠ 0 then portsErr os ps else if isKeyB c = false then 5 else if isMomB t = false then 1 else 0
def MovPost (os : List Own) (ps : List Prt) (c : List UInt8) (t : Int) (w : World) (e : Ending) (w' : World) : Prop :=
  ∃ v ys, e = .returned (.tuple #[v, .int .i64 (movE os ps c t)]) ∧ w'.ownsRow w.heap.size 9 1 v ys.length (ys.map encS) ∧ Below w.heap.size w w' ∧ ((movE os ps c t ≠ 0 ∧ ys = []) ∨ (movE os ps c t = 0 ∧ ys = movP os ps c t ps.length))
theorem owns_ok {os : List Own} (h : rngsErr 0 (os.map (·.r)) = 0) : OwnsOk os := by
  intro i hi
  unfold rngsErr at h
  split at h
  · cases h
  · have h2 := rng_right (first_zero h i (by simpa using hi))
    rw [getD_map (·.r) os i noOwn noRng hi] at h2
    exact ⟨h2.1, h2.2.1, h2.2.2.1⟩

set_option maxRecDepth 100000 in
set_option maxHeartbeats 4000000 in
theorem moved_any (w : World) (a : Option Addr) (m cap : Nat) (os : List Own) (ho : OwnRow w a m os) (hcap : m ≤ cap) (a2 : Option Addr) (m2 cap2 : Nat) (ps : List Prt) (hp : PrtRow w a2 m2 ps) (hcap2 : m2 ≤ cap2) (c : List UInt8) (hcl : c.length ≤ 1000) (t : Int) :
    Calls Tryz.prog 11 #[.slice a m cap, .slice a2 m2 cap2, .string ⟨c.toArray⟩, .int .i64 t] w (MovPost os ps c t w) := by
  obtain ⟨i0, hi, hz0, hz1, hz2⟩ := info_parts Tryz.infoStr
  have HO := Lib.hid ho
  have HP := Lib.hid hp
  have hfew := hp.few
  have HLEN := Lib.hid hp.len
  have HSU := Lib.hid (movP_succ os ps c t)
  have HLN : Hid (∀ k, (movP os ps c t k).length ≤ k) := fun k => fm_len _ k
  have HPB : Hid (∀ w', Below w.heap.size w w' → movE os ps c t ≠ 0 → MovPost os ps c t w (.returned (.tuple #[.slice none 0 0, .int .i64 (movE os ps c t)])) w') := fun w' h1 h2 => ⟨_, [], rfl, World.ownsRow_nil _ _ _ _, h1, Or.inl ⟨h2, rfl⟩⟩
  have HPG : Hid (∀ w' v, Below w.heap.size w w' → movE os ps c t = 0 → w'.ownsRow w.heap.size 9 1 v (movP os ps c t ps.length).length ((movP os ps c t ps.length).map encS) → MovPost os ps c t w (.returned (.tuple #[v, .int .i64 (movE os ps c t)])) w') := fun w' v h1 h2 h3 => ⟨v, _, rfl, h3, h1, Or.inr ⟨h2, rfl⟩⟩
  have HE : Hid (movE os ps c t = if portsErr os ps ≠ 0 then portsErr os ps else if isKeyB c = false then 5 else if isMomB t = false then 1 else 0) := rfl
  have HOK : Hid (portsErr os ps = 0 → OwnsOk os ∧ ∀ i, i < ps.length → isNumB (ps.getD i noPrt).n = true) := fun h => ⟨owns_ok (ports_parts h).1, fun i hi => (port_parts ((ports_parts h).2.2.2 i hi)).1⟩
  generalize movE os ps c t = E at HPB HPG HE
  clear ho hp
  go_enter Tryz.func11, Tryz.ntmps11
  go_wp2_with fail
  refine (checkPorts_any _ a m cap os HO.out hcap a2 m2 cap2 ps HP.out hcap2).mono ?_
  rintro e w1 ⟨rfl, hb1⟩
  have HB1 := Lib.hid hb1
  clear hb1
  generalize portsErr os ps = F at HE HOK ⊢
  by_cases hF : F = 0
  case neg =>
    obtain rfl : E = F := by rw [HE.out, if_pos hF]
    have hFb : (E == 0) = false := by simpa using hF
    have HNE := Lib.hid hF
    clear HE HOK hF
    as_aux_lemma =>
      go_wp2_with fail
      go_ret2
      exact HPB.out _ HB1.out HNE.out
  subst hF
  obtain ⟨hok, hnum⟩ := HOK.out rfl
  have HOK2 := Lib.hid hok
  have HNUM := Lib.hid hnum
  have HE1 : Hid (E = if isKeyB c = false then 5 else if isMomB t = false then 1 else 0) := by show _ = _; rw [HE.out, if_neg (by simp)]
  clear HE HOK hok hnum
  as_aux_lemma =>
    go_wp2_with fail
    refine (isKey_any c _ (by omega)).mono ?_
    rintro e w2 ⟨rfl, hb2⟩
    have HB2 := Lib.hid (ext_trans HB1.out hb2)
    clear hb2 HB1
    generalize isKeyB c = g at HE1 ⊢
    cases g
    · obtain rfl : E = 5 := by rw [HE1.out, if_pos rfl]
      clear HE1
      as_aux_lemma =>
        go_wp2_with fail
        go_ret2
        exact HPB.out _ HB2.out (by decide)
    have HE2 : Hid (E = if isMomB t = false then 1 else 0) := by show _ = _; rw [HE1.out, if_neg (by decide)]
    clear HE1
    as_aux_lemma =>
      go_wp2_with fail
      refine (isMoment_any t _).mono ?_
      rintro e w3 ⟨rfl, hw3⟩
      subst hw3
      generalize isMomB t = g2 at HE2 ⊢
      cases g2
      · obtain rfl : E = 1 := by rw [HE2.out, if_pos rfl]
        clear HE2
        as_aux_lemma =>
          go_wp2_with fail
          go_ret2
          exact HPB.out _ HB2.out (by decide)
      obtain rfl : E = 0 := by rw [HE2.out, if_neg (by decide)]
      clear HE2 HPB
      as_aux_lemma =>
        go_wp2_with fail
        go_loopw [11, 31] (fun vo it wr => ∃ k : Nat, k ≤ m2 ∧ it = .int .i64 k ∧ Hid (wr.ownsRow w.heap.size 9 1 vo (movP os ps c t k).length ((movP os ps c t k).map encS)) ∧ Hid (Below w.heap.size w wr)) (fun _ it _ => m2 - (intOf it).toNat)
        case atStart => exact ⟨0, Nat.zero_le _, rfl, World.ownsRow_nil _ _ _ _, HB2.out⟩
        case round =>
          obtain ⟨k, hk, rfl, HOW, HB⟩ := hrel
          by_cases hlt : k < m2
          · obtain ⟨b, off, rfl, hb, hc⟩ := HP.out.at (by omega)
            have HCC := Lib.hid hc
            obtain ⟨g0, g1, g2⟩ := hc k hlt
            have c0 := (HB.out.cell (p := ⟨b, off + k * 3, none⟩) hb).trans g0
            have c1 := (HB.out.cell (p := ⟨b, off + k * 3 + 1, none⟩) hb).trans g1
            have c2 := (HB.out.cell (p := ⟨b, off + k * 3 + 2, none⟩) hb).trans g2
            have hln := HLN.out k
            have HS := Lib.hid (HSU.out k)
            have HNK := Lib.hid (HNUM.out k (by rw [← HLEN.out]; exact hlt))
            have HM1 : Hid (movP1 os ps c t k = if (ps.getD k noPrt).at_ ≤ t ∧ decide (lastB ps t k) = true ∧ (ps.getD k noPrt).c = c ∧ ownC os (ps.getD k noPrt).n ≠ some c then some (ps.getD k noPrt).n else none) := by show _ = _; unfold movP1; simp only [decide_eq_true_eq]
            have HLB : Hid (decide (lastB ps t k) = true ↔ (k + 1 = m2 ∨ (ps.getD (k + 1) noPrt).n ≠ (ps.getD k noPrt).n ∨ t < (ps.getD (k + 1) noPrt).at_)) := by show _ ↔ _; rw [HLEN.out, decide_eq_true_iff]; exact Iff.rfl
            have HNC : Hid (k + 1 < m2 → w.cell? ⟨b, off + (k + 1) * 3, none⟩ = some (.string ⟨(ps.getD (k + 1) noPrt).n.toArray⟩) ∧ w.cell? ⟨b, off + (k + 1) * 3 + 1, none⟩ = some (.int .i64 (ps.getD (k + 1) noPrt).at_)) := fun h => ⟨(HCC.out (k + 1) h).1, (HCC.out (k + 1) h).2.1⟩
            clear g0 g1 g2 hc HSU HLN HCC HNUM HP
            generalize decide (lastB ps t k) = LB at HM1 HLB
            generalize ps.getD k noPrt = p at c0 c1 c2 HM1 HLB HNK
            generalize ps.getD (k + 1) noPrt = q at HLB HNC
            obtain ⟨pn, pa, pc⟩ := p
            obtain ⟨qn, qa, qc⟩ := q
            simp only at c0 c1 c2 HM1 HLB HNC HNK
            generalize movP1 os ps c t k = M at HS HM1
            generalize movP os ps c t k = out at HS HOW hln
            have hwk : IntKind.i64.wrap ((k : Int) + 1) = (k : Int) + 1 := IntWalk.i64_in _ (by omega)
            have hbw : b < wr.heap.size := Nat.lt_of_lt_of_le hb HB.out.size
            have HWZ : Hid (w.heap.size ≤ wr.heap.size) := HB.out.size
            as_aux_lemma =>
              go_upto_region 12 with (fail)
              have HOA := Lib.hid (HOW.out.alloc (.cells #[.string ⟨pn.toArray⟩, .int .i64 pa, .string ⟨pc.toArray⟩] 76))
              have HBA : Hid (Below w.heap.size w (wr.alloc (.cells #[.string ⟨pn.toArray⟩, .int .i64 pa, .string ⟨pc.toArray⟩] 76))) := ext_alloc HB.out
              have t0 : (wr.alloc (.cells #[.string ⟨pn.toArray⟩, .int .i64 pa, .string ⟨pc.toArray⟩] 76)).cell? ⟨wr.heap.size, 0, none⟩ = some (.string ⟨pn.toArray⟩) := by go_simp
              have t1 : (wr.alloc (.cells #[.string ⟨pn.toArray⟩, .int .i64 pa, .string ⟨pc.toArray⟩] 76)).cell? ⟨wr.heap.size, 1, none⟩ = some (.int .i64 pa) := by go_simp
              have t2 : (wr.alloc (.cells #[.string ⟨pn.toArray⟩, .int .i64 pa, .string ⟨pc.toArray⟩] 76)).cell? ⟨wr.heap.size, 2, none⟩ = some (.string ⟨pc.toArray⟩) := by go_simp
              have hzt : wr.heap.size < (wr.alloc (.cells #[.string ⟨pn.toArray⟩, .int .i64 pa, .string ⟨pc.toArray⟩] 76)).heap.size := by simp
              clear c0 c1 c2 HOW HB
              generalize wr.alloc (.cells #[.string ⟨pn.toArray⟩, .int .i64 pa, .string ⟨pc.toArray⟩] 76) = W5 at HOA HBA t0 t1 t2 hzt ⊢
              generalize wr.heap.size = T at t0 t1 t2 hzt hbw HWZ ⊢
              go_cut [14] (fun v wx => v = .bool LB ∧ Hid (Below W5.heap.size W5 wx))
              case first =>
                by_cases hend : k + 1 = m2
                · have hLB : LB = true := HLB.out.2 (Or.inl hend)
                  subst hLB
                  have heI : (k : Int) + 1 = m2 := by omega
                  clear HLB HM1 HNC
                  go_quiet (fail)
                  go_wp2_with fail
                  go_meet
                  exact ⟨rfl, (by (try show Below _ _ _); repeat (with_reducible first | exact Below.refl _ _ | assumption | exact Hid.out (by assumption) | refine ext_alloc ?_ | refine ext_drewN ?_ | refine ext_drew ?_ | refine ext_setCell ?_ (Nat.le_refl _) | refine ext_setCell ?_ (Nat.le_succ _) | refine ext_trans ?_ (by assumption) | (refine ext_setCell ?_ (by simp)) | (refine ext_setCell ?_ (by simp at *; omega))))⟩
                · have heI : ((k : Int) + 1 == m2) = false := by simp; omega
                  have hk2 : (k : Int) + 1 < m2 := by omega
                  have hk3 : (0 : Int) ≤ (k : Int) + 1 := by omega
                  have hk4 : ((k : Int) + 1).toNat = k + 1 := by omega
                  obtain ⟨n0, n1⟩ := HNC.out (by omega)
                  have d0 := (HBA.out.cell (p := ⟨b, off + (k + 1) * 3, none⟩) hb).trans n0
                  have d1 := (HBA.out.cell (p := ⟨b, off + (k + 1) * 3 + 1, none⟩) hb).trans n1
                  clear n0 n1 HNC
                  by_cases hn : qn = pn
                  · subst hn
                    by_cases hat : t < qa
                    · have hLB : LB = true := HLB.out.2 (Or.inr (Or.inr hat))
                      subst hLB
                      clear HLB HM1
                      go_quiet (fail)
                      go_wp2_with fail
                      go_meet
                      exact ⟨rfl, (by (try show Below _ _ _); repeat (with_reducible first | exact Below.refl _ _ | assumption | exact Hid.out (by assumption) | refine ext_alloc ?_ | refine ext_drewN ?_ | refine ext_drew ?_ | refine ext_setCell ?_ (Nat.le_refl _) | refine ext_setCell ?_ (Nat.le_succ _) | refine ext_trans ?_ (by assumption) | (refine ext_setCell ?_ (by simp)) | (refine ext_setCell ?_ (by simp at *; omega))))⟩
                    · have hLB : LB = false := by
                        cases h9 : LB with
                        | false => rfl
                        | true => rcases HLB.out.1 h9 with h | h | h
                                  · exact absurd h hend
                                  · exact absurd rfl h
                                  · exact absurd h hat
                      subst hLB
                      clear HLB HM1
                      go_quiet (fail)
                      go_wp2_with fail
                      go_meet
                      exact ⟨rfl, (by (try show Below _ _ _); repeat (with_reducible first | exact Below.refl _ _ | assumption | exact Hid.out (by assumption) | refine ext_alloc ?_ | refine ext_drewN ?_ | refine ext_drew ?_ | refine ext_setCell ?_ (Nat.le_refl _) | refine ext_setCell ?_ (Nat.le_succ _) | refine ext_trans ?_ (by assumption) | (refine ext_setCell ?_ (by simp)) | (refine ext_setCell ?_ (by simp at *; omega))))⟩
                  · have hLB : LB = true := HLB.out.2 (Or.inr (Or.inl hn))
                    subst hLB
                    have hnb : (qn == pn) = false := beq_eq_false_iff_ne.2 hn
                    clear HLB HM1 hn
                    go_quiet (fail)
                    go_wp2_with fail
                    go_meet
                    exact ⟨rfl, (by (try show Below _ _ _); repeat (with_reducible first | exact Below.refl _ _ | assumption | exact Hid.out (by assumption) | refine ext_alloc ?_ | refine ext_drewN ?_ | refine ext_drew ?_ | refine ext_setCell ?_ (Nat.le_refl _) | refine ext_setCell ?_ (Nat.le_succ _) | refine ext_trans ?_ (by assumption) | (refine ext_setCell ?_ (by simp)) | (refine ext_setCell ?_ (by simp at *; omega))))⟩
              case rest =>
                obtain ⟨rfl, HBC⟩ := hcut
                have u0 := (HBC.out.cell (p := ⟨T, 0, none⟩) hzt).trans t0
                have u1 := (HBC.out.cell (p := ⟨T, 1, none⟩) hzt).trans t1
                have u2 := (HBC.out.cell (p := ⟨T, 2, none⟩) hzt).trans t2
                have HOC := Lib.hid (own_keep HOA.out HBC.out)
                have HBW : Hid (Below w.heap.size w wc) := ext_trans HBA.out HBC.out
                have hzc : T < wc.heap.size := Nat.lt_of_lt_of_le hzt HBC.out.size
                clear t0 t1 t2 HOA HBA HBC hzt HLB HNC
                by_cases h1 : pa ≤ t ∧ LB = true ∧ pc = c
                · obtain ⟨h1a, rfl, rfl⟩ := h1
                  have h1b : ¬ t < pa := by omega
                  have HM2 : Hid (M = if ownC os pn ≠ some pc then some pn else none) := by
                    show _ = _
                    rw [HM1.out]
                    congr 1
                    exact propext ⟨fun h => h.2.2.2, fun h => ⟨h1a, rfl, rfl, h⟩⟩
                  clear HM1
                  as_aux_lemma =>
                    go_wp2_with fail
                    refine (owner_any _ a m cap os (HO.out.below HBW.out) hcap HOK2.out pn HNK.out).mono ?_
                    rintro e w6 ⟨rfl, hb6⟩
                    have v0 := (hb6.cell (p := ⟨T, 0, none⟩) hzc).trans u0
                    have HO6 := Lib.hid (own_keep HOC.out hb6)
                    have HB6 := Lib.hid (ext_trans HBW.out hb6)
                    clear hb6 u0 u1 u2 HOC HBW
                    generalize ownC os pn = C at HM2 ⊢
                    cases hC : C with
                    | none =>
                      subst hC
                      have HS2 : Hid (movP os ps pc t (k + 1) = out ++ [pn]) := by show _ = _; rw [HS.out, HM2.out]; rfl
                      have HOA := Lib.hid (HO6.out.alloc (.cells #[.string ⟨pn.toArray⟩] 9))
                      clear HS HM2
                      as_aux_lemma =>
                        go_wp2_with (at_builtin; refine wpList_append_own _ rfl (.tmp 90) (.tmp 93) 36 rfl w.heap.size 9 i0 (.string ⟨#[]⟩) 1 16 Tryz.underlying36 hi hz0 hz1 hz2 rfl (by decide) _ out.length _ rfl HOA.out ⟨w6.heap.size, 0, none⟩ 1 1 [.string ⟨pn.toArray⟩] rfl rfl (news_one (by go_simp)) (by simp [Value.oneCell']) (by simp only [maxLen]; omega) (by omega) (by have := HB6.out.size; simp; omega) ?_; intro v6 w7 hown6 hgr6 _)
                        have hup : Below w.heap.size w6 w7 := upto_grown hgr6 HB6.out.size (fun b e => (HO6.out.lt b e).1)
                        have HB7 := Lib.hid (HB6.out.trans hup)
                        have HO7 : Hid (w7.ownsRow w.heap.size 9 1 v6 (out ++ [pn]).length ((out ++ [pn]).map encS)) := by
                          show World.ownsRow _ _ _ _ _ _ _
                          rw [show (out ++ [pn]).map encS = out.map encS ++ [.string ⟨pn.toArray⟩] by simp [encS], List.length_append]
                          exact hown6
                        clear hown6 hgr6 hup
                        go_roundw
                        case rel => exact ⟨k + 1, by omega, by go_num, by show World.ownsRow _ _ _ _ _ _ _; rw [HS2.out]; exact HO7.out, HB7.out⟩
                        case measure => simp [intOf]; omega
                    | some x =>
                      subst hC
                      by_cases hx : x = pc
                      · subst hx
                        have HS2 : Hid (movP os ps x t (k + 1) = out) := by show _ = _; rw [HS.out, HM2.out]; simp
                        clear HS HM2
                        as_aux_lemma =>
                          go_wp2_with fail
                          go_roundw
                          case rel => exact ⟨k + 1, by omega, by go_num, by show World.ownsRow _ _ _ _ _ _ _; rw [HS2.out]; exact HO6.out, HB6.out⟩
                          case measure => simp [intOf]; omega
                      · have hxb : (x == pc) = false := beq_eq_false_iff_ne.2 hx
                        have HS2 : Hid (movP os ps pc t (k + 1) = out ++ [pn]) := by show _ = _; rw [HS.out, HM2.out, if_pos (fun h => hx (by injection h))]; rfl
                        have HOA := Lib.hid (HO6.out.alloc (.cells #[.string ⟨pn.toArray⟩] 9))
                        clear HS HM2 hx
                        as_aux_lemma =>
                          go_wp2_with (at_builtin; refine wpList_append_own _ rfl (.tmp 90) (.tmp 93) 36 rfl w.heap.size 9 i0 (.string ⟨#[]⟩) 1 16 Tryz.underlying36 hi hz0 hz1 hz2 rfl (by decide) _ out.length _ rfl HOA.out ⟨w6.heap.size, 0, none⟩ 1 1 [.string ⟨pn.toArray⟩] rfl rfl (news_one (by go_simp)) (by simp [Value.oneCell']) (by simp only [maxLen]; omega) (by omega) (by have := HB6.out.size; simp; omega) ?_; intro v6 w7 hown6 hgr6 _)
                          have hup : Below w.heap.size w6 w7 := upto_grown hgr6 HB6.out.size (fun b e => (HO6.out.lt b e).1)
                          have HB7 := Lib.hid (HB6.out.trans hup)
                          have HO7 : Hid (w7.ownsRow w.heap.size 9 1 v6 (out ++ [pn]).length ((out ++ [pn]).map encS)) := by
                            show World.ownsRow _ _ _ _ _ _ _
                            rw [show (out ++ [pn]).map encS = out.map encS ++ [.string ⟨pn.toArray⟩] by simp [encS], List.length_append]
                            exact hown6
                          clear hown6 hgr6 hup
                          go_roundw
                          case rel => exact ⟨k + 1, by omega, by go_num, by show World.ownsRow _ _ _ _ _ _ _; rw [HS2.out]; exact HO7.out, HB7.out⟩
                          case measure => simp [intOf]; omega
                · have HM2 : Hid (M = none) := by
                    show _ = _
                    rw [HM1.out, if_neg]
                    exact fun h => h1 ⟨h.1, h.2.1, h.2.2.1⟩
                  have HS2 : Hid (movP os ps c t (k + 1) = out) := by show _ = _; rw [HS.out, HM2.out]; simp
                  clear HM1 HS HM2
                  have HFIN : Hid (∀ q, wc.drewN q = wc.drewN q) := fun _ => rfl
                  by_cases h2 : pa ≤ t
                  · have h2b : ¬ t < pa := by omega
                    cases LB with
                    | false =>
                      clear h1
                      as_aux_lemma =>
                        go_wp2_with fail
                        go_roundw
                        case rel => exact ⟨k + 1, by omega, by go_num, by show World.ownsRow _ _ _ _ _ _ _; rw [HS2.out]; exact HOC.out, HBW.out⟩
                        case measure => simp [intOf]; omega
                    | true =>
                      have h3 : pc ≠ c := fun h => h1 ⟨h2, rfl, h⟩
                      have h3b : (pc == c) = false := beq_eq_false_iff_ne.2 h3
                      clear h1 h3
                      as_aux_lemma =>
                        go_wp2_with fail
                        go_roundw
                        case rel => exact ⟨k + 1, by omega, by go_num, by show World.ownsRow _ _ _ _ _ _ _; rw [HS2.out]; exact HOC.out, HBW.out⟩
                        case measure => simp [intOf]; omega
                  · have h2b : t < pa := by omega
                    clear h1
                    as_aux_lemma =>
                      go_wp2_with fail
                      go_roundw
                      case rel => exact ⟨k + 1, by omega, by go_num, by show World.ownsRow _ _ _ _ _ _ _; rw [HS2.out]; exact HOC.out, HBW.out⟩
                      case measure => simp [intOf]; omega
          · obtain rfl : k = m2 := by omega
            have HKL : Hid (movP os ps c t k = movP os ps c t ps.length) := by show _ = _; rw [← HLEN.out]
            rw [HKL.out] at HOW
            as_aux_lemma =>
              go_wp2_with fail
              go_ret2
              exact HPG.out _ _ HB.out (by first | rfl | trivial) HOW.out
end Go.Proofs.YtmbimfmalijjpaaGreatDoor
