/- What is proved here: lemmas and contracts for the statement, put together out of smaller texts (CarrOut, CarrShD, CarrJoin). No condition beyond those stated. -/
import Derived.Test.YtppinnjdaoaddaaGreatDoorCsPkC
import Derived.Test.YtppinnjdaoaddaaGreatDoorCsPkD
import Derived.Test.YtppinnjdaoaddaaGreatDoorCsPkE
import Derived.Test.YtppinnjdaoaddaaGreatDoorCsPkB
set_option linter.unusedVariables false
set_option linter.unusedSimpArgs false
namespace Go.Proofs.YtppinnjdaoaddaaGreatDoor
open Go.RowKit

theorem bs_string_ts_cs2 (e : Operand → Value) (he : ∀ v, e (.const v) = v) (o : Oper) (w : World) (i0 : Nat) (p0 : ByteArray) (p1 : ByteArray) (p2 : ByteArray) (ho : o.op = .buildSlice 121 3 #[(0, .tmp i0), (1, .const (.string p1)), (2, .const (.string p2))]) (h0 : e (.tmp i0) = .string p0) :
   (execOp e o).run Tryz.prog w = .ok (.value (.slice (some ⟨w.heap.size, 0, none⟩) 3 3)) (w.alloc (.cells #[.string p0, .string p1, .string p2] 9)) := by
  unfold execOp
  rw [ho]
  simp only [List.map_toArray, List.map_cons, List.map_nil, he, h0]
  kernel_rfl
theorem bs_string_ts_cs (e : Operand → Value) (he : ∀ v, e (.const v) = v) (o : Oper) (w : World) (i0 : Nat) (p0 : ByteArray) (p1 : ByteArray) (ho : o.op = .buildSlice 121 2 #[(0, .tmp i0), (1, .const (.string p1))]) (h0 : e (.tmp i0) = .string p0) :
   (execOp e o).run Tryz.prog w = .ok (.value (.slice (some ⟨w.heap.size, 0, none⟩) 2 2)) (w.alloc (.cells #[.string p0, .string p1] 9)) := by
  unfold execOp
  rw [ho]
  simp only [List.map_toArray, List.map_cons, List.map_nil, he, h0]
  kernel_rfl
theorem bs_int_ti_ci2 (e : Operand → Value) (he : ∀ v, e (.const v) = v) (o : Oper) (w : World) (i0 : Nat) (z0 : Int) (z1 : Int) (z2 : Int) (ho : o.op = .buildSlice 22 3 #[(0, .tmp i0), (1, .const (.int .i64 z1)), (2, .const (.int .i64 z2))]) (h0 : e (.tmp i0) = .int .i64 z0) :
   (execOp e o).run Tryz.prog w = .ok (.value (.slice (some ⟨w.heap.size, 0, none⟩) 3 3)) (w.alloc (.cells #[.int .i64 z0, .int .i64 z1, .int .i64 z2] 3)) := by
  unfold execOp
  rw [ho]
  simp only [List.map_toArray, List.map_cons, List.map_nil, he, h0]
  kernel_rfl
theorem bu_rcd (e : Operand → Value) (o : Oper) (w : World) (p0 : ByteArray) (p1 : ByteArray) (p2 : ByteArray) (z3 : Int) (z4 : Int) (z5 : Int) (p7 : ByteArray) (ho : o.op = .build 83 #[(0, .tmp 18), (1, .tmp 21), (2, .tmp 24), (3, .tmp 25), (4, .tmp 28), (5, .tmp 31), (7, .tmp 34)]) (h0 : e (.tmp 18) = .string p0) (h1 : e (.tmp 21) = .string p1) (h2 : e (.tmp 24) = .string p2) (h3 : e (.tmp 25) = .int .i64 z3) (h4 : e (.tmp 28) = .int .i64 z4) (h5 : e (.tmp 31) = .int .i64 z5) (h7 : e (.tmp 34) = .string p7) :
   (execOp e o).run Tryz.prog w = .ok (.value (.agg #[.string p0, .string p1, .string p2, .int .i64 z3, .int .i64 z4, .int .i64 z5, .int .i64 0, .string p7])) w := by
  unfold execOp
  rw [ho]
  simp only [List.map_toArray, List.map_cons, List.map_nil, h0, h1, h2, h3, h4, h5, h7]
  kernel_rfl
theorem bl_out0 (e : Operand → Value) (he : ∀ v, e (.const v) = v) (o : Oper) (w : World)  (p0 : ByteArray) (p1 : ByteArray) (ho : o.op = .buildSlice 121 2 #[(0, .const (.string p0)), (1, .const (.string p1))])  :
   (execOp e o).run Tryz.prog w = .ok (.value (.slice (some ⟨w.heap.size, 0, none⟩) 2 2)) (w.alloc (.cells #[.string p0, .string p1] 9)) := by
  unfold execOp
  rw [ho]
  simp only [List.map_toArray, List.map_cons, List.map_nil, he]
  kernel_rfl
theorem bl_out1 (e : Operand → Value) (he : ∀ v, e (.const v) = v) (o : Oper) (w : World)  (p0 : ByteArray) (p1 : ByteArray) (p2 : ByteArray) (p3 : ByteArray) (p4 : ByteArray) (p5 : ByteArray) (ho : o.op = .buildSlice 121 6 #[(0, .const (.string p0)), (1, .const (.string p1)), (2, .const (.string p2)), (3, .const (.string p3)), (4, .const (.string p4)), (5, .const (.string p5))])  :
   (execOp e o).run Tryz.prog w = .ok (.value (.slice (some ⟨w.heap.size, 0, none⟩) 6 6)) (w.alloc (.cells #[.string p0, .string p1, .string p2, .string p3, .string p4, .string p5] 9)) := by
  unfold execOp
  rw [ho]
  simp only [List.map_toArray, List.map_cons, List.map_nil, he]
  kernel_rfl
theorem bl_out2 (e : Operand → Value) (he : ∀ v, e (.const v) = v) (o : Oper) (w : World)  (z0 : Int) (z1 : Int) (z2 : Int) (ho : o.op = .buildSlice 22 3 #[(0, .const (.int .i64 z0)), (1, .const (.int .i64 z1)), (2, .const (.int .i64 z2))])  :
   (execOp e o).run Tryz.prog w = .ok (.value (.slice (some ⟨w.heap.size, 0, none⟩) 3 3)) (w.alloc (.cells #[.int .i64 z0, .int .i64 z1, .int .i64 z2] 3)) := by
  unfold execOp
  rw [ho]
  simp only [List.map_toArray, List.map_cons, List.map_nil, he]
  kernel_rfl
theorem bl_out3 (e : Operand → Value) (he : ∀ v, e (.const v) = v) (o : Oper) (w : World)  (z0 : Int) (z1 : Int) (z2 : Int) (z3 : Int) (ho : o.op = .buildSlice 22 4 #[(0, .const (.int .i64 z0)), (1, .const (.int .i64 z1)), (2, .const (.int .i64 z2)), (3, .const (.int .i64 z3))])  :
   (execOp e o).run Tryz.prog w = .ok (.value (.slice (some ⟨w.heap.size, 0, none⟩) 4 4)) (w.alloc (.cells #[.int .i64 z0, .int .i64 z1, .int .i64 z2, .int .i64 z3] 3)) := by
  unfold execOp
  rw [ho]
  simp only [List.map_toArray, List.map_cons, List.map_nil, he]
  kernel_rfl
theorem bl_out4 (e : Operand → Value) (he : ∀ v, e (.const v) = v) (o : Oper) (w : World)  (p0 : ByteArray) (p1 : ByteArray) (p2 : ByteArray) (p3 : ByteArray) (ho : o.op = .buildSlice 121 4 #[(0, .const (.string p0)), (1, .const (.string p1)), (2, .const (.string p2)), (3, .const (.string p3))])  :
   (execOp e o).run Tryz.prog w = .ok (.value (.slice (some ⟨w.heap.size, 0, none⟩) 4 4)) (w.alloc (.cells #[.string p0, .string p1, .string p2, .string p3] 9)) := by
  unfold execOp
  rw [ho]
  simp only [List.map_toArray, List.map_cons, List.map_nil, he]
  kernel_rfl
theorem bl_out5 (e : Operand → Value) (he : ∀ v, e (.const v) = v) (o : Oper) (w : World) (i0 : Nat) (p0_0 : ByteArray) (p0_1 : ByteArray) (p0_2 : ByteArray) (z0_3 : Int) (z0_4 : Int) (z0_5 : Int) (z0_6 : Int) (p0_7 : ByteArray) (ho : o.op = .buildSlice 28 1 #[(0, .tmp i0)]) (h0 : e (.tmp i0) = .agg #[.string p0_0, .string p0_1, .string p0_2, .int .i64 z0_3, .int .i64 z0_4, .int .i64 z0_5, .int .i64 z0_6, .string p0_7]) :
   (execOp e o).run Tryz.prog w = .ok (.value (.slice (some ⟨w.heap.size, 0, none⟩) 1 1)) (w.alloc (.cells #[.string p0_0, .string p0_1, .string p0_2, .int .i64 z0_3, .int .i64 z0_4, .int .i64 z0_5, .int .i64 z0_6, .string p0_7] 83)) := by
  unfold execOp
  rw [ho]
  simp only [List.map_toArray, List.map_cons, List.map_nil, h0]
  kernel_rfl
theorem store_int (e : Operand → Value) (o : Oper) (w : World) (x y : Operand) (ho : o.op = .store 3 x y) (B i : Nat) (z : Int) (u : Value) (hx : e x = .pointer (some ⟨B, i, none⟩)) (hy : e y = .int .i64 z) (c : w.cell? ⟨B, i, none⟩ = some u) (f : w.frozen? ⟨B, i, none⟩ = false) :
   (execOp e o).run Tryz.prog w = .ok .skip (w.setCell ⟨B, i, none⟩ (.int .i64 z)) := by
  unfold execOp
  rw [ho]
  simp only [hx, hy]
  go_simp
theorem load_int (e : Operand → Value) (o : Oper) (w : World) (x : Operand) (ho : o.op = .load 3 x) (B i : Nat) (z : Int) (hx : e x = .pointer (some ⟨B, i, none⟩)) (c : w.cell? ⟨B, i, none⟩ = some (.int .i64 z)) :
   (execOp e o).run Tryz.prog w = .ok (.value (.int .i64 z)) w := by
  unfold execOp
  rw [ho]
  simp only [hx]
  go_simp
theorem wpList_done {P : Program} {ops : Array Oper} {rest : List Oper} {o : Oper} {a : Act} {w w' : World} {Q : Exit → Act → World → Prop} (hg : o.guard = none) (h : (execOp a.eval o).run P w = .ok .skip w') (hK : wpList P ops Q rest (a.put o.dst undef) w') : wpList P ops Q (o :: rest) a w :=
  wpList_plain hg fun K hK' => wp_skip h (hK' _ _ hK)
theorem store_there (e : Operand → Value) (o : Oper) (w : World) (x y : Operand) (ho : o.op = .store 3 x y) (B O n : Nat) (ht : w.there B O n) (j : Nat) (hj : j < n) (z : Int) (hx : e x = .pointer (some ⟨B, O + j, none⟩)) (hy : e y = .int .i64 z) :
   (execOp e o).run Tryz.prog w = .ok .skip (w.setCell ⟨B, O + j, none⟩ (.int .i64 z)) := by
  obtain ⟨h1, h2⟩ := ht j hj
  obtain ⟨u, hu⟩ := Option.isSome_iff_exists.1 h1
  exact store_int e o w x y ho B (O + j) z u hx hy hu h2
theorem store_str (e : Operand → Value) (o : Oper) (w : World) (x y : Operand) (ho : o.op = .store 9 x y) (B O n : Nat) (ht : w.there B O n) (j : Nat) (hj : j < n) (z : ByteArray) (hx : e x = .pointer (some ⟨B, O + j, none⟩)) (hy : e y = .string z) :
   (execOp e o).run Tryz.prog w = .ok .skip (w.setCell ⟨B, O + j, none⟩ (.string z)) := by
  obtain ⟨h1, h2⟩ := ht j hj
  obtain ⟨u, hu⟩ := Option.isSome_iff_exists.1 h1
  unfold execOp
  rw [ho]
  simp only [hx, hy]
  go_simp
theorem load_str (e : Operand → Value) (o : Oper) (w : World) (x : Operand) (ho : o.op = .load 9 x) (B i : Nat) (z : ByteArray) (hx : e x = .pointer (some ⟨B, i, none⟩)) (c : w.cell? ⟨B, i, none⟩ = some (.string z)) :
   (execOp e o).run Tryz.prog w = .ok (.value (.string z)) w := by
  unfold execOp
  rw [ho]
  simp only [hx]
  go_simp
theorem there_put {w : World} {B O n : Nat} (h : w.there B O n) (i : Nat) (u : Value) : (w.setCell ⟨B, i, none⟩ u).there B O n := World.there_setCells h B i [u]
theorem Tryz.infoRcd : (Tryz.prog.info? 83).map (fun i => (i.zero, i.size, i.bytes)) = some (some (.agg #[.string ⟨#[]⟩, .string ⟨#[]⟩, .string ⟨#[]⟩, .int .i64 0, .int .i64 0, .int .i64 0, .int .i64 0, .string ⟨#[]⟩]), 8, 96) := by kernel_rfl
theorem Tryz.rcdSize : (Tryz.prog.info? 83).map (·.size) = some 8 := by kernel_rfl
/-- Records with short strings and small numbers. -/
def RcdIn (r : Rcd) : Prop := r.id.length ≤ 100 ∧ r.fr.length ≤ 100 ∧ r.to_.length ≤ 100 ∧ r.carrier.length ≤ 100 ∧ (-2000000000000 ≤ r.at_ ∧ r.at_ ≤ 2000000000000) ∧ (-2000000000000 ≤ r.ring ∧ r.ring ≤ 2000000000000) ∧ (-2000000000000 ≤ r.talk ∧ r.talk ≤ 2000000000000) ∧ (-2000000000000 ≤ r.how ∧ r.how ≤ 2000000000000)
def RcdsIn (l : List Rcd) : Prop := ∀ x ∈ l, RcdIn x
theorem RcdsIn.snoc {l : List Rcd} {r : Rcd} (h : RcdsIn l) (hr : RcdIn r) : RcdsIn (l ++ [r]) := fun x hx => by
  rcases List.mem_append.1 hx with hx | hx
  · exact h x hx
  · rw [List.mem_singleton.1 hx]; exact hr
theorem RcdsIn.set {l : List Rcd} {r : Rcd} {i : Nat} (h : RcdsIn l) (hr : RcdIn r) : RcdsIn (l.set i r) := fun x hx => by
  rcases List.mem_or_eq_of_mem_set hx with hx | hx
  · exact h x hx
  · rw [hx]; exact hr
theorem rccells_snoc (l : List Rcd) (r : Rcd) : ((l ++ [r]).map Rcd.cells).flatten = (l.map Rcd.cells).flatten ++ Rcd.cells r := by simp
/-- What records that a stream hands out come to. -/
def OutPost (S k : Nat) (m : Nat) (w : World) (e : Ending) (w' : World) : Prop :=
  ∃ v l, e = .returned v ∧ w'.ownsRow w.heap.size 83 8 v l.length ((l.map Rcd.cells).flatten) ∧ l.length ≤ m ∧ RcdsIn l ∧ StreamOk w' S k ∧ Keeps S w w'
/-- The record with number r in a row. -/
structure RcdAt (w : World) (g r : Nat) (x : Rcd) : Prop where
  lt : g < w.heap.size
  c0 : w.cell? ⟨g, r * 8, none⟩ = some (.string ⟨x.id.toArray⟩)
  c1 : w.cell? ⟨g, r * 8 + 1, none⟩ = some (.string ⟨x.fr.toArray⟩)
  c2 : w.cell? ⟨g, r * 8 + 2, none⟩ = some (.string ⟨x.to_.toArray⟩)
  c3 : w.cell? ⟨g, r * 8 + 3, none⟩ = some (.int .i64 x.at_)
  c4 : w.cell? ⟨g, r * 8 + 4, none⟩ = some (.int .i64 x.ring)
  c5 : w.cell? ⟨g, r * 8 + 5, none⟩ = some (.int .i64 x.talk)
  c6 : w.cell? ⟨g, r * 8 + 6, none⟩ = some (.int .i64 x.how)
  c7 : w.cell? ⟨g, r * 8 + 7, none⟩ = some (.string ⟨x.carrier.toArray⟩)
  fr : ∀ j, w.frozen? ⟨g, j, none⟩ = false
theorem RcdAt.keeps {w w' : World} {g r S : Nat} {x : Rcd} (h : RcdAt w g r x) (hk : Keeps S w w') (hn : g ≠ S) : RcdAt w' g r x :=
  ⟨Nat.lt_of_lt_of_le h.lt hk.size, (hk.cell (p := ⟨g, r * 8, none⟩) h.lt hn).trans h.c0, (hk.cell (p := ⟨g, r * 8 + 1, none⟩) h.lt hn).trans h.c1, (hk.cell (p := ⟨g, r * 8 + 2, none⟩) h.lt hn).trans h.c2, (hk.cell (p := ⟨g, r * 8 + 3, none⟩) h.lt hn).trans h.c3, (hk.cell (p := ⟨g, r * 8 + 4, none⟩) h.lt hn).trans h.c4, (hk.cell (p := ⟨g, r * 8 + 5, none⟩) h.lt hn).trans h.c5, (hk.cell (p := ⟨g, r * 8 + 6, none⟩) h.lt hn).trans h.c6, (hk.cell (p := ⟨g, r * 8 + 7, none⟩) h.lt hn).trans h.c7, fun j => (hk.frozen (p := ⟨g, j, none⟩) h.lt hn).trans (h.fr j)⟩
theorem RcdAt.of {w : World} {base g n c : Nat} {e : TypeId} {l : List Rcd} (h : w.ownsRow base e 8 (.slice (some ⟨g, 0, none⟩) n c) n ((l.map Rcd.cells).flatten)) (r : Nat) (hr : r < l.length) (hg : g < w.heap.size) : RcdAt w g r (l.getD r noRcd) :=
  ⟨hg, by have := own_field Rcd.cells (fun _ => rfl) h r 0 noRcd (v := .string ⟨(l.getD r noRcd).id.toArray⟩) hr (by omega) rfl; rwa [Nat.add_zero] at this, own_field Rcd.cells (fun _ => rfl) h r 1 noRcd (v := .string ⟨(l.getD r noRcd).fr.toArray⟩) hr (by omega) rfl, own_field Rcd.cells (fun _ => rfl) h r 2 noRcd (v := .string ⟨(l.getD r noRcd).to_.toArray⟩) hr (by omega) rfl, own_field Rcd.cells (fun _ => rfl) h r 3 noRcd (v := .int .i64 (l.getD r noRcd).at_) hr (by omega) rfl, own_field Rcd.cells (fun _ => rfl) h r 4 noRcd (v := .int .i64 (l.getD r noRcd).ring) hr (by omega) rfl, own_field Rcd.cells (fun _ => rfl) h r 5 noRcd (v := .int .i64 (l.getD r noRcd).talk) hr (by omega) rfl, own_field Rcd.cells (fun _ => rfl) h r 6 noRcd (v := .int .i64 (l.getD r noRcd).how) hr (by omega) rfl, own_field Rcd.cells (fun _ => rfl) h r 7 noRcd (v := .string ⟨(l.getD r noRcd).carrier.toArray⟩) hr (by omega) rfl, own_soft1 h⟩
theorem RcdAt.th {w : World} {g r : Nat} {x : Rcd} (h : RcdAt w g r x) : w.there g (r * 8) 8 := fun j hj => by
  refine ⟨?_, h.fr _⟩
  match j, hj with
  | 0, _ => rw [Nat.add_zero, h.c0]; rfl
  | 1, _ => rw [h.c1]; rfl
  | 2, _ => rw [h.c2]; rfl
  | 3, _ => rw [h.c3]; rfl
  | 4, _ => rw [h.c4]; rfl
  | 5, _ => rw [h.c5]; rfl
  | 6, _ => rw [h.c6]; rfl
  | 7, _ => rw [h.c7]; rfl
theorem rcd_put6 {w : World} {base g n cp : Nat} {ty : TypeId} {l : List Rcd} (h : w.ownsRow base ty 8 (.slice (some ⟨g, 0, none⟩) n cp) n ((l.map Rcd.cells).flatten)) (r : Nat) (hr : r < l.length) (a b f : List UInt8) (c d e : Int) : ((World.setCell (World.setCell (World.setCell (World.setCell (World.setCell (World.setCell w ⟨g, r * 8, none⟩ (.string ⟨a.toArray⟩)) ⟨g, r * 8 + 2, none⟩ (.string ⟨b.toArray⟩)) ⟨g, r * 8 + 3, none⟩ (.int .i64 c)) ⟨g, r * 8 + 5, none⟩ (.int .i64 d)) ⟨g, r * 8 + 6, none⟩ (.int .i64 e)) ⟨g, r * 8 + 7, none⟩ (.string ⟨f.toArray⟩))).ownsRow base ty 8 (.slice (some ⟨g, 0, none⟩) n cp) n (((l.set r ⟨a, (l.getD r noRcd).fr, b, c, (l.getD r noRcd).ring, d, e, f⟩).map Rcd.cells).flatten) := by
  have h1 := own_put1 Rcd.cells (fun _ => rfl) h r 0 noRcd ⟨a, (l.getD r noRcd).fr, (l.getD r noRcd).to_, (l.getD r noRcd).at_, (l.getD r noRcd).ring, (l.getD r noRcd).talk, (l.getD r noRcd).how, (l.getD r noRcd).carrier⟩ (.string ⟨a.toArray⟩) hr (by omega) rfl
  rw [Nat.add_zero] at h1
  have h2 := own_put1 Rcd.cells (fun _ => rfl) h1 r 2 noRcd ⟨a, (l.getD r noRcd).fr, b, (l.getD r noRcd).at_, (l.getD r noRcd).ring, (l.getD r noRcd).talk, (l.getD r noRcd).how, (l.getD r noRcd).carrier⟩ (.string ⟨b.toArray⟩) (by simpa using hr) (by omega) (by simp [hr, Rcd.cells])
  rw [List.set_set] at h2
  have h3 := own_put1 Rcd.cells (fun _ => rfl) h2 r 3 noRcd ⟨a, (l.getD r noRcd).fr, b, c, (l.getD r noRcd).ring, (l.getD r noRcd).talk, (l.getD r noRcd).how, (l.getD r noRcd).carrier⟩ (.int .i64 c) (by simpa using hr) (by omega) (by simp [hr, Rcd.cells])
  rw [List.set_set] at h3
  have h4 := own_put1 Rcd.cells (fun _ => rfl) h3 r 5 noRcd ⟨a, (l.getD r noRcd).fr, b, c, (l.getD r noRcd).ring, d, (l.getD r noRcd).how, (l.getD r noRcd).carrier⟩ (.int .i64 d) (by simpa using hr) (by omega) (by simp [hr, Rcd.cells])
  rw [List.set_set] at h4
  have h5 := own_put1 Rcd.cells (fun _ => rfl) h4 r 6 noRcd ⟨a, (l.getD r noRcd).fr, b, c, (l.getD r noRcd).ring, d, e, (l.getD r noRcd).carrier⟩ (.int .i64 e) (by simpa using hr) (by omega) (by simp [hr, Rcd.cells])
  rw [List.set_set] at h5
  have h6 := own_put1 Rcd.cells (fun _ => rfl) h5 r 7 noRcd ⟨a, (l.getD r noRcd).fr, b, c, (l.getD r noRcd).ring, d, e, f⟩ (.string ⟨f.toArray⟩) (by simpa using hr) (by omega) (by simp [hr, Rcd.cells])
  rw [List.set_set] at h6
  exact h6
theorem sets_keeps {S g r : Nat} {w0 W : World} (h : Keeps S w0 W) (hg : w0.heap.size ≤ g) (v0 v2 v3 v5 v6 v7 : Value) : Keeps S w0 (World.setCell (World.setCell (World.setCell (World.setCell (World.setCell (World.setCell W ⟨g, r * 8, none⟩ v0) ⟨g, r * 8 + 2, none⟩ v2) ⟨g, r * 8 + 3, none⟩ v3) ⟨g, r * 8 + 5, none⟩ v5) ⟨g, r * 8 + 6, none⟩ v6) ⟨g, r * 8 + 7, none⟩ v7) :=
  (((((h.setCell_new (p := ⟨g, r * 8, none⟩) hg _).setCell_new (p := ⟨g, r * 8 + 2, none⟩) hg _).setCell_new (p := ⟨g, r * 8 + 3, none⟩) hg _).setCell_new (p := ⟨g, r * 8 + 5, none⟩) hg _).setCell_new (p := ⟨g, r * 8 + 6, none⟩) hg _).setCell_new (p := ⟨g, r * 8 + 7, none⟩) hg _
theorem sets_below {S g r : Nat} {W : World} (hg : S + 1 ≤ g) (v0 v2 v3 v5 v6 v7 : Value) : Below (S + 1) W (World.setCell (World.setCell (World.setCell (World.setCell (World.setCell (World.setCell W ⟨g, r * 8, none⟩ v0) ⟨g, r * 8 + 2, none⟩ v2) ⟨g, r * 8 + 3, none⟩ v3) ⟨g, r * 8 + 5, none⟩ v5) ⟨g, r * 8 + 6, none⟩ v6) ⟨g, r * 8 + 7, none⟩ v7) :=
  ((((((Below.refl (S + 1) W).setCell (p := ⟨g, r * 8, none⟩) hg _).setCell (p := ⟨g, r * 8 + 2, none⟩) hg _).setCell (p := ⟨g, r * 8 + 3, none⟩) hg _).setCell (p := ⟨g, r * 8 + 5, none⟩) hg _).setCell (p := ⟨g, r * 8 + 6, none⟩) hg _).setCell (p := ⟨g, r * 8 + 7, none⟩) hg _
set_option maxRecDepth 100000 in
set_option maxHeartbeats 80000000 in
theorem outside_any (S k m : Nat) (w : World) (h : StreamOk w S k) (hk : k ≤ 900000) (hm : m ≤ 20) (hT : TabW S w) : Calls Tryz.prog 7 #[.pointer (some ⟨S, 0, none⟩), .int .i64 m] w (OutPost S (k + 200) m w) := by
  obtain ⟨i1, hi1, hy0, hy1, hy2⟩ := info_parts Tryz.infoRcd
  have HS := Lib.hid h
  have HT := Lib.hid hT
  have hSW := h.lt
  clear h hT
  go_enter Tryz.func7, Tryz.ntmps7
  go_wp2_with fail
  refine (next_any S k 10 _ HS.out (by omega) (by omega) (by omega)).mono ?_
  rintro e w1 ⟨a0, rfl, a00, a01, hst, hk'⟩
  have HS1 := Lib.hid hst
  have HK1 := Lib.hid hk'
  have hW1 := hk'.size
  clear hst hk' HS
  as_aux_lemma =>
    go_wp2_with fail
    go_loopw [5, 6, 13] (fun vo va it wr => ∃ (i : Nat) (l : List Rcd) (at_ : Int), i ≤ m ∧ it = .int .i64 i ∧ l.length = i ∧ va = .int .i64 at_ ∧ 0 ≤ at_ ∧ at_ ≤ 10 + 30 * i ∧ Hid (RcdsIn l) ∧ Hid (wr.ownsRow w.heap.size 83 8 vo i ((l.map Rcd.cells).flatten)) ∧ w.heap.size ≤ wr.heap.size ∧ Hid (StreamOk wr S (k + 1 + 6 * i)) ∧ Hid (Keeps S w wr)) (fun _ _ it _ => m - (intOf it).toNat)
    case atStart => exact ⟨0, [], a0, Nat.zero_le _, rfl, rfl, rfl, by omega, by omega, (fun x hx => by cases hx), World.ownsRow_nil _ _ _ _, hW1, HS1.out, HK1.out⟩
    case round =>
      clear HS1 HK1 hW1
      obtain ⟨i, l, at_, hi, rfl, hli, rfl, ha0, ha1, HRI, HO, hWr, HS0, HK0⟩ := hrel
      have HLI := Lib.hid hli
      clear hli
      obtain ⟨oa, oc, rfl⟩ := own_shape HO.out
      by_cases hlt : i < m
      · have HIT := Lib.hid (Tryz.strconv_Itoa i (by omega) (by omega) wr (tab_keeps HT.out HK0.out hSW).1)
        have hil := Lib.itoa_length_le (i : Int) (by omega) (by omega)
        have HO0 := HO
        have HVW := Lib.hid (fun b (e : (Value.slice oa i oc).ownBlock = some b) => (HO.out.lt b e).1)
        generalize Lib.itoa (i : Int) = d at HIT hil
        clear HO
        skip
        as_aux_lemma =>
          go_wp2_with fail
          refine HIT.out.mono ?_
          rintro e w1 ⟨rfl, qn, os, hw1⟩
          have hBI : Below wr.heap.size wr w1 := by rw [hw1]; exact below_grow wr qn os
          have hk' : Keeps S wr w1 := Keeps.of_below hBI
          have hst := HS0.out.below hBI
          clear hw1 HIT hBI
          have HS1 := Lib.hid hst
          have HK1 := Lib.hid (HK0.out.trans hk')
          have HO1 := Lib.hid (own_keeps HO0.out hk' hSW)
          clear hst hk'
          clear HS0 HK0 HO0
          as_aux_lemma =>
            go_wp2_with ((refine wpList_val rfl (bl_out0 _ (fun _ => rfl) _ _  ⟨#[43, 52, 57, 51, 48, 49, 49, 49]⟩ ⟨#[43, 49, 50, 48, 50, 50, 50]⟩ rfl) ?_))
            generalize hid0 : (({ data := #[111] } : ByteArray) ++ { data := d.toArray }) = idb
            obtain ⟨sid, rfl, hidl⟩ : ∃ id : List UInt8, idb = ⟨id.toArray⟩ ∧ id.length ≤ 100 := ⟨idb.data.toList, by cases idb; rfl, by rw [← hid0]; simp; omega⟩
            clear hid0 hil
            refine (some_lit S (k + 1 + 6 * i) [[43, 52, 57, 51, 48, 49, 49, 49], [43, 49, 50, 48, 50, 50, 50]] (fun s => s.length ≤ 100) _ _ _ HS1.out (by omega) rfl rfl (by decide) (by decide) (by decide)).mono ?_
            rintro e w2 ⟨sf, rfl, hsf, hst, hk'⟩
            have HS2 := Lib.hid hst
            have HK2 := Lib.hid (HK1.out.trans hk')
            have HO2 := Lib.hid (own_keeps HO1.out hk' hSW)
            clear hst hk'
            clear HS1 HK1 HO1
            have hsf : sf.length ≤ 100 := hsf
            as_aux_lemma =>
              go_wp2_with ((refine wpList_val rfl (bl_out1 _ (fun _ => rfl) _ _  ⟨#[43, 52, 57, 51, 48, 49, 57, 57]⟩ ⟨#[43, 52, 57, 51, 48, 49]⟩ ⟨#[43, 52, 57, 52, 49, 50, 51]⟩ ⟨#[43, 49, 50, 48, 51, 51, 51]⟩ ⟨#[43, 53, 53, 49, 49]⟩ ⟨#[43, 55, 48, 48, 48]⟩ rfl) ?_))
              refine (some_lit S (k + 1 + 6 * i + 1) [[43, 52, 57, 51, 48, 49, 57, 57], [43, 52, 57, 51, 48, 49], [43, 52, 57, 52, 49, 50, 51], [43, 49, 50, 48, 51, 51, 51], [43, 53, 53, 49, 49], [43, 55, 48, 48, 48]] (fun s => s.length ≤ 100) _ _ _ HS2.out (by omega) rfl rfl (by decide) (by decide) (by decide)).mono ?_
              rintro e w3 ⟨sto, rfl, hsto, hst, hk'⟩
              have HS3 := Lib.hid hst
              have HK3 := Lib.hid (HK2.out.trans hk')
              have HO3 := Lib.hid (own_keeps HO2.out hk' hSW)
              clear hst hk'
              clear HS2 HK2 HO2
              have hsto : sto.length ≤ 100 := hsto
              as_aux_lemma =>
                go_wp2_with ((refine wpList_val rfl (bl_out2 _ (fun _ => rfl) _ _  0 5 20 rfl) ?_))
                refine (pick_lit S (k + 1 + 6 * i + 1 + 1) [0, 5, 20] (fun x => 0 ≤ x ∧ x ≤ 20) _ _ _ HS3.out (by omega) rfl rfl (by decide) (by decide) (by decide)).mono ?_
                rintro e w4 ⟨rg, rfl, ⟨rg0, rg1⟩, hst, hk'⟩
                have HS4 := Lib.hid hst
                have HK4 := Lib.hid (HK3.out.trans hk')
                have HO4 := Lib.hid (own_keeps HO3.out hk' hSW)
                clear hst hk'
                clear HS3 HK3 HO3
                as_aux_lemma =>
                  go_wp2_with ((refine wpList_val rfl (bl_out3 _ (fun _ => rfl) _ _  0 10 50 61000 rfl) ?_))
                  refine (pick_lit S (k + 1 + 6 * i + 1 + 1 + 1) [0, 10, 50, 61000] (fun x => 0 ≤ x ∧ x ≤ 61000) _ _ _ HS4.out (by omega) rfl rfl (by decide) (by decide) (by decide)).mono ?_
                  rintro e w5 ⟨tk, rfl, ⟨tk0, tk1⟩, hst, hk'⟩
                  have HS5 := Lib.hid hst
                  have HK5 := Lib.hid (HK4.out.trans hk')
                  have HO5 := Lib.hid (own_keeps HO4.out hk' hSW)
                  clear hst hk'
                  clear HS4 HK4 HO4
                  as_aux_lemma =>
                    go_wp2_with ((refine wpList_val rfl (bl_out4 _ (fun _ => rfl) _ _  ⟨#[120, 97]⟩ ⟨#[120, 98]⟩ ⟨#[120, 99]⟩ ⟨#[]⟩ rfl) ?_))
                    refine (some_lit S (k + 1 + 6 * i + 1 + 1 + 1 + 1) [[120, 97], [120, 98], [120, 99], []] (fun s => s.length ≤ 100) _ _ _ HS5.out (by omega) rfl rfl (by decide) (by decide) (by decide)).mono ?_
                    rintro e w6 ⟨sc, rfl, hsc, hst, hk'⟩
                    have HS6 := Lib.hid hst
                    have HK6 := Lib.hid (HK5.out.trans hk')
                    have HO6 := Lib.hid (own_keeps HO5.out hk' hSW)
                    clear hst hk'
                    clear HS5 HK5 HO5
                    have hsc : sc.length ≤ 100 := hsc
                    have hBw : w.heap.size ≤ w6.heap.size := HK6.out.size
                    have HTH : Hid ((w6.alloc (.cells #[.string ⟨#[]⟩, .string ⟨#[]⟩, .string ⟨#[]⟩, .int .i64 0, .int .i64 0, .int .i64 0, .int .i64 0, .string ⟨#[]⟩] 83)).there w6.heap.size 0 8) := (Blk.new w6 [.string ⟨#[]⟩, .string ⟨#[]⟩, .string ⟨#[]⟩, .int .i64 0, .int .i64 0, .int .i64 0, .int .i64 0, .string ⟨#[]⟩] 83).th 8 (by decide)
                    have HO6b := HO6
                    have HB7 : Hid (Blk (World.setCells (w6.alloc (.cells #[.string ⟨#[]⟩, .string ⟨#[]⟩, .string ⟨#[]⟩, .int .i64 0, .int .i64 0, .int .i64 0, .int .i64 0, .string ⟨#[]⟩] 83)) w6.heap.size 0 [.string ⟨sid.toArray⟩, .string ⟨sf.toArray⟩, .string ⟨sto.toArray⟩, .int .i64 at_, .int .i64 rg, .int .i64 tk, .int .i64 0, .string ⟨sc.toArray⟩]) w6.heap.size [.string ⟨sid.toArray⟩, .string ⟨sf.toArray⟩, .string ⟨sto.toArray⟩, .int .i64 at_, .int .i64 rg, .int .i64 tk, .int .i64 0, .string ⟨sc.toArray⟩] 83) := by
                      show Blk _ _ _ _
                      simp only [World.setCells]
                      exact ((((((((Blk.new w6 [.string ⟨#[]⟩, .string ⟨#[]⟩, .string ⟨#[]⟩, .int .i64 0, .int .i64 0, .int .i64 0, .int .i64 0, .string ⟨#[]⟩] 83).put 0 _).put 1 _).put 2 _).put 3 _).put 4 _).put 5 _).put 6 _).put 7 _
                    have hst : StreamOk (World.setCells (w6.alloc (.cells #[.string ⟨#[]⟩, .string ⟨#[]⟩, .string ⟨#[]⟩, .int .i64 0, .int .i64 0, .int .i64 0, .int .i64 0, .string ⟨#[]⟩] 83)) w6.heap.size 0 [.string ⟨sid.toArray⟩, .string ⟨sf.toArray⟩, .string ⟨sto.toArray⟩, .int .i64 at_, .int .i64 rg, .int .i64 tk, .int .i64 0, .string ⟨sc.toArray⟩]) S (k + 1 + 6 * i + 1 + 1 + 1 + 1 + 1) := (HS6.out.below (ext_alloc (Below.refl _ _))).upto (below_setCells HS6.out.lt _ _ _)
                    have hk' : Keeps S w6 (World.setCells (w6.alloc (.cells #[.string ⟨#[]⟩, .string ⟨#[]⟩, .string ⟨#[]⟩, .int .i64 0, .int .i64 0, .int .i64 0, .int .i64 0, .string ⟨#[]⟩] 83)) w6.heap.size 0 [.string ⟨sid.toArray⟩, .string ⟨sf.toArray⟩, .string ⟨sto.toArray⟩, .int .i64 at_, .int .i64 rg, .int .i64 tk, .int .i64 0, .string ⟨sc.toArray⟩]) := keeps_setCells (Nat.le_refl _) _ _ _ ((Keeps.refl _ _).alloc _)
                    have HS7 := Lib.hid hst
                    have HK7 := Lib.hid (HK6.out.trans hk')
                    have HO7 := Lib.hid (own_keeps HO6.out hk' hSW)
                    clear hst hk'
                    clear HS6 HK6 HO6
                    have hSB : S + 1 ≤ w6.heap.size := by omega
                    have hvw : ∀ b, (Value.slice oa i oc).ownBlock = some b → w.heap.size ≤ b := HVW.out
                    have hvB : (Value.slice oa i oc).ownBlock ≠ some w6.heap.size := fun e => by have := (HO6b.out.lt _ e).2; omega
                    clear HT
                    have HTK : Hid (0 ≤ tk ∧ tk ≤ 61000) := ⟨tk0, tk1⟩
                    have HRG : Hid (0 ≤ rg ∧ rg ≤ 20) := ⟨rg0, rg1⟩
                    clear tk0 tk1 rg0 rg1
                    by_cases htk : 0 < tk
                    · skip
                      skip
                      as_aux_lemma =>
                        go_wp2_with (refine wpList_val rfl (bu_rcd _ _ _ ⟨sid.toArray⟩ ⟨sf.toArray⟩ ⟨sto.toArray⟩ at_ rg tk ⟨sc.toArray⟩ rfl rfl rfl rfl rfl rfl rfl rfl) ?_; refine Hid.out ?_)
                        refine Lib.hid ?_
                        go_wp2_with (refine wpList_store_mid rfl 83 (.tmp 8) (.tmp 35) rfl w6.heap.size 0 #[.string ⟨sid.toArray⟩, .string ⟨sf.toArray⟩, .string ⟨sto.toArray⟩, .int .i64 at_, .int .i64 rg, .int .i64 tk, .int .i64 0, .string ⟨sc.toArray⟩] rfl rfl HTH.out Tryz.rcdSize (by simp [Value.oneCell']) ?_; generalize World.setCells (w6.alloc (.cells #[.string ⟨#[]⟩, .string ⟨#[]⟩, .string ⟨#[]⟩, .int .i64 0, .int .i64 0, .int .i64 0, .int .i64 0, .string ⟨#[]⟩] 83)) w6.heap.size 0 _ = w7 at HB7 HS7 HK7 HO7 ⊢; clear HTH; refine Hid.out ?_)
                        refine Lib.hid ?_
                        generalize w6.heap.size = B at HB7 hSB hvB hBw ⊢
                        have c6 := HB7.out.cell 6 rfl
                        have bf := HB7.out.fr
                        go_wp2_with (refine wpList_done rfl (store_int _ _ _ _ _ rfl B 6 2 _ rfl rfl c6 (bf 6)) ?_; refine Hid.out ?_)
                        refine Lib.hid ?_
                        clear c6 bf
                        have HB8 : Hid (Blk (w7.setCell ⟨B, 6, none⟩ (.int .i64 2)) B [.string ⟨sid.toArray⟩, .string ⟨sf.toArray⟩, .string ⟨sto.toArray⟩, .int .i64 at_, .int .i64 rg, .int .i64 tk, .int .i64 2, .string ⟨sc.toArray⟩] 83) := HB7.out.put 6 _
                        have HS8 : Hid (StreamOk (w7.setCell ⟨B, 6, none⟩ (.int .i64 2)) S (k + 1 + 6 * i + 1 + 1 + 1 + 1 + 1)) := HS7.out.upto ((Below.refl (S + 1) w7).setCell (p := ⟨B, 6, none⟩) hSB _)
                        have HK8 : Hid (Keeps S w (w7.setCell ⟨B, 6, none⟩ (.int .i64 2))) := HK7.out.setCell_new (p := ⟨B, 6, none⟩) hBw _
                        have HO8 : Hid (World.ownsRow (w7.setCell ⟨B, 6, none⟩ (.int .i64 2)) w.heap.size 83 8 (.slice oa i oc) i ((l.map Rcd.cells).flatten)) := own_set HO7.out hvB
                        clear HB7 HS7 HK7 HO7
                        generalize (w7.setCell ⟨B, 6, none⟩ (.int .i64 2)) = w8 at HB8 HS8 HK8 HO8 ⊢
                        have c5 := HB8.out.cell 5 rfl
                        go_wp2_with (refine wpList_val rfl (load_int _ _ _ _ rfl B 5 tk rfl c5) ?_; refine Hid.out ?_)
                        refine Lib.hid ?_
                        clear c5
                        have c6 := HB8.out.cell 6 rfl
                        have bf := HB8.out.fr
                        go_wp2_with (refine wpList_done rfl (store_int _ _ _ _ _ rfl B 6 1 _ rfl rfl c6 (bf 6)) ?_; refine Hid.out ?_)
                        refine Lib.hid ?_
                        clear c6 bf
                        have HB9 : Hid (Blk (w8.setCell ⟨B, 6, none⟩ (.int .i64 1)) B [.string ⟨sid.toArray⟩, .string ⟨sf.toArray⟩, .string ⟨sto.toArray⟩, .int .i64 at_, .int .i64 rg, .int .i64 tk, .int .i64 1, .string ⟨sc.toArray⟩] 83) := HB8.out.put 6 _
                        have HS9 : Hid (StreamOk (w8.setCell ⟨B, 6, none⟩ (.int .i64 1)) S (k + 1 + 6 * i + 1 + 1 + 1 + 1 + 1)) := HS8.out.upto ((Below.refl (S + 1) w8).setCell (p := ⟨B, 6, none⟩) hSB _)
                        have HK9 : Hid (Keeps S w (w8.setCell ⟨B, 6, none⟩ (.int .i64 1))) := HK8.out.setCell_new (p := ⟨B, 6, none⟩) hBw _
                        have HO9 : Hid (World.ownsRow (w8.setCell ⟨B, 6, none⟩ (.int .i64 1)) w.heap.size 83 8 (.slice oa i oc) i ((l.map Rcd.cells).flatten)) := own_set HO8.out hvB
                        clear HB8 HS8 HK8 HO8
                        generalize (w8.setCell ⟨B, 6, none⟩ (.int .i64 1)) = w9 at HB9 HS9 HK9 HO9 ⊢
                        have HRA : Hid (w9.rangeAt B 0 [.string ⟨sid.toArray⟩, .string ⟨sf.toArray⟩, .string ⟨sto.toArray⟩, .int .i64 at_, .int .i64 rg, .int .i64 tk, .int .i64 1, .string ⟨sc.toArray⟩]) := fun j v hj => by rw [Nat.zero_add]; exact HB9.out.cell j hj
                        have HO11 := Lib.hid (HO9.out.alloc (.cells #[.string ⟨sid.toArray⟩, .string ⟨sf.toArray⟩, .string ⟨sto.toArray⟩, .int .i64 at_, .int .i64 rg, .int .i64 tk, .int .i64 1, .string ⟨sc.toArray⟩] 83))
                        have HN11 : Hid (Blk (w9.alloc (.cells #[.string ⟨sid.toArray⟩, .string ⟨sf.toArray⟩, .string ⟨sto.toArray⟩, .int .i64 at_, .int .i64 rg, .int .i64 tk, .int .i64 1, .string ⟨sc.toArray⟩] 83)) w9.heap.size [.string ⟨sid.toArray⟩, .string ⟨sf.toArray⟩, .string ⟨sto.toArray⟩, .int .i64 at_, .int .i64 rg, .int .i64 tk, .int .i64 1, .string ⟨sc.toArray⟩] 83) := Blk.new w9 [.string ⟨sid.toArray⟩, .string ⟨sf.toArray⟩, .string ⟨sto.toArray⟩, .int .i64 at_, .int .i64 rg, .int .i64 tk, .int .i64 1, .string ⟨sc.toArray⟩] 83
                        have hW9 : w.heap.size ≤ w9.heap.size := HK9.out.size
                        go_wp2_with (refine wpList_load_mid rfl 83 (.tmp 8) rfl B 0 rfl [.string ⟨sid.toArray⟩, .string ⟨sf.toArray⟩, .string ⟨sto.toArray⟩, .int .i64 at_, .int .i64 rg, .int .i64 tk, .int .i64 1, .string ⟨sc.toArray⟩] _ HRA.out Tryz.underlying83 rfl Tryz.rcdSize ?_; refine Hid.out ?_)
                        refine Lib.hid ?_
                        go_wp2_with (refine wpList_val rfl (bl_out5 _ (fun _ => rfl) _ _ 42 ⟨sid.toArray⟩ ⟨sf.toArray⟩ ⟨sto.toArray⟩ at_ rg tk 1 ⟨sc.toArray⟩ rfl rfl) ?_; refine Hid.out ?_)
                        refine Lib.hid ?_
                        go_wp2_with (at_builtin; go_loud (refine wpList_append_own_at _ rfl (.tmp 41) (.tmp 43) 28 rfl w.heap.size 83 i1 _ 8 96 Tryz.underlying28 hi1 hy0 hy1 hy2 rfl (by omega) (.slice oa i oc) i _ rfl HO11.out ⟨w9.heap.size, 0, none⟩ 1 1 [.string ⟨sid.toArray⟩, .string ⟨sf.toArray⟩, .string ⟨sto.toArray⟩, .int .i64 at_, .int .i64 rg, .int .i64 tk, .int .i64 1, .string ⟨sc.toArray⟩] rfl rfl (fun j u hj => by rw [add0]; exact HN11.out.cell j hj) (by simp [Value.oneCell']) (by simp only [maxLen]; omega) (by omega) (by simp; omega) ?_); intro v12 w12 hown12 hgr12 _ hat12; have HQ1 := Lib.hid hown12; have HQ2 := Lib.hid hgr12; clear hown12 hgr12 hat12 HO11 HN11 ; refine Hid.out ?_)
                        refine Lib.hid ?_
                        go_wp2_with (refine wpList_val rfl (bl_out3 _ (fun _ => rfl) _ _  0 1 5 30 rfl) ?_)
                        have hown12 := HQ1.out
                        have hgr12 := HQ2.out
                        clear HQ1 HQ2
                        obtain ⟨tk0, tk1⟩ := HTK.out
                        obtain ⟨rg0, rg1⟩ := HRG.out
                        have HS12 : Hid (StreamOk w12 S (k + 1 + 6 * i + 1 + 1 + 1 + 1 + 1)) := HS9.out.upto (upto_grown hgr12 (by omega) (fun b e => by have := hvw b e; omega))
                        have HK12 : Hid (Keeps S w w12) := HK9.out.grown hgr12 hvw
                        have HO12 : Hid (w12.ownsRow w.heap.size 83 8 v12 (i + 1) (((l ++ [(⟨sid, sf, sto, at_, rg, tk, 1, sc⟩ : Rcd)]).map Rcd.cells).flatten)) := by
                          show World.ownsRow _ _ _ _ _ _ _
                          rw [rccells_snoc]
                          exact hown12
                        have HRN : Hid (RcdsIn (l ++ [(⟨sid, sf, sto, at_, rg, tk, 1, sc⟩ : Rcd)])) := HRI.out.snoc ⟨hidl, hsf, hsto, hsc, ⟨by show -2000000000000 ≤ at_; omega, by show at_ ≤ 2000000000000; omega⟩, ⟨by show -2000000000000 ≤ rg; omega, by show rg ≤ 2000000000000; omega⟩, ⟨by show (-2000000000000 : Int) ≤ tk; omega, by show (tk : Int) ≤ 2000000000000; omega⟩, ⟨by show (-2000000000000 : Int) ≤ 1; omega, by show (1 : Int) ≤ 2000000000000; omega⟩⟩
                        clear hown12 hgr12 HO9 HS9 HK9
                        refine (pick_lit S (k + 1 + 6 * i + 1 + 1 + 1 + 1 + 1) [0, 1, 5, 30] (fun x => 0 ≤ x ∧ x ≤ 30) _ _ _ HS12.out (by omega) rfl rfl (by decide) (by decide) (by decide)).mono ?_
                        rintro e w13 ⟨st, rfl, ⟨st0, st1⟩, hst, hk'⟩
                        have HS13 := Lib.hid hst
                        have HK13 := Lib.hid (HK12.out.trans hk')
                        have HO13 := Lib.hid (own_keeps HO12.out hk' hSW)
                        have wf : IntKind.i64.wrap (at_ + st) = at_ + st := IntWalk.i64_in _ (by omega)
                        have hz13 := HK13.out.size
                        clear hst hk' HS12 HK12 HO12
                        as_aux_lemma =>
                          go_wp2_with fail
                          go_roundw
                          case rel => exact ⟨i + 1, l ++ [(⟨sid, sf, sto, at_, rg, tk, 1, sc⟩ : Rcd)], at_ + st, by omega, by go_num, by rw [List.length_append, List.length_singleton, HLI.out], by go_num, by omega, by omega, HRN.out, HO13.out, hz13, HS13.out.mono (by omega), HK13.out⟩
                          case measure => simp [intOf]; omega
                    · have htk0 : tk ≤ 0 := by omega
                      clear htk
                      as_aux_lemma =>
                        go_wp2_with (refine wpList_val rfl (bu_rcd _ _ _ ⟨sid.toArray⟩ ⟨sf.toArray⟩ ⟨sto.toArray⟩ at_ rg tk ⟨sc.toArray⟩ rfl rfl rfl rfl rfl rfl rfl rfl) ?_; refine Hid.out ?_)
                        refine Lib.hid ?_
                        go_wp2_with (refine wpList_store_mid rfl 83 (.tmp 8) (.tmp 35) rfl w6.heap.size 0 #[.string ⟨sid.toArray⟩, .string ⟨sf.toArray⟩, .string ⟨sto.toArray⟩, .int .i64 at_, .int .i64 rg, .int .i64 tk, .int .i64 0, .string ⟨sc.toArray⟩] rfl rfl HTH.out Tryz.rcdSize (by simp [Value.oneCell']) ?_; generalize World.setCells (w6.alloc (.cells #[.string ⟨#[]⟩, .string ⟨#[]⟩, .string ⟨#[]⟩, .int .i64 0, .int .i64 0, .int .i64 0, .int .i64 0, .string ⟨#[]⟩] 83)) w6.heap.size 0 _ = w7 at HB7 HS7 HK7 HO7 ⊢; clear HTH; refine Hid.out ?_)
                        refine Lib.hid ?_
                        generalize w6.heap.size = B at HB7 hSB hvB hBw ⊢
                        have c6 := HB7.out.cell 6 rfl
                        have bf := HB7.out.fr
                        go_wp2_with (refine wpList_done rfl (store_int _ _ _ _ _ rfl B 6 2 _ rfl rfl c6 (bf 6)) ?_; refine Hid.out ?_)
                        refine Lib.hid ?_
                        clear c6 bf
                        have HB8 : Hid (Blk (w7.setCell ⟨B, 6, none⟩ (.int .i64 2)) B [.string ⟨sid.toArray⟩, .string ⟨sf.toArray⟩, .string ⟨sto.toArray⟩, .int .i64 at_, .int .i64 rg, .int .i64 tk, .int .i64 2, .string ⟨sc.toArray⟩] 83) := HB7.out.put 6 _
                        have HS8 : Hid (StreamOk (w7.setCell ⟨B, 6, none⟩ (.int .i64 2)) S (k + 1 + 6 * i + 1 + 1 + 1 + 1 + 1)) := HS7.out.upto ((Below.refl (S + 1) w7).setCell (p := ⟨B, 6, none⟩) hSB _)
                        have HK8 : Hid (Keeps S w (w7.setCell ⟨B, 6, none⟩ (.int .i64 2))) := HK7.out.setCell_new (p := ⟨B, 6, none⟩) hBw _
                        have HO8 : Hid (World.ownsRow (w7.setCell ⟨B, 6, none⟩ (.int .i64 2)) w.heap.size 83 8 (.slice oa i oc) i ((l.map Rcd.cells).flatten)) := own_set HO7.out hvB
                        clear HB7 HS7 HK7 HO7
                        generalize (w7.setCell ⟨B, 6, none⟩ (.int .i64 2)) = w8 at HB8 HS8 HK8 HO8 ⊢
                        have c5 := HB8.out.cell 5 rfl
                        go_wp2_with (refine wpList_val rfl (load_int _ _ _ _ rfl B 5 tk rfl c5) ?_; refine Hid.out ?_)
                        refine Lib.hid ?_
                        clear c5
                        have HRA : Hid (w8.rangeAt B 0 [.string ⟨sid.toArray⟩, .string ⟨sf.toArray⟩, .string ⟨sto.toArray⟩, .int .i64 at_, .int .i64 rg, .int .i64 tk, .int .i64 2, .string ⟨sc.toArray⟩]) := fun j v hj => by rw [Nat.zero_add]; exact HB8.out.cell j hj
                        have HO11 := Lib.hid (HO8.out.alloc (.cells #[.string ⟨sid.toArray⟩, .string ⟨sf.toArray⟩, .string ⟨sto.toArray⟩, .int .i64 at_, .int .i64 rg, .int .i64 tk, .int .i64 2, .string ⟨sc.toArray⟩] 83))
                        have HN11 : Hid (Blk (w8.alloc (.cells #[.string ⟨sid.toArray⟩, .string ⟨sf.toArray⟩, .string ⟨sto.toArray⟩, .int .i64 at_, .int .i64 rg, .int .i64 tk, .int .i64 2, .string ⟨sc.toArray⟩] 83)) w8.heap.size [.string ⟨sid.toArray⟩, .string ⟨sf.toArray⟩, .string ⟨sto.toArray⟩, .int .i64 at_, .int .i64 rg, .int .i64 tk, .int .i64 2, .string ⟨sc.toArray⟩] 83) := Blk.new w8 [.string ⟨sid.toArray⟩, .string ⟨sf.toArray⟩, .string ⟨sto.toArray⟩, .int .i64 at_, .int .i64 rg, .int .i64 tk, .int .i64 2, .string ⟨sc.toArray⟩] 83
                        have hW9 : w.heap.size ≤ w8.heap.size := HK8.out.size
                        go_wp2_with (refine wpList_load_mid rfl 83 (.tmp 8) rfl B 0 rfl [.string ⟨sid.toArray⟩, .string ⟨sf.toArray⟩, .string ⟨sto.toArray⟩, .int .i64 at_, .int .i64 rg, .int .i64 tk, .int .i64 2, .string ⟨sc.toArray⟩] _ HRA.out Tryz.underlying83 rfl Tryz.rcdSize ?_; refine Hid.out ?_)
                        refine Lib.hid ?_
                        go_wp2_with (refine wpList_val rfl (bl_out5 _ (fun _ => rfl) _ _ 42 ⟨sid.toArray⟩ ⟨sf.toArray⟩ ⟨sto.toArray⟩ at_ rg tk 2 ⟨sc.toArray⟩ rfl rfl) ?_; refine Hid.out ?_)
                        refine Lib.hid ?_
                        go_wp2_with (at_builtin; go_loud (refine wpList_append_own_at _ rfl (.tmp 41) (.tmp 43) 28 rfl w.heap.size 83 i1 _ 8 96 Tryz.underlying28 hi1 hy0 hy1 hy2 rfl (by omega) (.slice oa i oc) i _ rfl HO11.out ⟨w8.heap.size, 0, none⟩ 1 1 [.string ⟨sid.toArray⟩, .string ⟨sf.toArray⟩, .string ⟨sto.toArray⟩, .int .i64 at_, .int .i64 rg, .int .i64 tk, .int .i64 2, .string ⟨sc.toArray⟩] rfl rfl (fun j u hj => by rw [add0]; exact HN11.out.cell j hj) (by simp [Value.oneCell']) (by simp only [maxLen]; omega) (by omega) (by simp; omega) ?_); intro v12 w12 hown12 hgr12 _ hat12; have HQ1 := Lib.hid hown12; have HQ2 := Lib.hid hgr12; clear hown12 hgr12 hat12 HO11 HN11 ; refine Hid.out ?_)
                        refine Lib.hid ?_
                        go_wp2_with (refine wpList_val rfl (bl_out3 _ (fun _ => rfl) _ _  0 1 5 30 rfl) ?_)
                        have hown12 := HQ1.out
                        have hgr12 := HQ2.out
                        clear HQ1 HQ2
                        obtain ⟨tk0, tk1⟩ := HTK.out
                        obtain ⟨rg0, rg1⟩ := HRG.out
                        have HS12 : Hid (StreamOk w12 S (k + 1 + 6 * i + 1 + 1 + 1 + 1 + 1)) := HS8.out.upto (upto_grown hgr12 (by omega) (fun b e => by have := hvw b e; omega))
                        have HK12 : Hid (Keeps S w w12) := HK8.out.grown hgr12 hvw
                        have HO12 : Hid (w12.ownsRow w.heap.size 83 8 v12 (i + 1) (((l ++ [(⟨sid, sf, sto, at_, rg, tk, 2, sc⟩ : Rcd)]).map Rcd.cells).flatten)) := by
                          show World.ownsRow _ _ _ _ _ _ _
                          rw [rccells_snoc]
                          exact hown12
                        have HRN : Hid (RcdsIn (l ++ [(⟨sid, sf, sto, at_, rg, tk, 2, sc⟩ : Rcd)])) := HRI.out.snoc ⟨hidl, hsf, hsto, hsc, ⟨by show -2000000000000 ≤ at_; omega, by show at_ ≤ 2000000000000; omega⟩, ⟨by show -2000000000000 ≤ rg; omega, by show rg ≤ 2000000000000; omega⟩, ⟨by show (-2000000000000 : Int) ≤ tk; omega, by show (tk : Int) ≤ 2000000000000; omega⟩, ⟨by show (-2000000000000 : Int) ≤ 2; omega, by show (2 : Int) ≤ 2000000000000; omega⟩⟩
                        clear hown12 hgr12 HO8 HS8 HK8
                        refine (pick_lit S (k + 1 + 6 * i + 1 + 1 + 1 + 1 + 1) [0, 1, 5, 30] (fun x => 0 ≤ x ∧ x ≤ 30) _ _ _ HS12.out (by omega) rfl rfl (by decide) (by decide) (by decide)).mono ?_
                        rintro e w13 ⟨st, rfl, ⟨st0, st1⟩, hst, hk'⟩
                        have HS13 := Lib.hid hst
                        have HK13 := Lib.hid (HK12.out.trans hk')
                        have HO13 := Lib.hid (own_keeps HO12.out hk' hSW)
                        have wf : IntKind.i64.wrap (at_ + st) = at_ + st := IntWalk.i64_in _ (by omega)
                        have hz13 := HK13.out.size
                        clear hst hk' HS12 HK12 HO12
                        as_aux_lemma =>
                          go_wp2_with fail
                          go_roundw
                          case rel => exact ⟨i + 1, l ++ [(⟨sid, sf, sto, at_, rg, tk, 2, sc⟩ : Rcd)], at_ + st, by omega, by go_num, by rw [List.length_append, List.length_singleton, HLI.out], by go_num, by omega, by omega, HRN.out, HO13.out, hz13, HS13.out.mono (by omega), HK13.out⟩
                          case measure => simp [intOf]; omega
      · obtain rfl : i = m := by omega
        have HE0 : Hid (OutPost S (k + 200) i w (.returned (.slice oa i oc)) wr) := ⟨_, l, rfl, by rw [HLI.out]; exact HO.out, Nat.le_of_eq HLI.out, HRI.out, HS0.out.mono (by omega), HK0.out⟩
        clear hlt
        by_cases hi0 : i = 0
        · subst hi0
          skip
          as_aux_lemma =>
            go_wp2_with fail
            go_ret
            exact HE0.out
        obtain ⟨g, rfl, hg1, hg2⟩ := own_pos HO.out (by omega)
        have hgS : g ≠ S := by omega
        have hip : 0 < i := by omega
        clear hi0
        skip
        as_aux_lemma =>
          go_wp2_with fail
          refine (flip_any S (k + 1 + 6 * i) 15 _ HS0.out (by omega) (by decide) (by decide)).mono ?_
          rintro e wf ⟨fl, rfl, hst, hk'⟩
          have HSf := Lib.hid hst
          have HKf := Lib.hid hk'
          clear hst hk' HS0
          cases fl
          · have HE : Hid (OutPost S (k + 200) i w (.returned (.slice (some ⟨g, 0, none⟩) i oc)) wf) := ⟨_, l, rfl, by rw [HLI.out]; exact own_keeps HO.out HKf.out hSW, Nat.le_of_eq HLI.out, HRI.out, HSf.out.mono (by omega), HK0.out.trans HKf.out⟩
            clear HE0
            as_aux_lemma =>
              go_wp2_with fail
              go_ret
              exact HE.out
          clear HE0
          skip
          as_aux_lemma =>
            go_wp2_with fail
            refine (next_any S (k + 1 + 6 * i + 1) i _ HSf.out (by omega) (by omega) (by omega)).mono ?_
            rintro e wn ⟨r, rfl, r0, r1, hst, hk'⟩
            obtain ⟨r, rfl⟩ := Int.eq_ofNat_of_zero_le r0
            have hr : r < i := by omega
            have hrl : r < l.length := by rw [HLI.out]; exact hr
            have HS1 := Lib.hid hst
            have HR1 := Lib.hid (HKf.out.trans hk')
            clear hst hk' HSf HKf r0 r1
            have HA1 : Hid (RcdAt wn g r (l.getD r noRcd)) := (RcdAt.of HO.out r hrl hg2).keeps HR1.out hgS
            have HIN : Hid (RcdIn (l.getD r noRcd)) := HRI.out _ (mem_getD _ hrl)
            have HX : Hid (∀ (a b f : List UInt8) (c d e : Int) (W : World), a.length ≤ 100 → b.length ≤ 100 → f.length ≤ 100 → (-2000000000000 ≤ c ∧ c ≤ 2000000000000) → (-2000000000000 ≤ d ∧ d ≤ 2000000000000) → (-2000000000000 ≤ e ∧ e ≤ 2000000000000) → StreamOk W S (k + 1 + 6 * i + 8) → Keeps S wr W → OutPost S (k + 200) i w (.returned (.slice (some ⟨g, 0, none⟩) i oc)) (World.setCell (World.setCell (World.setCell (World.setCell (World.setCell (World.setCell W ⟨g, r * 8, none⟩ (.string ⟨a.toArray⟩)) ⟨g, r * 8 + 2, none⟩ (.string ⟨b.toArray⟩)) ⟨g, r * 8 + 3, none⟩ (.int .i64 c)) ⟨g, r * 8 + 5, none⟩ (.int .i64 d)) ⟨g, r * 8 + 6, none⟩ (.int .i64 e)) ⟨g, r * 8 + 7, none⟩ (.string ⟨f.toArray⟩))) := fun a b f c d e W ha hb hf hc hd he hst hk => by
              refine ⟨_, l.set r ⟨a, (l.getD r noRcd).fr, b, c, (l.getD r noRcd).ring, d, e, f⟩, rfl, ?_, ?_, ?_, ?_, ?_⟩
              · rw [List.length_set, HLI.out]; exact rcd_put6 (own_keeps HO.out hk hSW) r hrl a b f c d e
              · rw [List.length_set]; exact Nat.le_of_eq HLI.out
              · exact HRI.out.set ⟨ha, HIN.out.2.1, hb, hf, hc, HIN.out.2.2.2.2.2.1, hd, he⟩
              · exact (hst.mono (by omega)).upto (sets_below (by omega) _ _ _ _ _ _)
              · exact sets_keeps (HK0.out.trans hk) hg1 _ _ _ _ _ _
            generalize l.getD r noRcd = rc at HA1 HIN HX
            obtain ⟨xid, xfr, xto, xat, xring, xtalk, xhow, xcar⟩ := rc
            obtain ⟨n1, n2, n3, n4, n5, n6, n7, n8⟩ := HIN.out
            simp only at n1 n2 n3 n4 n5 n6 n7 n8
            clear HO HRI HK0 HIN
            as_aux_lemma =>
              go_upto_region 15 with (fail)
              refine region_pre S (k + 1 + 6 * i + 1 + 1) 1 48 [1, 2, 3, 4, 5] [(1, _, .pointer (some ⟨g, r * 8, none⟩)), (2, _, .pointer (some ⟨g, r * 8, none⟩)), (3, _, .pointer (some ⟨g, r * 8, none⟩)), (4, _, .pointer (some ⟨g, r * 8, none⟩)), (5, _, .pointer (some ⟨g, r * 8, none⟩))] [.val (fun v => .pointer (some ⟨g, r * 8, none⟩) = v), .val (fun v => .pointer (some ⟨g, r * 8, none⟩) = v), .val (fun v => .pointer (some ⟨g, r * 8, none⟩) = v), .val (fun v => .pointer (some ⟨g, r * 8, none⟩) = v), .val (fun v => .pointer (some ⟨g, r * 8, none⟩) = v), .val (fun v => .pointer (some ⟨g, r * 8, none⟩) = v), .val (fun v => .pointer (some ⟨S, 0, none⟩) = v), .val (fun v => .pointer (some ⟨g, r * 8, none⟩) = v), .val (fun v => .pointer (some ⟨g, r * 8, none⟩) = v), .val (fun v => .pointer (some ⟨g, r * 8, none⟩) = v), .val (fun v => .string ⟨xid.toArray⟩ = v), .arr 3 (· = [.string ⟨xid.toArray⟩, .string ⟨#[]⟩, .string ⟨#[111, 48]⟩]), .val (fun v => ∃ s1 : List UInt8, (s1.length ≤ 100) ∧ .string ⟨s1.toArray⟩ = v), .val (fun v => .pointer (some ⟨S, 0, none⟩) = v), .val (fun v => .pointer (some ⟨g, r * 8, none⟩) = v), .val (fun v => .pointer (some ⟨g, r * 8, none⟩) = v), .val (fun v => .pointer (some ⟨g, r * 8 + 2, none⟩) = v), .val (fun v => .string ⟨xto.toArray⟩ = v), .arr 2 (· = [.string ⟨xto.toArray⟩, .string ⟨#[120]⟩]), .val (fun v => ∃ s2 : List UInt8, (s2.length ≤ 100) ∧ .string ⟨s2.toArray⟩ = v), .val (fun v => .pointer (some ⟨S, 0, none⟩) = v), .val (fun v => .pointer (some ⟨g, r * 8, none⟩) = v), .val (fun v => .pointer (some ⟨g, r * 8, none⟩) = v), .val (fun v => .pointer (some ⟨g, r * 8 + 3, none⟩) = v), .val (fun v => .int .i64 xat = v), .arr 3 (· = [.int .i64 xat, .int .i64 (-1), .int .i64 0]), .val (fun v => ∃ z3 : Int, (-2000000000000 ≤ z3 ∧ z3 ≤ 2000000000000) ∧ .int .i64 z3 = v), .val (fun v => .pointer (some ⟨S, 0, none⟩) = v), .val (fun v => .pointer (some ⟨g, r * 8, none⟩) = v), .val (fun v => .pointer (some ⟨g, r * 8, none⟩) = v), .val (fun v => .pointer (some ⟨g, r * 8 + 5, none⟩) = v), .val (fun v => .int .i64 xtalk = v), .arr 3 (· = [.int .i64 xtalk, .int .i64 (-1), .int .i64 86400001]), .val (fun v => ∃ z4 : Int, (-2000000000000 ≤ z4 ∧ z4 ≤ 2000000000000) ∧ .int .i64 z4 = v), .val (fun v => .pointer (some ⟨S, 0, none⟩) = v), .val (fun v => .pointer (some ⟨g, r * 8, none⟩) = v), .val (fun v => .pointer (some ⟨g, r * 8, none⟩) = v), .val (fun v => .pointer (some ⟨g, r * 8 + 6, none⟩) = v), .val (fun v => .int .i64 xhow = v), .arr 3 (· = [.int .i64 xhow, .int .i64 0, .int .i64 5]), .val (fun v => ∃ z5 : Int, (-2000000000000 ≤ z5 ∧ z5 ≤ 2000000000000) ∧ .int .i64 z5 = v), .val (fun v => .pointer (some ⟨S, 0, none⟩) = v), .val (fun v => .pointer (some ⟨g, r * 8, none⟩) = v), .val (fun v => .pointer (some ⟨g, r * 8, none⟩) = v), .val (fun v => .pointer (some ⟨g, r * 8 + 7, none⟩) = v), .val (fun v => .string ⟨xcar.toArray⟩ = v), .arr 2 (· = [.string ⟨xcar.toArray⟩, .string ⟨#[120, 122]⟩]), .val (fun v => ∃ s6 : List UInt8, (s6.length ≤ 100) ∧ .string ⟨s6.toArray⟩ = v)] [12, 19, 26, 33, 40, 47] [some 64, some 65, some 66, some 67, some 68, some 69, some 70, some 71, some 72, some 73, some 74, some 75, some 76, some 77, some 78, some 79, some 80, some 81, some 82, some 83, some 84, some 85, some 86, some 87, some 88, some 89, some 90, some 91, some 92, some 93, some 94, some 95, some 96, some 97, some 98, some 99, some 100, some 101, some 102, some 103, some 104, some 105, some 106, some 107, some 108, some 109, some 110, some 111] (by kernel_rfl) (by kernel_rfl) rfl (by kernel_rfl) ⟨rfl, Or.inl ⟨rfl, fun W9 _ => by go_simp⟩, fun _ _ _ h => h, ⟨rfl, Or.inl ⟨rfl, fun W9 _ => by go_simp⟩, fun _ _ _ h => h, ⟨rfl, Or.inl ⟨rfl, fun W9 _ => by go_simp⟩, fun _ _ _ h => h, ⟨rfl, Or.inl ⟨rfl, fun W9 _ => by go_simp⟩, fun _ _ _ h => h, ⟨rfl, Or.inl ⟨rfl, fun W9 _ => by go_simp⟩, fun _ _ _ h => h, trivial⟩⟩⟩⟩⟩ (by kernel_rfl) (by kernel_rfl) (by kernel_rfl) (by kernel_rfl) (by kernel_rfl) (by kernel_rfl) rfl (by kernel_rfl) rfl HS1.out (by intro x hx s hs; simp only [List.mem_cons, List.not_mem_nil, or_false] at hx; rcases hx with rfl | rfl | rfl | rfl | rfl <;> (cases hs; rfl)) ⟨?_, ?_, ?_, ?_, ?_, ?_, ?_, ?_, ?_, ?_, ?_, ?_, ?_, ?_, ?_, ?_, ?_, ?_, ?_, ?_, ?_, ?_, ?_, ?_, ?_, ?_, ?_, ?_, ?_, ?_, ?_, ?_, ?_, ?_, ?_, ?_, ?_, ?_, ?_, ?_, ?_, ?_, ?_, ?_, ?_, ?_, ?_, ?_, trivial⟩ ?_
              · intro a w' c hk hst hc hfr hdp K hK
                as_aux_lemma =>
                  have E9 : a.eval (.tmp 9) = .pointer (some ⟨g, r * 8, none⟩) := fr_list hfr 9 (by kernel_rfl)
                  have d9 := slot_of E9
                  refine gen_pure (v := .pointer (some ⟨g, r * 8, none⟩)) ?_ (hK _ _ rfl (Keeps.refl _ _) hst)
                  clear hK hdp hfr
                  go_simp
              · intro a w' c hk hst hc hfr hdp K hK
                as_aux_lemma =>
                  have E9 : a.eval (.tmp 9) = .pointer (some ⟨g, r * 8, none⟩) := fr_list hfr 9 (by kernel_rfl)
                  have d9 := slot_of E9
                  refine gen_pure (v := .pointer (some ⟨g, r * 8, none⟩)) ?_ (hK _ _ rfl (Keeps.refl _ _) hst)
                  clear hK hdp hfr
                  go_simp
              · intro a w' c hk hst hc hfr hdp K hK
                as_aux_lemma =>
                  have E9 : a.eval (.tmp 9) = .pointer (some ⟨g, r * 8, none⟩) := fr_list hfr 9 (by kernel_rfl)
                  have d9 := slot_of E9
                  refine gen_pure (v := .pointer (some ⟨g, r * 8, none⟩)) ?_ (hK _ _ rfl (Keeps.refl _ _) hst)
                  clear hK hdp hfr
                  go_simp
              · intro a w' c hk hst hc hfr hdp K hK
                as_aux_lemma =>
                  have E9 : a.eval (.tmp 9) = .pointer (some ⟨g, r * 8, none⟩) := fr_list hfr 9 (by kernel_rfl)
                  have d9 := slot_of E9
                  refine gen_pure (v := .pointer (some ⟨g, r * 8, none⟩)) ?_ (hK _ _ rfl (Keeps.refl _ _) hst)
                  clear hK hdp hfr
                  go_simp
              · intro a w' c hk hst hc hfr hdp K hK
                as_aux_lemma =>
                  have E9 : a.eval (.tmp 9) = .pointer (some ⟨g, r * 8, none⟩) := fr_list hfr 9 (by kernel_rfl)
                  have d9 := slot_of E9
                  refine gen_pure (v := .pointer (some ⟨g, r * 8, none⟩)) ?_ (hK _ _ rfl (Keeps.refl _ _) hst)
                  clear hK hdp hfr
                  go_simp
              · intro a w' c hk hst hc hfr hdp K hK
                as_aux_lemma =>
                  have E9 : a.eval (.tmp 9) = .pointer (some ⟨g, r * 8, none⟩) := fr_list hfr 9 (by kernel_rfl)
                  have d9 := slot_of E9
                  refine gen_pure (v := .pointer (some ⟨g, r * 8, none⟩)) ?_ (hK _ _ rfl (Keeps.refl _ _) hst)
                  clear hK hdp hfr
                  go_simp
              · intro a w' c hk hst hc hfr hdp K hK
                as_aux_lemma =>
                  have E0 : a.eval (.tmp 0) = .pointer (some ⟨S, 0, none⟩) := fr_list hfr 0 (by kernel_rfl)
                  have d0 := slot_of E0
                  refine gen_pure (v := .pointer (some ⟨S, 0, none⟩)) ?_ (hK _ _ rfl (Keeps.refl _ _) hst)
                  clear hK hdp hfr
                  go_simp
              · intro a w' c hk hst hc hfr hdp K hK
                as_aux_lemma =>
                  have E9 : a.eval (.tmp 9) = .pointer (some ⟨g, r * 8, none⟩) := fr_list hfr 9 (by kernel_rfl)
                  have d9 := slot_of E9
                  refine gen_pure (v := .pointer (some ⟨g, r * 8, none⟩)) ?_ (hK _ _ rfl (Keeps.refl _ _) hst)
                  clear hK hdp hfr
                  go_simp
              · intro a w' c hk hst hc hfr hdp K hK
                as_aux_lemma =>
                  have E71 : a.eval (.tmp 71) = .pointer (some ⟨g, r * 8, none⟩) := Eq.symm (hdp 7 71 _ (by kernel_rfl) (by kernel_rfl) rfl)
                  have d71 := slot_of E71
                  refine gen_pure (v := .pointer (some ⟨g, r * 8, none⟩)) ?_ (hK _ _ rfl (Keeps.refl _ _) hst)
                  clear hK hdp hfr
                  go_simp
              · intro a w' c hk hst hc hfr hdp K hK
                as_aux_lemma =>
                  have E72 : a.eval (.tmp 72) = .pointer (some ⟨g, r * 8, none⟩) := Eq.symm (hdp 8 72 _ (by kernel_rfl) (by kernel_rfl) rfl)
                  have d72 := slot_of E72
                  refine gen_pure (v := .pointer (some ⟨g, r * 8, none⟩)) ?_ (hK _ _ rfl (Keeps.refl _ _) hst)
                  clear hK hdp hfr
                  go_simp
              · intro a w' c hk hst hc hfr hdp K hK
                as_aux_lemma =>
                  have E73 : a.eval (.tmp 73) = .pointer (some ⟨g, r * 8, none⟩) := Eq.symm (hdp 9 73 _ (by kernel_rfl) (by kernel_rfl) rfl)
                  have d73 := slot_of E73
                  have cl : w'.cell? ⟨g, r * 8, none⟩ = some (.string ⟨xid.toArray⟩) := (hk.cell (p := ⟨g, r * 8, none⟩) HA1.out.lt hgS).trans HA1.out.c0
                  refine gen_pure (v := .string ⟨xid.toArray⟩) ?_ (hK _ _ rfl (Keeps.refl _ _) hst)
                  clear hK hdp hfr
                  go_simp
              · intro a w' c hk hst hc hfr hdp K hK
                as_aux_lemma =>
                  have E74 : a.eval (.tmp 74) = .string ⟨xid.toArray⟩ := Eq.symm (hdp 10 74 _ (by kernel_rfl) (by kernel_rfl) rfl)
                  have d74 := slot_of E74
                  exact gen_alloc (p := (· = ([.string ⟨xid.toArray⟩, .string ⟨#[]⟩, .string ⟨#[111, 48]⟩] : List Value))) #[.string ⟨xid.toArray⟩, .string ⟨#[]⟩, .string ⟨#[111, 48]⟩] 9 (bs_string_ts_cs2 _ (fun _ => rfl) _ _ _ _ _ _ rfl E74) rfl hst hK
              · intro a w' c hk hst hc hfr hdp K hK
                as_aux_lemma =>
                  have E70 : a.eval (.tmp 70) = .pointer (some ⟨S, 0, none⟩) := Eq.symm (hdp 6 70 _ (by kernel_rfl) (by kernel_rfl) rfl)
                  have d70 := slot_of E70
                  have d75 := hdp 11 75 _ (by kernel_rfl) (by kernel_rfl) rfl
                  have hc2 : c + 1 ≤ 6 := hc
                  generalize hv2 : a.eval (.tmp 75) = v2 at d75
                  have d3 := slot_of hv2
                  clear hv2
                  refine gen_call 26 #[.pointer (some ⟨S, 0, none⟩), v2] ?_ (calls_some S _ v2 [xid, [], [111, 48]] (fun s1 => s1.length ≤ 100) w' hst (by omega) d75 (by first | decide | simp) (by first | decide | simp) (by intro q hq; simp only [List.mem_cons, List.not_mem_nil, or_false] at hq; rcases hq with rfl | rfl | rfl <;> first | assumption | decide)) ?_
                  · clear hK hdp hfr; go_simp
                  rintro e w'' ⟨r, rfl, hr, hst2, hkp⟩
                  exact ⟨_, rfl, hK _ _ ⟨r, hr, rfl⟩ hkp (hst2.mono (by simp; omega))⟩
              · intro a w' c hk hst hc hfr hdp K hK
                as_aux_lemma =>
                  have E0 : a.eval (.tmp 0) = .pointer (some ⟨S, 0, none⟩) := fr_list hfr 0 (by kernel_rfl)
                  have d0 := slot_of E0
                  refine gen_pure (v := .pointer (some ⟨S, 0, none⟩)) ?_ (hK _ _ rfl (Keeps.refl _ _) hst)
                  clear hK hdp hfr
                  go_simp
              · intro a w' c hk hst hc hfr hdp K hK
                as_aux_lemma =>
                  have E9 : a.eval (.tmp 9) = .pointer (some ⟨g, r * 8, none⟩) := fr_list hfr 9 (by kernel_rfl)
                  have d9 := slot_of E9
                  refine gen_pure (v := .pointer (some ⟨g, r * 8, none⟩)) ?_ (hK _ _ rfl (Keeps.refl _ _) hst)
                  clear hK hdp hfr
                  go_simp
              · intro a w' c hk hst hc hfr hdp K hK
                as_aux_lemma =>
                  have E78 : a.eval (.tmp 78) = .pointer (some ⟨g, r * 8, none⟩) := Eq.symm (hdp 14 78 _ (by kernel_rfl) (by kernel_rfl) rfl)
                  have d78 := slot_of E78
                  refine gen_pure (v := .pointer (some ⟨g, r * 8, none⟩)) ?_ (hK _ _ rfl (Keeps.refl _ _) hst)
                  clear hK hdp hfr
                  go_simp
              · intro a w' c hk hst hc hfr hdp K hK
                as_aux_lemma =>
                  have E79 : a.eval (.tmp 79) = .pointer (some ⟨g, r * 8, none⟩) := Eq.symm (hdp 15 79 _ (by kernel_rfl) (by kernel_rfl) rfl)
                  have d79 := slot_of E79
                  refine gen_pure (v := .pointer (some ⟨g, r * 8 + 2, none⟩)) ?_ (hK _ _ rfl (Keeps.refl _ _) hst)
                  clear hK hdp hfr
                  go_simp
              · intro a w' c hk hst hc hfr hdp K hK
                as_aux_lemma =>
                  have E80 : a.eval (.tmp 80) = .pointer (some ⟨g, r * 8 + 2, none⟩) := Eq.symm (hdp 16 80 _ (by kernel_rfl) (by kernel_rfl) rfl)
                  have d80 := slot_of E80
                  have cl : w'.cell? ⟨g, r * 8 + 2, none⟩ = some (.string ⟨xto.toArray⟩) := (hk.cell (p := ⟨g, r * 8 + 2, none⟩) HA1.out.lt hgS).trans HA1.out.c2
                  refine gen_pure (v := .string ⟨xto.toArray⟩) ?_ (hK _ _ rfl (Keeps.refl _ _) hst)
                  clear hK hdp hfr
                  go_simp
              · intro a w' c hk hst hc hfr hdp K hK
                as_aux_lemma =>
                  have E81 : a.eval (.tmp 81) = .string ⟨xto.toArray⟩ := Eq.symm (hdp 17 81 _ (by kernel_rfl) (by kernel_rfl) rfl)
                  have d81 := slot_of E81
                  exact gen_alloc (p := (· = ([.string ⟨xto.toArray⟩, .string ⟨#[120]⟩] : List Value))) #[.string ⟨xto.toArray⟩, .string ⟨#[120]⟩] 9 (bs_string_ts_cs _ (fun _ => rfl) _ _ _ _ _ rfl E81) rfl hst hK
              · intro a w' c hk hst hc hfr hdp K hK
                as_aux_lemma =>
                  have E77 : a.eval (.tmp 77) = .pointer (some ⟨S, 0, none⟩) := Eq.symm (hdp 13 77 _ (by kernel_rfl) (by kernel_rfl) rfl)
                  have d77 := slot_of E77
                  have d82 := hdp 18 82 _ (by kernel_rfl) (by kernel_rfl) rfl
                  have hc2 : c + 1 ≤ 6 := hc
                  generalize hv2 : a.eval (.tmp 82) = v2 at d82
                  have d3 := slot_of hv2
                  clear hv2
                  refine gen_call 26 #[.pointer (some ⟨S, 0, none⟩), v2] ?_ (calls_some S _ v2 [xto, [120]] (fun s2 => s2.length ≤ 100) w' hst (by omega) d82 (by first | decide | simp) (by first | decide | simp) (by intro q hq; simp only [List.mem_cons, List.not_mem_nil, or_false] at hq; rcases hq with rfl | rfl <;> first | assumption | decide)) ?_
                  · clear hK hdp hfr; go_simp
                  rintro e w'' ⟨r, rfl, hr, hst2, hkp⟩
                  exact ⟨_, rfl, hK _ _ ⟨r, hr, rfl⟩ hkp (hst2.mono (by simp; omega))⟩
              · intro a w' c hk hst hc hfr hdp K hK
                as_aux_lemma =>
                  have E0 : a.eval (.tmp 0) = .pointer (some ⟨S, 0, none⟩) := fr_list hfr 0 (by kernel_rfl)
                  have d0 := slot_of E0
                  refine gen_pure (v := .pointer (some ⟨S, 0, none⟩)) ?_ (hK _ _ rfl (Keeps.refl _ _) hst)
                  clear hK hdp hfr
                  go_simp
              · intro a w' c hk hst hc hfr hdp K hK
                as_aux_lemma =>
                  have E9 : a.eval (.tmp 9) = .pointer (some ⟨g, r * 8, none⟩) := fr_list hfr 9 (by kernel_rfl)
                  have d9 := slot_of E9
                  refine gen_pure (v := .pointer (some ⟨g, r * 8, none⟩)) ?_ (hK _ _ rfl (Keeps.refl _ _) hst)
                  clear hK hdp hfr
                  go_simp
              · intro a w' c hk hst hc hfr hdp K hK
                as_aux_lemma =>
                  have E85 : a.eval (.tmp 85) = .pointer (some ⟨g, r * 8, none⟩) := Eq.symm (hdp 21 85 _ (by kernel_rfl) (by kernel_rfl) rfl)
                  have d85 := slot_of E85
                  refine gen_pure (v := .pointer (some ⟨g, r * 8, none⟩)) ?_ (hK _ _ rfl (Keeps.refl _ _) hst)
                  clear hK hdp hfr
                  go_simp
              · intro a w' c hk hst hc hfr hdp K hK
                as_aux_lemma =>
                  have E86 : a.eval (.tmp 86) = .pointer (some ⟨g, r * 8, none⟩) := Eq.symm (hdp 22 86 _ (by kernel_rfl) (by kernel_rfl) rfl)
                  have d86 := slot_of E86
                  refine gen_pure (v := .pointer (some ⟨g, r * 8 + 3, none⟩)) ?_ (hK _ _ rfl (Keeps.refl _ _) hst)
                  clear hK hdp hfr
                  go_simp
              · intro a w' c hk hst hc hfr hdp K hK
                as_aux_lemma =>
                  have E87 : a.eval (.tmp 87) = .pointer (some ⟨g, r * 8 + 3, none⟩) := Eq.symm (hdp 23 87 _ (by kernel_rfl) (by kernel_rfl) rfl)
                  have d87 := slot_of E87
                  have cl : w'.cell? ⟨g, r * 8 + 3, none⟩ = some (.int .i64 xat) := (hk.cell (p := ⟨g, r * 8 + 3, none⟩) HA1.out.lt hgS).trans HA1.out.c3
                  refine gen_pure (v := .int .i64 xat) ?_ (hK _ _ rfl (Keeps.refl _ _) hst)
                  clear hK hdp hfr
                  go_simp
              · intro a w' c hk hst hc hfr hdp K hK
                as_aux_lemma =>
                  have E88 : a.eval (.tmp 88) = .int .i64 xat := Eq.symm (hdp 24 88 _ (by kernel_rfl) (by kernel_rfl) rfl)
                  have d88 := slot_of E88
                  exact gen_alloc (p := (· = ([.int .i64 xat, .int .i64 (-1), .int .i64 0] : List Value))) #[.int .i64 xat, .int .i64 (-1), .int .i64 0] 3 (bs_int_ti_ci2 _ (fun _ => rfl) _ _ _ _ _ _ rfl E88) rfl hst hK
              · intro a w' c hk hst hc hfr hdp K hK
                as_aux_lemma =>
                  have E84 : a.eval (.tmp 84) = .pointer (some ⟨S, 0, none⟩) := Eq.symm (hdp 20 84 _ (by kernel_rfl) (by kernel_rfl) rfl)
                  have d84 := slot_of E84
                  have d89 := hdp 25 89 _ (by kernel_rfl) (by kernel_rfl) rfl
                  have hc2 : c + 1 ≤ 6 := hc
                  generalize hv2 : a.eval (.tmp 89) = v2 at d89
                  have d3 := slot_of hv2
                  clear hv2
                  refine gen_call 11 #[.pointer (some ⟨S, 0, none⟩), v2] ?_ (calls_pick S _ v2 [xat, (-1), 0] (fun z3 => -2000000000000 ≤ z3 ∧ z3 ≤ 2000000000000) w' hst (by omega) d89 (by first | decide | simp) (by first | decide | simp) (by intro q hq; simp only [List.mem_cons, List.not_mem_nil, or_false] at hq; rcases hq with rfl | rfl | rfl <;> first | assumption | exact ⟨by omega, by omega⟩)) ?_
                  · clear hK hdp hfr; go_simp
                  rintro e w'' ⟨r, rfl, hr, hst2, hkp⟩
                  exact ⟨_, rfl, hK _ _ ⟨r, hr, rfl⟩ hkp (hst2.mono (by simp; omega))⟩
              · intro a w' c hk hst hc hfr hdp K hK
                as_aux_lemma =>
                  have E0 : a.eval (.tmp 0) = .pointer (some ⟨S, 0, none⟩) := fr_list hfr 0 (by kernel_rfl)
                  have d0 := slot_of E0
                  refine gen_pure (v := .pointer (some ⟨S, 0, none⟩)) ?_ (hK _ _ rfl (Keeps.refl _ _) hst)
                  clear hK hdp hfr
                  go_simp
              · intro a w' c hk hst hc hfr hdp K hK
                as_aux_lemma =>
                  have E9 : a.eval (.tmp 9) = .pointer (some ⟨g, r * 8, none⟩) := fr_list hfr 9 (by kernel_rfl)
                  have d9 := slot_of E9
                  refine gen_pure (v := .pointer (some ⟨g, r * 8, none⟩)) ?_ (hK _ _ rfl (Keeps.refl _ _) hst)
                  clear hK hdp hfr
                  go_simp
              · intro a w' c hk hst hc hfr hdp K hK
                as_aux_lemma =>
                  have E92 : a.eval (.tmp 92) = .pointer (some ⟨g, r * 8, none⟩) := Eq.symm (hdp 28 92 _ (by kernel_rfl) (by kernel_rfl) rfl)
                  have d92 := slot_of E92
                  refine gen_pure (v := .pointer (some ⟨g, r * 8, none⟩)) ?_ (hK _ _ rfl (Keeps.refl _ _) hst)
                  clear hK hdp hfr
                  go_simp
              · intro a w' c hk hst hc hfr hdp K hK
                as_aux_lemma =>
                  have E93 : a.eval (.tmp 93) = .pointer (some ⟨g, r * 8, none⟩) := Eq.symm (hdp 29 93 _ (by kernel_rfl) (by kernel_rfl) rfl)
                  have d93 := slot_of E93
                  refine gen_pure (v := .pointer (some ⟨g, r * 8 + 5, none⟩)) ?_ (hK _ _ rfl (Keeps.refl _ _) hst)
                  clear hK hdp hfr
                  go_simp
              · intro a w' c hk hst hc hfr hdp K hK
                as_aux_lemma =>
                  have E94 : a.eval (.tmp 94) = .pointer (some ⟨g, r * 8 + 5, none⟩) := Eq.symm (hdp 30 94 _ (by kernel_rfl) (by kernel_rfl) rfl)
                  have d94 := slot_of E94
                  have cl : w'.cell? ⟨g, r * 8 + 5, none⟩ = some (.int .i64 xtalk) := (hk.cell (p := ⟨g, r * 8 + 5, none⟩) HA1.out.lt hgS).trans HA1.out.c5
                  refine gen_pure (v := .int .i64 xtalk) ?_ (hK _ _ rfl (Keeps.refl _ _) hst)
                  clear hK hdp hfr
                  go_simp
              · intro a w' c hk hst hc hfr hdp K hK
                as_aux_lemma =>
                  have E95 : a.eval (.tmp 95) = .int .i64 xtalk := Eq.symm (hdp 31 95 _ (by kernel_rfl) (by kernel_rfl) rfl)
                  have d95 := slot_of E95
                  exact gen_alloc (p := (· = ([.int .i64 xtalk, .int .i64 (-1), .int .i64 86400001] : List Value))) #[.int .i64 xtalk, .int .i64 (-1), .int .i64 86400001] 3 (bs_int_ti_ci2 _ (fun _ => rfl) _ _ _ _ _ _ rfl E95) rfl hst hK
              · intro a w' c hk hst hc hfr hdp K hK
                as_aux_lemma =>
                  have E91 : a.eval (.tmp 91) = .pointer (some ⟨S, 0, none⟩) := Eq.symm (hdp 27 91 _ (by kernel_rfl) (by kernel_rfl) rfl)
                  have d91 := slot_of E91
                  have d96 := hdp 32 96 _ (by kernel_rfl) (by kernel_rfl) rfl
                  have hc2 : c + 1 ≤ 6 := hc
                  generalize hv2 : a.eval (.tmp 96) = v2 at d96
                  have d3 := slot_of hv2
                  clear hv2
                  refine gen_call 11 #[.pointer (some ⟨S, 0, none⟩), v2] ?_ (calls_pick S _ v2 [xtalk, (-1), 86400001] (fun z4 => -2000000000000 ≤ z4 ∧ z4 ≤ 2000000000000) w' hst (by omega) d96 (by first | decide | simp) (by first | decide | simp) (by intro q hq; simp only [List.mem_cons, List.not_mem_nil, or_false] at hq; rcases hq with rfl | rfl | rfl <;> first | assumption | exact ⟨by omega, by omega⟩)) ?_
                  · clear hK hdp hfr; go_simp
                  rintro e w'' ⟨r, rfl, hr, hst2, hkp⟩
                  exact ⟨_, rfl, hK _ _ ⟨r, hr, rfl⟩ hkp (hst2.mono (by simp; omega))⟩
              · intro a w' c hk hst hc hfr hdp K hK
                as_aux_lemma =>
                  have E0 : a.eval (.tmp 0) = .pointer (some ⟨S, 0, none⟩) := fr_list hfr 0 (by kernel_rfl)
                  have d0 := slot_of E0
                  refine gen_pure (v := .pointer (some ⟨S, 0, none⟩)) ?_ (hK _ _ rfl (Keeps.refl _ _) hst)
                  clear hK hdp hfr
                  go_simp
              · intro a w' c hk hst hc hfr hdp K hK
                as_aux_lemma =>
                  have E9 : a.eval (.tmp 9) = .pointer (some ⟨g, r * 8, none⟩) := fr_list hfr 9 (by kernel_rfl)
                  have d9 := slot_of E9
                  refine gen_pure (v := .pointer (some ⟨g, r * 8, none⟩)) ?_ (hK _ _ rfl (Keeps.refl _ _) hst)
                  clear hK hdp hfr
                  go_simp
              · intro a w' c hk hst hc hfr hdp K hK
                as_aux_lemma =>
                  have E99 : a.eval (.tmp 99) = .pointer (some ⟨g, r * 8, none⟩) := Eq.symm (hdp 35 99 _ (by kernel_rfl) (by kernel_rfl) rfl)
                  have d99 := slot_of E99
                  refine gen_pure (v := .pointer (some ⟨g, r * 8, none⟩)) ?_ (hK _ _ rfl (Keeps.refl _ _) hst)
                  clear hK hdp hfr
                  go_simp
              · intro a w' c hk hst hc hfr hdp K hK
                as_aux_lemma =>
                  have E100 : a.eval (.tmp 100) = .pointer (some ⟨g, r * 8, none⟩) := Eq.symm (hdp 36 100 _ (by kernel_rfl) (by kernel_rfl) rfl)
                  have d100 := slot_of E100
                  refine gen_pure (v := .pointer (some ⟨g, r * 8 + 6, none⟩)) ?_ (hK _ _ rfl (Keeps.refl _ _) hst)
                  clear hK hdp hfr
                  go_simp
              · intro a w' c hk hst hc hfr hdp K hK
                as_aux_lemma =>
                  have E101 : a.eval (.tmp 101) = .pointer (some ⟨g, r * 8 + 6, none⟩) := Eq.symm (hdp 37 101 _ (by kernel_rfl) (by kernel_rfl) rfl)
                  have d101 := slot_of E101
                  have cl : w'.cell? ⟨g, r * 8 + 6, none⟩ = some (.int .i64 xhow) := (hk.cell (p := ⟨g, r * 8 + 6, none⟩) HA1.out.lt hgS).trans HA1.out.c6
                  refine gen_pure (v := .int .i64 xhow) ?_ (hK _ _ rfl (Keeps.refl _ _) hst)
                  clear hK hdp hfr
                  go_simp
              · intro a w' c hk hst hc hfr hdp K hK
                as_aux_lemma =>
                  have E102 : a.eval (.tmp 102) = .int .i64 xhow := Eq.symm (hdp 38 102 _ (by kernel_rfl) (by kernel_rfl) rfl)
                  have d102 := slot_of E102
                  exact gen_alloc (p := (· = ([.int .i64 xhow, .int .i64 0, .int .i64 5] : List Value))) #[.int .i64 xhow, .int .i64 0, .int .i64 5] 3 (bs_int_ti_ci2 _ (fun _ => rfl) _ _ _ _ _ _ rfl E102) rfl hst hK
              · intro a w' c hk hst hc hfr hdp K hK
                as_aux_lemma =>
                  have E98 : a.eval (.tmp 98) = .pointer (some ⟨S, 0, none⟩) := Eq.symm (hdp 34 98 _ (by kernel_rfl) (by kernel_rfl) rfl)
                  have d98 := slot_of E98
                  have d103 := hdp 39 103 _ (by kernel_rfl) (by kernel_rfl) rfl
                  have hc2 : c + 1 ≤ 6 := hc
                  generalize hv2 : a.eval (.tmp 103) = v2 at d103
                  have d3 := slot_of hv2
                  clear hv2
                  refine gen_call 11 #[.pointer (some ⟨S, 0, none⟩), v2] ?_ (calls_pick S _ v2 [xhow, 0, 5] (fun z5 => -2000000000000 ≤ z5 ∧ z5 ≤ 2000000000000) w' hst (by omega) d103 (by first | decide | simp) (by first | decide | simp) (by intro q hq; simp only [List.mem_cons, List.not_mem_nil, or_false] at hq; rcases hq with rfl | rfl | rfl <;> first | assumption | exact ⟨by omega, by omega⟩)) ?_
                  · clear hK hdp hfr; go_simp
                  rintro e w'' ⟨r, rfl, hr, hst2, hkp⟩
                  exact ⟨_, rfl, hK _ _ ⟨r, hr, rfl⟩ hkp (hst2.mono (by simp; omega))⟩
              · intro a w' c hk hst hc hfr hdp K hK
                as_aux_lemma =>
                  have E0 : a.eval (.tmp 0) = .pointer (some ⟨S, 0, none⟩) := fr_list hfr 0 (by kernel_rfl)
                  have d0 := slot_of E0
                  refine gen_pure (v := .pointer (some ⟨S, 0, none⟩)) ?_ (hK _ _ rfl (Keeps.refl _ _) hst)
                  clear hK hdp hfr
                  go_simp
              · intro a w' c hk hst hc hfr hdp K hK
                as_aux_lemma =>
                  have E9 : a.eval (.tmp 9) = .pointer (some ⟨g, r * 8, none⟩) := fr_list hfr 9 (by kernel_rfl)
                  have d9 := slot_of E9
                  refine gen_pure (v := .pointer (some ⟨g, r * 8, none⟩)) ?_ (hK _ _ rfl (Keeps.refl _ _) hst)
                  clear hK hdp hfr
                  go_simp
              · intro a w' c hk hst hc hfr hdp K hK
                as_aux_lemma =>
                  have E106 : a.eval (.tmp 106) = .pointer (some ⟨g, r * 8, none⟩) := Eq.symm (hdp 42 106 _ (by kernel_rfl) (by kernel_rfl) rfl)
                  have d106 := slot_of E106
                  refine gen_pure (v := .pointer (some ⟨g, r * 8, none⟩)) ?_ (hK _ _ rfl (Keeps.refl _ _) hst)
                  clear hK hdp hfr
                  go_simp
              · intro a w' c hk hst hc hfr hdp K hK
                as_aux_lemma =>
                  have E107 : a.eval (.tmp 107) = .pointer (some ⟨g, r * 8, none⟩) := Eq.symm (hdp 43 107 _ (by kernel_rfl) (by kernel_rfl) rfl)
                  have d107 := slot_of E107
                  refine gen_pure (v := .pointer (some ⟨g, r * 8 + 7, none⟩)) ?_ (hK _ _ rfl (Keeps.refl _ _) hst)
                  clear hK hdp hfr
                  go_simp
              · intro a w' c hk hst hc hfr hdp K hK
                as_aux_lemma =>
                  have E108 : a.eval (.tmp 108) = .pointer (some ⟨g, r * 8 + 7, none⟩) := Eq.symm (hdp 44 108 _ (by kernel_rfl) (by kernel_rfl) rfl)
                  have d108 := slot_of E108
                  have cl : w'.cell? ⟨g, r * 8 + 7, none⟩ = some (.string ⟨xcar.toArray⟩) := (hk.cell (p := ⟨g, r * 8 + 7, none⟩) HA1.out.lt hgS).trans HA1.out.c7
                  refine gen_pure (v := .string ⟨xcar.toArray⟩) ?_ (hK _ _ rfl (Keeps.refl _ _) hst)
                  clear hK hdp hfr
                  go_simp
              · intro a w' c hk hst hc hfr hdp K hK
                as_aux_lemma =>
                  have E109 : a.eval (.tmp 109) = .string ⟨xcar.toArray⟩ := Eq.symm (hdp 45 109 _ (by kernel_rfl) (by kernel_rfl) rfl)
                  have d109 := slot_of E109
                  exact gen_alloc (p := (· = ([.string ⟨xcar.toArray⟩, .string ⟨#[120, 122]⟩] : List Value))) #[.string ⟨xcar.toArray⟩, .string ⟨#[120, 122]⟩] 9 (bs_string_ts_cs _ (fun _ => rfl) _ _ _ _ _ rfl E109) rfl hst hK
              · intro a w' c hk hst hc hfr hdp K hK
                as_aux_lemma =>
                  have E105 : a.eval (.tmp 105) = .pointer (some ⟨S, 0, none⟩) := Eq.symm (hdp 41 105 _ (by kernel_rfl) (by kernel_rfl) rfl)
                  have d105 := slot_of E105
                  have d110 := hdp 46 110 _ (by kernel_rfl) (by kernel_rfl) rfl
                  have hc2 : c + 1 ≤ 6 := hc
                  generalize hv2 : a.eval (.tmp 110) = v2 at d110
                  have d3 := slot_of hv2
                  clear hv2
                  refine gen_call 26 #[.pointer (some ⟨S, 0, none⟩), v2] ?_ (calls_some S _ v2 [xcar, [120, 122]] (fun s6 => s6.length ≤ 100) w' hst (by omega) d110 (by first | decide | simp) (by first | decide | simp) (by intro q hq; simp only [List.mem_cons, List.not_mem_nil, or_false] at hq; rcases hq with rfl | rfl <;> first | assumption | decide)) ?_
                  · clear hK hdp hfr; go_simp
                  rintro e w'' ⟨r, rfl, hr, hst2, hkp⟩
                  exact ⟨_, rfl, hK _ _ ⟨r, hr, rfl⟩ hkp (hst2.mono (by simp; omega))⟩
              intro w8 hk8 hst8
              rintro _ rfl _ rfl _ rfl _ rfl _ rfl _ rfl _ - _ - _ - _ - _ - _ - _ ⟨s1, hs1, rfl⟩ _ - _ - _ - _ - _ - _ - _ ⟨s2, hs2, rfl⟩ _ - _ - _ - _ - _ - _ - _ ⟨z3, hz3, rfl⟩ _ - _ - _ - _ - _ - _ - _ ⟨z4, hz4, rfl⟩ _ - _ - _ - _ - _ - _ - _ ⟨z5, hz5, rfl⟩ _ - _ - _ - _ - _ - _ - _ ⟨s6, hs6, rfl⟩
              simp only [ForVals, Act.put, List.setIfInBounds_toArray, List.set_cons_zero, List.set_cons_succ, List.drop_succ_cons, List.drop_zero]
              have kd : Keeps S wn w8 := Keeps.trans (by exact Keeps.of_below (ext_drew (Below.refl _ _))) hk8
              have HE := Lib.hid (HX.out s1 s2 s6 z3 z4 z5 w8 hs1 hs2 hs6 hz3 hz4 hz5 (hst8.mono (by first | omega | simp | (simp; omega))) (HR1.out.trans kd))
              have HT0 := Lib.hid (HA1.out.keeps kd hgS).th
              clear HX HS1 HR1 HA1 hk8 hst8 kd
              go_wp2_with (refine wpList_done rfl (store_str _ _ _ _ _ rfl g (r * 8) 8 HT0.out 0 (by decide) ⟨s1.toArray⟩ rfl rfl) ?_; refine Hid.out ?_)
              refine Lib.hid ?_
              have HT1 := Lib.hid (there_put HT0.out (r * 8 + 0) (.string ⟨s1.toArray⟩))
              go_wp2_with (refine wpList_done rfl (store_str _ _ _ _ _ rfl g (r * 8) 8 HT1.out 2 (by decide) ⟨s2.toArray⟩ rfl rfl) ?_; refine Hid.out ?_)
              refine Lib.hid ?_
              have HT2 := Lib.hid (there_put HT1.out (r * 8 + 2) (.string ⟨s2.toArray⟩))
              go_wp2_with (refine wpList_done rfl (store_there _ _ _ _ _ rfl g (r * 8) 8 HT2.out 3 (by decide) z3 rfl rfl) ?_; refine Hid.out ?_)
              refine Lib.hid ?_
              have HT3 := Lib.hid (there_put HT2.out (r * 8 + 3) (.int .i64 z3))
              go_wp2_with (refine wpList_done rfl (store_there _ _ _ _ _ rfl g (r * 8) 8 HT3.out 5 (by decide) z4 rfl rfl) ?_; refine Hid.out ?_)
              refine Lib.hid ?_
              have HT4 := Lib.hid (there_put HT3.out (r * 8 + 5) (.int .i64 z4))
              go_wp2_with (refine wpList_done rfl (store_there _ _ _ _ _ rfl g (r * 8) 8 HT4.out 6 (by decide) z5 rfl rfl) ?_; refine Hid.out ?_)
              refine Lib.hid ?_
              have HT5 := Lib.hid (there_put HT4.out (r * 8 + 6) (.int .i64 z5))
              go_wp2_with (refine wpList_done rfl (store_str _ _ _ _ _ rfl g (r * 8) 8 HT5.out 7 (by decide) ⟨s6.toArray⟩ rfl rfl) ?_; refine Hid.out ?_)
              refine Lib.hid ?_
              have HT6 := Lib.hid (there_put HT5.out (r * 8 + 7) (.string ⟨s6.toArray⟩))
              clear HT0 HT1 HT2 HT3 HT4 HT5 HT6
              go_wp2_with fail
              go_ret
              exact HE.out
end Go.Proofs.YtppinnjdaoaddaaGreatDoor

set_option linter.unusedVariables false
set_option linter.unusedSimpArgs false
namespace Go.Proofs.YtppinnjdaoaddaaGreatDoor
open Go.RowKit

theorem Tryz.infoShr : (Tryz.prog.info? 110).map (fun i => (i.zero, i.size, i.bytes)) = some (some (.agg #[.string ⟨#[]⟩, .int .i64 0]), 2, 24) := by kernel_rfl
theorem scells_snoc (l : List Shr) (r : Shr) : ((l ++ [r]).map Shr.cells).flatten = (l.map Shr.cells).flatten ++ Shr.cells r := by simp
def ShrIn (r : Shr) : Prop := r.c.length ≤ 100 ∧ -2000000000000 ≤ r.part ∧ r.part ≤ 2000000000000
def ShrsIn (l : List Shr) : Prop := ∀ r ∈ l, ShrIn r
theorem ShrsIn.snoc {l : List Shr} {r : Shr} (h : ShrsIn l) (hr : ShrIn r) : ShrsIn (l ++ [r]) := fun x hx => by
  rcases List.mem_append.1 hx with hx | hx
  · exact h x hx
  · rw [List.mem_singleton.1 hx]; exact hr
/-- What shares that a stream hands out come to. -/
def ShdPost (S k n : Nat) (w : World) (e : Ending) (w' : World) : Prop :=
  ∃ v l, e = .returned v ∧ w'.ownsRow w.heap.size 110 2 v l.length ((l.map Shr.cells).flatten) ∧ l.length ≤ n + 1 ∧ ShrsIn l ∧ StreamOk w' S k ∧ Keeps S w w'
theorem Tryz.carrSize : (Tryz.prog.info? 72).map (·.size) = some 3 := by kernel_rfl
theorem bl_shd0 (e : Operand → Value) (he : ∀ v, e (.const v) = v) (o : Oper) (w : World) (i0 : Nat) (p0_0 : ByteArray) (z0_1 : Int) (ho : o.op = .buildSlice 34 1 #[(0, .tmp i0)]) (h0 : e (.tmp i0) = .agg #[.string p0_0, .int .i64 z0_1]) :
   (execOp e o).run Tryz.prog w = .ok (.value (.slice (some ⟨w.heap.size, 0, none⟩) 1 1)) (w.alloc (.cells #[.string p0_0, .int .i64 z0_1] 110)) := by
  unfold execOp
  rw [ho]
  simp only [List.map_toArray, List.map_cons, List.map_nil, h0]
  kernel_rfl
theorem bl_shd1 (e : Operand → Value) (he : ∀ v, e (.const v) = v) (o : Oper) (w : World)  (p0 : ByteArray) (p1 : ByteArray) (ho : o.op = .buildSlice 121 2 #[(0, .const (.string p0)), (1, .const (.string p1))])  :
   (execOp e o).run Tryz.prog w = .ok (.value (.slice (some ⟨w.heap.size, 0, none⟩) 2 2)) (w.alloc (.cells #[.string p0, .string p1] 9)) := by
  unfold execOp
  rw [ho]
  simp only [List.map_toArray, List.map_cons, List.map_nil, he]
  kernel_rfl
set_option maxRecDepth 100000 in
set_option maxHeartbeats 8000000 in
theorem sharesD_any (S k : Nat) (w : World) (h : StreamOk w S k) (hk : k ≤ 900000) (a : Option Addr) (n cap : Nat) (cs : List Carr) (hn3 : n ≤ 3) (hC : ∀ W, Keeps S w W → CarrRow W a n cs) : Calls Tryz.prog 10 #[.pointer (some ⟨S, 0, none⟩), .slice a n cap] w (ShdPost S (k + 10) n w) := by
  obtain ⟨i1, hi1, hy0, hy1, hy2⟩ := info_parts Tryz.infoShr
  have HS := Lib.hid h
  have HC := Lib.hid hC
  have HN : Hid (n = cs.length) := (hC w (Keeps.refl _ _)).len
  have hSW := h.lt
  clear h hC
  go_enter Tryz.func10, Tryz.ntmps10
  go_wp2_with fail
  go_loopw [5, 6, 12] (fun vo lf it wr => ∃ (i : Nat) (l : List Shr) (left : Int), i ≤ n ∧ it = .int .i64 i ∧ l.length = i ∧ lf = .int .i64 left ∧ -i ≤ left ∧ left ≤ 1000 ∧ Hid (ShrsIn l) ∧ Hid (wr.ownsRow w.heap.size 110 2 vo i ((l.map Shr.cells).flatten)) ∧ w.heap.size ≤ wr.heap.size ∧ Hid (StreamOk wr S (k + i)) ∧ Hid (Keeps S w wr)) (fun _ _ it _ => n - (intOf it).toNat)
  case atStart => exact ⟨0, [], 1000, Nat.zero_le _, rfl, rfl, rfl, by omega, by omega, (fun x hx => by cases hx), World.ownsRow_nil _ _ _ _, Nat.le_refl _, HS.out, Keeps.refl _ _⟩
  case round =>
    clear HS
    obtain ⟨i, l, left, hi, rfl, hli, rfl, hl0, hl1, HRI, HO, hWr, HS0, HK0⟩ := hrel
    have HLI := Lib.hid hli
    clear hli
    obtain ⟨oa, oc, rfl⟩ := own_shape HO.out
    by_cases hlt : i < n
    · obtain ⟨cb, off, rfl, hcb, hcc⟩ := (HC.out wr HK0.out).at (by omega)
      obtain ⟨c0, c1, c2⟩ := hcc i hlt
      have hkl := ((HC.out wr HK0.out).each i (by rw [← HN.out]; exact hlt)).key
      generalize cs.getD i noCarr = cx at c0 c1 c2 hkl
      obtain ⟨ky, ln, da, dn, dc, dk⟩ := cx
      simp only at c0 c1 c2 hkl
      have HVW := Lib.hid (fun b (e : (Value.slice oa i oc).ownBlock = some b) => (HO.out.lt b e).1)
      clear hcc
      have HTH : Hid ((wr.alloc (.cells #[.string ⟨#[]⟩, .int .i64 0, .slice none 0 0] 72)).there wr.heap.size 0 3) := (Blk.new wr [.string ⟨#[]⟩, .int .i64 0, .slice none 0 0] 72).th 3 (by decide)
      have HX1 : Hid (Blk (World.setCells (wr.alloc (.cells #[.string ⟨#[]⟩, .int .i64 0, .slice none 0 0] 72)) wr.heap.size 0 [.string ⟨ky.toArray⟩, .int .i64 ln, .slice da dn dc]) wr.heap.size [.string ⟨ky.toArray⟩, .int .i64 ln, .slice da dn dc] 72) := (((Blk.new wr [.string ⟨#[]⟩, .int .i64 0, .slice none 0 0] 72).put 0 _).put 1 _).put 2 _
      have hst : StreamOk (World.setCells (wr.alloc (.cells #[.string ⟨#[]⟩, .int .i64 0, .slice none 0 0] 72)) wr.heap.size 0 [.string ⟨ky.toArray⟩, .int .i64 ln, .slice da dn dc]) S (k + i) := (HS0.out.below (ext_alloc (Below.refl _ _))).upto (below_setCells HS0.out.lt _ _ _)
      have hk' : Keeps S wr (World.setCells (wr.alloc (.cells #[.string ⟨#[]⟩, .int .i64 0, .slice none 0 0] 72)) wr.heap.size 0 [.string ⟨ky.toArray⟩, .int .i64 ln, .slice da dn dc]) := keeps_setCells (Nat.le_refl _) _ _ _ ((Keeps.refl _ _).alloc _)
      have HBX : Hid (∀ b, (Value.slice oa i oc).ownBlock = some b → b < wr.heap.size) := fun b e => (HO.out.lt b e).2
      have HS1 := Lib.hid hst
      have HK1 := Lib.hid (HK0.out.trans hk')
      have HO1 := Lib.hid (own_keeps HO.out hk' hSW)
      clear hst hk' HS0 HK0 HO
      have hXS : wr.heap.size ≠ S := by omega
      have hcl : (i : Int) < (n : Int) := by omega
      as_aux_lemma =>
        go_wp2_with (refine wpList_store_mid rfl 72 (.tmp 8) (.tmp 16) rfl wr.heap.size 0 #[.string ⟨ky.toArray⟩, .int .i64 ln, .slice da dn dc] rfl rfl HTH.out Tryz.carrSize (by simp [Value.oneCell']) ?_; generalize (World.setCells (wr.alloc (.cells #[.string ⟨#[]⟩, .int .i64 0, .slice none 0 0] 72)) wr.heap.size 0 [.string ⟨ky.toArray⟩, .int .i64 ln, .slice da dn dc]) = w1 at HX1 HS1 HK1 HO1 ⊢; clear HTH c0 c1 c2; refine Hid.out ?_)
        refine Lib.hid ?_
        generalize wr.heap.size = X at HX1 hXS hWr HBX ⊢
        by_cases hl2 : i + 1 < n
        · have hl2i : (i : Int) + 1 < (n : Int) := by omega
          have wl : IntKind.i64.wrap (left - n) = left - n := IntWalk.i64_in _ (by omega)
          as_aux_lemma =>
            go_wp2_with fail
            refine (range_any S (k + i) 1 (max 1 (left - n)) _ HS1.out (by omega) (by omega) (by omega) (by omega)).mono ?_
            rintro e w2 ⟨pt, rfl, p0, p1, hst, hk'⟩
            have HS2 := Lib.hid hst
            have HK2 := Lib.hid (HK1.out.trans hk')
            have HO2 := Lib.hid (own_keeps HO1.out hk' hSW)
            have HX2 := Lib.hid (HX1.out.keeps hk' hXS)
            clear hst hk'
            clear HS1 HK1 HO1 HX1
            clear hl2i wl
            have e0 := HX2.out.cell 0 rfl
            have hW9 : w.heap.size ≤ w2.heap.size := HK2.out.size
            have HOA := Lib.hid (HO2.out.alloc (.cells #[.string ⟨ky.toArray⟩, .int .i64 pt] 110))
            have HNA : Hid (Blk (w2.alloc (.cells #[.string ⟨ky.toArray⟩, .int .i64 pt] 110)) w2.heap.size [.string ⟨ky.toArray⟩, .int .i64 pt] 110) := Blk.new w2 [.string ⟨ky.toArray⟩, .int .i64 pt] 110
            have wf : IntKind.i64.wrap (left - pt) = left - pt := IntWalk.i64_in _ (by omega)
            as_aux_lemma =>
              go_wp2_with (first | (refine wpList_val rfl (bl_shd0 _ (fun _ => rfl) _ _ 37 ⟨ky.toArray⟩ pt rfl rfl) ?_) | (at_builtin; go_loud (refine wpList_append_own_at _ rfl (.tmp 33) (.tmp 38) 34 rfl w.heap.size 110 i1 _ 2 24 Tryz.underlying34 hi1 hy0 hy1 hy2 rfl (by omega) (.slice oa i oc) i _ rfl HOA.out ⟨w2.heap.size, 0, none⟩ 1 1 [.string ⟨ky.toArray⟩, .int .i64 pt] rfl rfl (fun j u hj => by rw [add0]; exact HNA.out.cell j hj) (by simp [Value.oneCell']) (by simp only [maxLen]; omega) (by omega) (by simp; omega) ?_); intro v12 w12 hown12 hgr12 _ hat12; have HQ1 := Lib.hid hown12; have HQ2 := Lib.hid hgr12; clear hown12 hgr12 hat12 HOA HNA e0; refine Hid.out ?_))
              refine Lib.hid ?_
              have hown12 := HQ1.out
              have hgr12 := HQ2.out
              clear HQ1 HQ2
              have HS12 : Hid (StreamOk w12 S (k + i + 1)) := HS2.out.upto (upto_grown hgr12 (by omega) (fun b e => by have := HVW.out b e; omega))
              have HK12 : Hid (Keeps S w w12) := HK2.out.grown hgr12 HVW.out
              have HO12 : Hid (w12.ownsRow w.heap.size 110 2 v12 (i + 1) (((l ++ [(⟨ky, pt⟩ : Shr)]).map Shr.cells).flatten)) := by
                show World.ownsRow _ _ _ _ _ _ _
                rw [scells_snoc]
                exact hown12
              have hz12 := HK12.out.size
              have HRN : Hid (ShrsIn (l ++ [(⟨ky, pt⟩ : Shr)])) := HRI.out.snoc ⟨hkl, by show -2000000000000 ≤ (pt : Int); omega, by show (pt : Int) ≤ 2000000000000; omega⟩
              clear hown12 hgr12 HO2 HS2 HK2 HX2
              as_aux_lemma =>
                go_wp2_with fail
                go_roundw
                case rel => exact ⟨i + 1, l ++ [(⟨ky, pt⟩ : Shr)], left - pt, by omega, by go_num, by rw [List.length_append, List.length_singleton, HLI.out], by go_num, by omega, by omega, HRN.out, HO12.out, hz12, HS12.out.mono (by omega), HK12.out⟩
                case measure => simp [intOf]; omega
        · have hl2i : ¬ (i : Int) + 1 < (n : Int) := by omega

          clear hl2
          have e0 := HX1.out.cell 0 rfl
          have hW9 : w.heap.size ≤ w1.heap.size := HK1.out.size
          have HOA := Lib.hid (HO1.out.alloc (.cells #[.string ⟨ky.toArray⟩, .int .i64 left] 110))
          have HNA : Hid (Blk (w1.alloc (.cells #[.string ⟨ky.toArray⟩, .int .i64 left] 110)) w1.heap.size [.string ⟨ky.toArray⟩, .int .i64 left] 110) := Blk.new w1 [.string ⟨ky.toArray⟩, .int .i64 left] 110
          have wf : IntKind.i64.wrap (left - left) = left - left := IntWalk.i64_in _ (by omega)
          skip
          as_aux_lemma =>
            go_wp2_with (first | (refine wpList_val rfl (bl_shd0 _ (fun _ => rfl) _ _ 37 ⟨ky.toArray⟩ left rfl rfl) ?_) | (at_builtin; go_loud (refine wpList_append_own_at _ rfl (.tmp 33) (.tmp 38) 34 rfl w.heap.size 110 i1 _ 2 24 Tryz.underlying34 hi1 hy0 hy1 hy2 rfl (by omega) (.slice oa i oc) i _ rfl HOA.out ⟨w1.heap.size, 0, none⟩ 1 1 [.string ⟨ky.toArray⟩, .int .i64 left] rfl rfl (fun j u hj => by rw [add0]; exact HNA.out.cell j hj) (by simp [Value.oneCell']) (by simp only [maxLen]; omega) (by omega) (by simp; omega) ?_); intro v12 w12 hown12 hgr12 _ hat12; have HQ1 := Lib.hid hown12; have HQ2 := Lib.hid hgr12; clear hown12 hgr12 hat12 HOA HNA e0; refine Hid.out ?_))
            refine Lib.hid ?_
            have hown12 := HQ1.out
            have hgr12 := HQ2.out
            clear HQ1 HQ2
            have HS12 : Hid (StreamOk w12 S (k + i)) := HS1.out.upto (upto_grown hgr12 (by omega) (fun b e => by have := HVW.out b e; omega))
            have HK12 : Hid (Keeps S w w12) := HK1.out.grown hgr12 HVW.out
            have HO12 : Hid (w12.ownsRow w.heap.size 110 2 v12 (i + 1) (((l ++ [(⟨ky, left⟩ : Shr)]).map Shr.cells).flatten)) := by
              show World.ownsRow _ _ _ _ _ _ _
              rw [scells_snoc]
              exact hown12
            have hz12 := HK12.out.size
            have HRN : Hid (ShrsIn (l ++ [(⟨ky, left⟩ : Shr)])) := HRI.out.snoc ⟨hkl, by show -2000000000000 ≤ (left : Int); omega, by show (left : Int) ≤ 2000000000000; omega⟩
            clear hown12 hgr12 HO1 HS1 HK1 HX1
            as_aux_lemma =>
              go_wp2_with fail
              go_roundw
              case rel => exact ⟨i + 1, l ++ [(⟨ky, left⟩ : Shr)], left - left, by omega, by go_num, by rw [List.length_append, List.length_singleton, HLI.out], by go_num, by omega, by omega, HRN.out, HO12.out, hz12, HS12.out.mono (by omega), HK12.out⟩
              case measure => simp [intOf]; omega
    · have hge : ¬ (i : Int) < (n : Int) := by omega
      obtain rfl : i = n := by omega
      skip
      have HO0 := HO
      clear HO
      as_aux_lemma =>
        go_wp2_with (fail)
        refine (flip_any S (k + i) 12 _ HS0.out (by omega) (by decide) (by decide)).mono ?_
        rintro e w3 ⟨fl, rfl, hst, hk'⟩
        have HS3 := Lib.hid hst
        have HK3 := Lib.hid (HK0.out.trans hk')
        have HO3 := Lib.hid (own_keeps HO0.out hk' hSW)
        clear hst hk'
        clear HS0 HK0 HO0
        cases fl
        · skip
          as_aux_lemma =>
            go_wp2_with fail
            go_ret
            exact ⟨_, l, rfl, by rw [HLI.out]; exact HO3.out, by rw [HLI.out]; omega, HRI.out, HS3.out.mono (by omega), HK3.out⟩
        skip
        as_aux_lemma =>
          go_wp2_with ((refine wpList_val rfl (bl_shd1 _ (fun _ => rfl) _ _  ⟨#[120, 122]⟩ ⟨#[120, 97]⟩ rfl) ?_))
          refine (some_lit S (k + i + 1) [[120, 122], [120, 97]] (fun s => s.length ≤ 100) _ _ _ HS3.out (by omega) rfl rfl (by decide) (by decide) (by decide)).mono ?_
          rintro e w4 ⟨nm, rfl, hnm, hst, hk'⟩
          have HS4 := Lib.hid hst
          have HK4 := Lib.hid (HK3.out.trans hk')
          have HO4 := Lib.hid (own_keeps HO3.out hk' hSW)
          clear hst hk'
          clear HS3 HK3 HO3
          have hnm : nm.length ≤ 100 := hnm
          as_aux_lemma =>
            go_wp2_with (fail)
            refine (odd_any S (k + i + 1 + 1) 1 1000 _ HS4.out (by omega) (by omega) (by omega) (by omega)).mono ?_
            rintro e w5 ⟨pt, rfl, ⟨p0, p1⟩, hst, hk'⟩
            have HS5 := Lib.hid hst
            have HK5 := Lib.hid (HK4.out.trans hk')
            have HO5 := Lib.hid (own_keeps HO4.out hk' hSW)
            clear hst hk'
            clear HS4 HK4 HO4
            have hW9 : w.heap.size ≤ w5.heap.size := HK5.out.size
            have HOA := Lib.hid (HO5.out.alloc (.cells #[.string ⟨nm.toArray⟩, .int .i64 pt] 110))
            have HNA : Hid (Blk (w5.alloc (.cells #[.string ⟨nm.toArray⟩, .int .i64 pt] 110)) w5.heap.size [.string ⟨nm.toArray⟩, .int .i64 pt] 110) := Blk.new w5 [.string ⟨nm.toArray⟩, .int .i64 pt] 110
            as_aux_lemma =>
              go_wp2_with (first | (refine wpList_val rfl (bl_shd0 _ (fun _ => rfl) _ _ 49 ⟨nm.toArray⟩ pt rfl rfl) ?_) | (at_builtin; go_loud (refine wpList_append_own_at _ rfl (.tmp 43) (.tmp 50) 34 rfl w.heap.size 110 i1 _ 2 24 Tryz.underlying34 hi1 hy0 hy1 hy2 rfl (by omega) (.slice oa i oc) i _ rfl HOA.out ⟨w5.heap.size, 0, none⟩ 1 1 [.string ⟨nm.toArray⟩, .int .i64 pt] rfl rfl (fun j u hj => by rw [add0]; exact HNA.out.cell j hj) (by simp [Value.oneCell']) (by simp only [maxLen]; omega) (by omega) (by simp; omega) ?_); intro v12 w12 hown12 hgr12 _ hat12; have HQ1 := Lib.hid hown12; have HQ2 := Lib.hid hgr12; clear hown12 hgr12 hat12 HOA HNA; refine Hid.out ?_))
              refine Lib.hid ?_
              have hown12 := HQ1.out
              have hgr12 := HQ2.out
              clear HQ1 HQ2
              have HVW : Hid (∀ b, (Value.slice oa i oc).ownBlock = some b → w.heap.size ≤ b) := fun b e => (HO5.out.lt b e).1
              have HS12 : Hid (StreamOk w12 S (k + 10)) := (HS5.out.mono (by omega)).upto (upto_grown hgr12 (by omega) (fun b e => by have := HVW.out b e; omega))
              have HK12 : Hid (Keeps S w w12) := HK5.out.grown hgr12 HVW.out
              have HO12 : Hid (w12.ownsRow w.heap.size 110 2 v12 (l ++ [(⟨nm, pt⟩ : Shr)]).length (((l ++ [(⟨nm, pt⟩ : Shr)]).map Shr.cells).flatten)) := by
                show World.ownsRow _ _ _ _ _ _ _
                rw [scells_snoc, List.length_append, HLI.out]
                exact hown12
              have HRN : Hid (ShrsIn (l ++ [(⟨nm, pt⟩ : Shr)])) := HRI.out.snoc ⟨hnm, by show -2000000000000 ≤ (pt : Int); omega, by show (pt : Int) ≤ 2000000000000; omega⟩
              have HLN : Hid ((l ++ [(⟨nm, pt⟩ : Shr)]).length ≤ i + 1) := by show _ ≤ _; rw [List.length_append, HLI.out]; simp
              clear hown12 hgr12
              as_aux_lemma =>
                go_wp2_with fail
                go_ret
                exact ⟨_, _, rfl, HO12.out, HLN.out, HRN.out, HS12.out, HK12.out⟩
end Go.Proofs.YtppinnjdaoaddaaGreatDoor

set_option linter.unusedVariables false
set_option linter.unusedSimpArgs false
namespace Go.Proofs.YtppinnjdaoaddaaGreatDoor
open Go.RowKit

theorem shr_join (l : List Carr) (s : List Shr) : firstE (carrsErr l) (if (carrsErr l == 0) = true then sharesErr l s else 0) = shrE l s := by
  unfold firstE shrE
  by_cases h : carrsErr l = 0
  · rw [h]; simp
  · rw [if_pos h, if_pos h]
theorem meas_join (l : List Carr) (rs : List Rcd) (f t : Int) : firstE (carrsErr l) (if (carrsErr l == 0) = true then recsErr l rs f t else 0) = measE l rs f t := by
  unfold firstE measE
  by_cases h : carrsErr l = 0
  · rw [h]; simp
  · rw [if_pos h, if_pos h]
theorem turn_join (l : List Carr) (s : List Shr) (sent : List Int) (n : Nat) (hn : n = s.length) : firstE (if carrsErr l = 0 ∧ n = 0 then 0 else shrE l s) (sentErr s sent) = turnE l s sent := by
  subst hn
  unfold firstE turnE shrE
  generalize carrsErr l = F
  generalize sharesErr l s = G
  generalize sentErr s sent = H
  generalize s.length = n
  by_cases h : F = 0
  · subst h
    by_cases h2 : n = 0
    · subst h2; simp
    · by_cases h3 : G = 0
      · subst h3; simp
      · simp [h2, h3]
  · simp [h]
theorem sent_parts {s : List Shr} {sent : List Int} (h : sentErr s sent = 0) : s.length = sent.length ∧ SentOk sent := by
  unfold sentErr at h
  split at h
  · cases h
  · rename_i h1
    split at h
    · cases h
    · rename_i h2
      refine ⟨Classical.not_not.1 h1, fun i hi => ?_⟩
      simp only [List.any_eq_true, not_exists, not_and] at h2
      have h3 := h2 (sent.getD i 0) (mem_getD 0 hi)
      have h4 : inB (sent.getD i 0) 0 1000000000000 = true := by simpa using h3
      unfold inB at h4
      simpa using h4
theorem turn_zero {l : List Carr} {s : List Shr} {sent : List Int} (hl : l.length ≤ 50) (hs : s.length ≤ 50) (h : turnE l s sent = 0) : PartsOk s ∧ SentOk sent ∧ sent.length = s.length := by
  unfold turnE at h
  by_cases h1 : carrsErr l = 0
  · rw [if_neg (by simp [h1])] at h
    by_cases h2 : s.length = 0
    · rw [if_neg (fun h3 => h3.1 h2)] at h
      obtain ⟨h3, h4⟩ := sent_parts h
      exact ⟨fun i hi => by omega, h4, h3.symm⟩
    · by_cases h3 : sharesErr l s = 0
      · rw [if_neg (fun h4 => h4.2 h3)] at h
        obtain ⟨h4, h5⟩ := sent_parts h
        exact ⟨shares_keys hl h1 h3 hs, h5, h4.symm⟩
      · rw [if_pos ⟨h2, h3⟩] at h; exact absurd h h3
  · rw [if_pos h1] at h; exact absurd h h1
/-- What Turn answers: whether there is a turn says that its key is not empty. -/
theorem turn_is {l : List Carr} {s : List Shr} {sent : List Int} (hl : l.length ≤ 50) (hs : s.length ≤ 50) : decide (turnE l s sent = 0 ∧ s.length ≠ 0) = !((if turnE l s sent = 0 then turnK s sent else []) == []) := by
  by_cases h : turnE l s sent = 0
  · rw [if_pos h]
    have h1 := turn_some (sent := sent) (fun i hi => ((turn_zero hl hs h).1 i hi).1) s.length (Nat.le_refl _)
    by_cases h2 : s.length = 0
    · have h3 : turnK s sent = [] := h1.2 h2
      rw [h3, decide_eq_false (fun h4 => h4.2 h2)]; rfl
    · have h3 : turnK s sent ≠ [] := fun h4 => h2 (h1.1 h4)
      rw [decide_eq_true ⟨h, h2⟩]
      simp [h3]
  · rw [if_neg h, decide_eq_false (fun h4 => h h4.1)]; rfl
theorem shr_rows {w W : World} {base S : Nat} {v : Value} {l : List Shr} (h : w.ownsRow base 110 2 v l.length ((l.map Shr.cells).flatten)) (hi : ShrsIn l) (hk : Keeps S w W) (hS : S < base) (hf : l.length ≤ 50) : ∃ a c, v = .slice a l.length c ∧ l.length ≤ c ∧ ShrRow W a l.length l :=
  ShrRow.of_own (own_keeps h hk hS) hf (fun i hi' => hi _ (mem_getD _ hi'))
theorem rcd_rows {w W : World} {base S : Nat} {v : Value} {l : List Rcd} (h : w.ownsRow base 83 8 v l.length ((l.map Rcd.cells).flatten)) (hi : RcdsIn l) (hk : Keeps S w W) (hS : S < base) (hf : l.length ≤ 100) : ∃ a c, v = .slice a l.length c ∧ l.length ≤ c ∧ RcdRow W a l.length l :=
  RcdRow.of_own (own_keeps h hk hS) hf (fun i hi' => hi _ (mem_getD _ hi'))
theorem int_rows {w W : World} {base S n : Nat} {v : Value} {l : List Int} (h : w.ownsRow base 3 1 v n (l.map (Value.int .i64))) (hk : Keeps S w W) (hS : S < base) : ∃ a c, v = .slice a n c ∧ n ≤ c ∧ IRow .i64 W a n l := by
  have h2 := own_keeps h hk hS
  obtain ⟨a, c, rfl, hr⟩ := IRow.of_own h2
  exact ⟨a, c, rfl, (own_caps h2).2, hr⟩
end Go.Proofs.YtppinnjdaoaddaaGreatDoor
