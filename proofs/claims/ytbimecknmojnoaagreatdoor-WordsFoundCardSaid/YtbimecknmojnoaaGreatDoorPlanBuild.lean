/- What is proved here: what slices of areas and of countries that are written out leave in memory. No condition. -/
import Derived.Test.YtbimecknmojnoaaGreatDoorPlanMath
import Derived.Test.YtbimecknmojnoaaGreatDoorBase
set_option linter.unusedVariables false
set_option linter.unusedSimpArgs false
namespace Go.Proofs.YtbimecknmojnoaaGreatDoor
open Go.RowKit

theorem wpList_val {P : Program} {ops : Array Oper} {rest : List Oper} {o : Oper} {a : Act} {w w' : World} {v : Value} {Q : Exit → Act → World → Prop} (hg : o.guard = none) (h : (execOp a.eval o).run P w = .ok (.value v) w') (hr : wpList P ops Q rest (a.put o.dst v) w') : wpList P ops Q (o :: rest) a w :=
  wpList_plain hg fun _ hK => by unfold Oper.wp; rw [h]; exact hK _ _ hr

theorem bs_area1 (e : Operand → Value) (o : Oper) (w : World) (i : Nat) (ho : o.op = .buildSlice 151 1 #[(0, .tmp i)]) (p0 : ByteArray) (l0 h0 : Int) (hi : e (.tmp i) = .agg #[.string p0, .int .i64 l0, .int .i64 h0]) :
   (execOp e o).run Tryz.prog w = .ok (.value (.slice (some ⟨w.heap.size, 0, none⟩) 1 1)) (w.alloc (.cells #[.string p0, .int .i64 l0, .int .i64 h0] 155)) := by
  unfold execOp
  rw [ho]
  simp only [List.map_toArray, List.map_cons, List.map_nil, hi]
  kernel_rfl
theorem bs_area2 (e : Operand → Value) (o : Oper) (w : World) (i j : Nat) (ho : o.op = .buildSlice 151 2 #[(0, .tmp i), (1, .tmp j)]) (p0 p1 : ByteArray) (l0 h0 l1 h1 : Int) (hi : e (.tmp i) = .agg #[.string p0, .int .i64 l0, .int .i64 h0]) (hj : e (.tmp j) = .agg #[.string p1, .int .i64 l1, .int .i64 h1]) :
   (execOp e o).run Tryz.prog w = .ok (.value (.slice (some ⟨w.heap.size, 0, none⟩) 2 2)) (w.alloc (.cells #[.string p0, .int .i64 l0, .int .i64 h0, .string p1, .int .i64 l1, .int .i64 h1] 155)) := by
  unfold execOp
  rw [ho]
  simp only [List.map_toArray, List.map_cons, List.map_nil, hi, hj]
  kernel_rfl
theorem bs_area3 (e : Operand → Value) (o : Oper) (w : World) (i j k : Nat) (ho : o.op = .buildSlice 151 3 #[(0, .tmp i), (1, .tmp j), (2, .tmp k)]) (p0 p1 p2 : ByteArray) (l0 h0 l1 h1 l2 h2 : Int) (hi : e (.tmp i) = .agg #[.string p0, .int .i64 l0, .int .i64 h0]) (hj : e (.tmp j) = .agg #[.string p1, .int .i64 l1, .int .i64 h1]) (hk : e (.tmp k) = .agg #[.string p2, .int .i64 l2, .int .i64 h2]) :
   (execOp e o).run Tryz.prog w = .ok (.value (.slice (some ⟨w.heap.size, 0, none⟩) 3 3)) (w.alloc (.cells #[.string p0, .int .i64 l0, .int .i64 h0, .string p1, .int .i64 l1, .int .i64 h1, .string p2, .int .i64 l2, .int .i64 h2] 155)) := by
  unfold execOp
  rw [ho]
  simp only [List.map_toArray, List.map_cons, List.map_nil, hi, hj, hk]
  kernel_rfl
theorem bs_ctry3 (e : Operand → Value) (o : Oper) (w : World) (i j k : Nat) (ho : o.op = .buildSlice 68 3 #[(0, .tmp i), (1, .tmp j), (2, .tmp k)]) (c0 a0 t0 c1 a1 t1 c2 a2 t2 : ByteArray) (s0 s1 s2 : Option Addr) (n0 m0 n1 m1 n2 m2 : Nat) (hi : e (.tmp i) = .agg #[.string c0, .string a0, .string t0, .slice s0 n0 m0]) (hj : e (.tmp j) = .agg #[.string c1, .string a1, .string t1, .slice s1 n1 m1]) (hk : e (.tmp k) = .agg #[.string c2, .string a2, .string t2, .slice s2 n2 m2]) :
   (execOp e o).run Tryz.prog w = .ok (.value (.slice (some ⟨w.heap.size, 0, none⟩) 3 3)) (w.alloc (.cells #[.string c0, .string a0, .string t0, .slice s0 n0 m0, .string c1, .string a1, .string t1, .slice s1 n1 m1, .string c2, .string a2, .string t2, .slice s2 n2 m2] 153)) := by
  unfold execOp
  rw [ho]
  simp only [List.map_toArray, List.map_cons, List.map_nil, hi, hj, hk]
  kernel_rfl
theorem bs_str4 (e : Operand → Value) (he : ∀ v, e (.const v) = v) (o : Oper) (w : World) (b0 b1 b2 b3 : ByteArray) (ho : o.op = .buildSlice 27 4 #[(0, .const (.string b0)), (1, .const (.string b1)), (2, .const (.string b2)), (3, .const (.string b3))]) :
   (execOp e o).run Tryz.prog w = .ok (.value (.slice (some ⟨w.heap.size, 0, none⟩) 4 4)) (w.alloc (.cells #[.string b0, .string b1, .string b2, .string b3] 9)) := by
  unfold execOp
  rw [ho]
  simp only [List.map_toArray, List.map_cons, List.map_nil, he]
  kernel_rfl
theorem bs_str6 (e : Operand → Value) (he : ∀ v, e (.const v) = v) (o : Oper) (w : World) (b0 b1 b2 b3 b4 b5 : ByteArray) (ho : o.op = .buildSlice 27 6 #[(0, .const (.string b0)), (1, .const (.string b1)), (2, .const (.string b2)), (3, .const (.string b3)), (4, .const (.string b4)), (5, .const (.string b5))]) :
   (execOp e o).run Tryz.prog w = .ok (.value (.slice (some ⟨w.heap.size, 0, none⟩) 6 6)) (w.alloc (.cells #[.string b0, .string b1, .string b2, .string b3, .string b4, .string b5] 9)) := by
  unfold execOp
  rw [ho]
  simp only [List.map_toArray, List.map_cons, List.map_nil, he]
  kernel_rfl
theorem bs_str7 (e : Operand → Value) (he : ∀ v, e (.const v) = v) (o : Oper) (w : World) (b0 b1 b2 b3 b4 b5 b6 : ByteArray) (ho : o.op = .buildSlice 27 7 #[(0, .const (.string b0)), (1, .const (.string b1)), (2, .const (.string b2)), (3, .const (.string b3)), (4, .const (.string b4)), (5, .const (.string b5)), (6, .const (.string b6))]) :
   (execOp e o).run Tryz.prog w = .ok (.value (.slice (some ⟨w.heap.size, 0, none⟩) 7 7)) (w.alloc (.cells #[.string b0, .string b1, .string b2, .string b3, .string b4, .string b5, .string b6] 9)) := by
  unfold execOp
  rw [ho]
  simp only [List.map_toArray, List.map_cons, List.map_nil, he]
  kernel_rfl
theorem bs_str11 (e : Operand → Value) (he : ∀ v, e (.const v) = v) (o : Oper) (w : World) (b0 b1 b2 b3 b4 b5 b6 b7 b8 b9 b10 : ByteArray) (ho : o.op = .buildSlice 27 11 #[(0, .const (.string b0)), (1, .const (.string b1)), (2, .const (.string b2)), (3, .const (.string b3)), (4, .const (.string b4)), (5, .const (.string b5)), (6, .const (.string b6)), (7, .const (.string b7)), (8, .const (.string b8)), (9, .const (.string b9)), (10, .const (.string b10))]) :
   (execOp e o).run Tryz.prog w = .ok (.value (.slice (some ⟨w.heap.size, 0, none⟩) 11 11)) (w.alloc (.cells #[.string b0, .string b1, .string b2, .string b3, .string b4, .string b5, .string b6, .string b7, .string b8, .string b9, .string b10] 9)) := by
  unfold execOp
  rw [ho]
  simp only [List.map_toArray, List.map_cons, List.map_nil, he]
  kernel_rfl
end Go.Proofs.YtbimecknmojnoaaGreatDoor
