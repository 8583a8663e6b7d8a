/- What is proved here: lemmas and contracts for the statement, put together out of smaller texts (PortRanges). No condition beyond those stated. -/
import Derived.Test.YtmbimfmalijjpaaGreatDoorNmPkB
import Derived.Test.YtmbimfmalijjpaaGreatDoorNmPkF
import Derived.Test.YtmbimfmalijjpaaGreatDoorNmPkD
import Derived.Deep.CutBlock
import Derived.Deep.DeepCutAuto
import Derived.IntWalk
set_option linter.unusedVariables false
set_option linter.unusedSimpArgs false
namespace Go.Proofs.YtmbimfmalijjpaaGreatDoor
open Go.RowKit

def Short (l : List Rng) : Prop := ∀ r ∈ l, r.f.length ≤ 100 ∧ r.t.length ≤ 100
def RngsPost (S k mn : Nat) (w : World) (e : Ending) (w' : World) : Prop :=
  ∃ v l, e = .returned v ∧ w'.ownsRow w.heap.size 53 2 v l.length ((l.map Rng.cells).flatten) ∧ l.length ≤ mn + 1 ∧ Short l ∧ StreamOk w' S k ∧ Keeps S w w'
theorem short_snoc {l : List Rng} {r : Rng} (h : Short l) (h1 : r.f.length ≤ 100) (h2 : r.t.length ≤ 100) : Short (l ++ [r]) := fun x hx => by
  rcases List.mem_append.1 hx with hx | hx
  · exact h x hx
  · rw [List.mem_singleton.1 hx]; exact ⟨h1, h2⟩
theorem cells_snoc (l : List Rng) (r : Rng) : ((l ++ [r]).map Rng.cells).flatten = (l.map Rng.cells).flatten ++ Rng.cells r := by simp

theorem bs_r3 (e : Operand → Value) (o : Oper) (w : World) (i0 i1 i2 : Nat) (p0 q0 p1 q1 p2 q2 : ByteArray) (ho : o.op = .buildSlice 47 3 #[(0, .tmp i0), (1, .tmp i1), (2, .tmp i2)]) (h0 : e (.tmp i0) = .agg #[.string p0, .string q0]) (h1 : e (.tmp i1) = .agg #[.string p1, .string q1]) (h2 : e (.tmp i2) = .agg #[.string p2, .string q2]) :
   (execOp e o).run Tryz.prog w = .ok (.value (.slice (some ⟨w.heap.size, 0, none⟩) 3 3)) (w.alloc (.cells #[.string p0, .string q0, .string p1, .string q1, .string p2, .string q2] 53)) := by
  unfold execOp
  rw [ho]
  simp only [List.map_toArray, List.map_cons, List.map_nil, h0, h1, h2]
  kernel_rfl
def extraR : List Rng := [⟨[43, 49, 48, 48, 48, 48], [43, 49, 48, 57, 57, 57]⟩, ⟨[43, 49, 48, 48, 48, 48, 48, 48, 48, 48, 48, 48, 48, 48, 48, 48], [43, 57, 57, 57, 57, 57, 57, 57, 57, 57, 57, 57, 57, 57, 57, 57]⟩, ⟨[43, 49, 57, 57, 57, 48], [43, 50, 48, 48, 49, 57]⟩]
theorem extra_cells (w : World) (r : Nat) (hr : r < 3) : (w.alloc (.cells #[.string ⟨#[43, 49, 48, 48, 48, 48]⟩, .string ⟨#[43, 49, 48, 57, 57, 57]⟩, .string ⟨#[43, 49, 48, 48, 48, 48, 48, 48, 48, 48, 48, 48, 48, 48, 48, 48]⟩, .string ⟨#[43, 57, 57, 57, 57, 57, 57, 57, 57, 57, 57, 57, 57, 57, 57, 57]⟩, .string ⟨#[43, 49, 57, 57, 57, 48]⟩, .string ⟨#[43, 50, 48, 48, 49, 57]⟩] 53)).cell? ⟨w.heap.size, r * 2, none⟩ = some (.string ⟨(extraR.getD r noRng).f.toArray⟩) ∧ (w.alloc (.cells #[.string ⟨#[43, 49, 48, 48, 48, 48]⟩, .string ⟨#[43, 49, 48, 57, 57, 57]⟩, .string ⟨#[43, 49, 48, 48, 48, 48, 48, 48, 48, 48, 48, 48, 48, 48, 48, 48]⟩, .string ⟨#[43, 57, 57, 57, 57, 57, 57, 57, 57, 57, 57, 57, 57, 57, 57, 57]⟩, .string ⟨#[43, 49, 57, 57, 57, 48]⟩, .string ⟨#[43, 50, 48, 48, 49, 57]⟩] 53)).cell? ⟨w.heap.size, r * 2 + 1, none⟩ = some (.string ⟨(extraR.getD r noRng).t.toArray⟩) := by
  match r, hr with
  | 0, _ => exact ⟨new_cell w _ _ (0, 0) 0, new_cell w _ _ (0, 0) 1⟩
  | 1, _ => exact ⟨new_cell w _ _ (0, 0) 2, new_cell w _ _ (0, 0) 3⟩
  | 2, _ => exact ⟨new_cell w _ _ (0, 0) 4, new_cell w _ _ (0, 0) 5⟩
theorem extra_short (r : Nat) : (extraR.getD r noRng).f.length ≤ 100 ∧ (extraR.getD r noRng).t.length ≤ 100 := by
  match r with
  | 0 | 1 | 2 => decide
  | r + 3 => simp [extraR, noRng]

theorem bs_f5 (e : Operand → Value) (he : ∀ v, e (.const v) = v) (o : Oper) (w : World) (i0 : Nat) (p0 : ByteArray) (p1 : ByteArray) (p2 : ByteArray) (p3 : ByteArray) (p4 : ByteArray) (ho : o.op = .buildSlice 36 5 #[(0, .tmp i0), (1, .const (.string p1)), (2, .const (.string p2)), (3, .const (.string p3)), (4, .const (.string p4))]) (h0 : e (.tmp i0) = .string p0):
   (execOp e o).run Tryz.prog w = .ok (.value (.slice (some ⟨w.heap.size, 0, none⟩) 5 5)) (w.alloc (.cells #[.string p0, .string p1, .string p2, .string p3, .string p4] 9)) := by
  unfold execOp
  rw [ho]
  simp only [List.map_toArray, List.map_cons, List.map_nil, he, h0]
  kernel_rfl
theorem bs_t4 (e : Operand → Value) (he : ∀ v, e (.const v) = v) (o : Oper) (w : World) (i0 : Nat) (p0 : ByteArray) (p1 : ByteArray) (p2 : ByteArray) (p3 : ByteArray) (ho : o.op = .buildSlice 36 4 #[(0, .tmp i0), (1, .const (.string p1)), (2, .const (.string p2)), (3, .const (.string p3))]) (h0 : e (.tmp i0) = .string p0):
   (execOp e o).run Tryz.prog w = .ok (.value (.slice (some ⟨w.heap.size, 0, none⟩) 4 4)) (w.alloc (.cells #[.string p0, .string p1, .string p2, .string p3] 9)) := by
  unfold execOp
  rw [ho]
  simp only [List.map_toArray, List.map_cons, List.map_nil, he, h0]
  kernel_rfl
theorem f5_short {f : List UInt8} (h : f.length ≤ 100) (k : Nat) : (([f, [43, 48, 49, 50, 51], [49, 50, 51, 52], [43, 49, 50, 51], [43, 53, 48, 48, 48]] : List (List UInt8)).getD k []).length ≤ 100 := by
  match k with
  | 0 => simpa using h
  | 1 | 2 | 3 | 4 => simp
  | k + 5 => simp
theorem t4_short {t : List UInt8} (h : t.length ≤ 100) (k : Nat) : (([t, [43, 57, 57, 57, 57, 57], [43, 49, 48, 48, 48], []] : List (List UInt8)).getD k []).length ≤ 100 := by
  match k with
  | 0 => simpa using h
  | 1 | 2 | 3 => simp
  | k + 4 => simp
theorem wp_skip2 {P : Program} {o : Oper} {a : Act} {w w' : World} {K : Act → World → Prop} {Q : Exit → Act → World → Prop} (h : (execOp a.eval o).run P w = .ok .skip w') (hK : K (a.put o.dst undef) w') : Oper.wp P o a w K Q := by
  unfold Oper.wp; rw [h]; exact hK
/-- A row of strings in a block of its own. -/
def Lst (S : Nat) (W : World) (B n : Nat) (vals : List (List UInt8)) : Prop := B < W.heap.size ∧ B ≠ S ∧ ∀ i, i < n → W.cell? ⟨B, i, none⟩ = some (.string ⟨(vals.getD i []).toArray⟩)
theorem Lst.keeps {S B n : Nat} {W W' : World} {vals : List (List UInt8)} (h : Lst S W B n vals) (k : Keeps S W W') : Lst S W' B n vals :=
  ⟨Nat.lt_of_lt_of_le h.1 k.size, h.2.1, fun i hi => (k.cell (p := ⟨B, i, none⟩) h.1 h.2.1).trans (h.2.2 i hi)⟩
theorem lst_new (S : Nat) (W : World) (hS : S < W.heap.size) (vals : List (List UInt8)) (cs : Array Value) (hcs : cs.toList = vals.map fun s => Value.string ⟨s.toArray⟩) (n : Nat) (hn : n = vals.length) : Lst S (W.alloc (.cells cs 9)) W.heap.size n vals := by
  subst hn
  have hcs' : cs = (vals.map fun s => Value.string ⟨s.toArray⟩).toArray := by rw [← hcs]
  subst hcs'
  exact ⟨by simp, by omega, fun i hi => (new_cell W _ 9 (0, 0) i).trans (by simp [hi])⟩
theorem some_lst (S k B n : Nat) (vals : List (List UInt8)) (P : List UInt8 → Prop) (W : World) (h : StreamOk W S k) (hk : k ≤ 1000000000) (hL : Lst S W B n vals) (h1 : 1 ≤ n) (h2 : n ≤ 1000) (hP : ∀ i, P (vals.getD i [])) :
    Calls Tryz.prog 6 #[.pointer (some ⟨S, 0, none⟩), .slice (some ⟨B, 0, none⟩) n n] W (SomePost S (k + 1) P W) := some_any S k B n n vals P W h hk hL.1 hL.2.1 h1 h2 hL.2.2 (fun i _ => hP i)
theorem rng_at {w : World} {base g c : Nat} {l : List Rng} (h : w.ownsRow base 53 2 (.slice (some ⟨g, 0, none⟩) l.length c) l.length ((l.map Rng.cells).flatten)) (hs : Short l) {q : Nat} (hq : q < l.length) : w.cell? ⟨g, q * 2, none⟩ = some (.string ⟨(l.getD q noRng).f.toArray⟩) ∧ w.cell? ⟨g, q * 2 + 1, none⟩ = some (.string ⟨(l.getD q noRng).t.toArray⟩) ∧ (l.getD q noRng).f.length ≤ 100 ∧ (l.getD q noRng).t.length ≤ 100 := by
  have hl : ∀ c ∈ l.map Rng.cells, c.length = 2 := by intro x hx; obtain ⟨o, _, rfl⟩ := List.mem_map.1 hx; rfl
  have e := getD_map Rng.cells l q noRng [] hq
  have m : l.getD q noRng ∈ l := by rw [show l.getD q noRng = l[q] by simp [hq]]; exact List.getElem_mem hq
  have k0 := flat_at hl q (by simpa using hq) 0 (by omega)
  have k1 := flat_at hl q (by simpa using hq) 1 (by omega)
  rw [e] at k0 k1
  exact ⟨(h.cellAt (q * 2) (by omega)).trans k0, (h.cellAt (q * 2 + 1) (by omega)).trans k1, hs _ m⟩
theorem rng_set : ∀ (l : List Rng) (q : Nat), q < l.length → ∀ (x y : List UInt8), ((l.map Rng.cells).flatten.set (q * 2) (.string ⟨x.toArray⟩)).set (q * 2 + 1) (.string ⟨y.toArray⟩) = ((l.set q ⟨x, y⟩).map Rng.cells).flatten
  | [], q, h, _, _ => by simp at h
  | r :: l, 0, _, x, y => by simp [Rng.cells]
  | r :: l, q + 1, h, x, y => by
    have ih := rng_set l q (by simpa using h) x y
    have e1 : (q + 1) * 2 = q * 2 + 1 + 1 := by omega
    have e2 : (q + 1) * 2 + 1 = q * 2 + 1 + 1 + 1 := by omega
    rw [e1]
    simp only [List.map_cons, List.flatten_cons, Rng.cells, List.cons_append, List.nil_append, List.set_cons_succ]
    rw [← ih]
theorem own_soft {w : World} {base g n c m : Nat} {ty : TypeId} {sz : Nat} {xs : List Value} (h : w.ownsRow base ty sz (.slice (some ⟨g, 0, none⟩) n c) m xs) (j : Nat) : w.frozen? ⟨g, j, none⟩ = false := by
  rcases h.2 with ⟨h', _⟩ | ⟨g', cap', cur, h', hb, hg, _⟩
  · cases h'
  · cases h'
    simp [World.frozen?, hg]
theorem rng_store {w w6 W : World} {g c k S q : Nat} {l : List Rng} (hg : w.heap.size ≤ g) (ho : w6.ownsRow w.heap.size 53 2 (.slice (some ⟨g, 0, none⟩) l.length c) l.length ((l.map Rng.cells).flatten)) (hk : Keeps S w6 W) (hk6 : Keeps S w w6) (hs : StreamOk W S k) (hS : S < w.heap.size) (hsh : Short l) (hq : q < l.length) (x y : List UInt8) (hx : x.length ≤ 100) (hy : y.length ≤ 100) :
    ∃ l2 : List Rng, l2.length = l.length ∧ ((W.setCell ⟨g, q * 2, none⟩ (.string ⟨x.toArray⟩)).setCell ⟨g, q * 2 + 1, none⟩ (.string ⟨y.toArray⟩)).ownsRow w.heap.size 53 2 (.slice (some ⟨g, 0, none⟩) l.length c) l2.length ((l2.map Rng.cells).flatten) ∧ Short l2 ∧ StreamOk ((W.setCell ⟨g, q * 2, none⟩ (.string ⟨x.toArray⟩)).setCell ⟨g, q * 2 + 1, none⟩ (.string ⟨y.toArray⟩)) S k ∧ Keeps S w ((W.setCell ⟨g, q * 2, none⟩ (.string ⟨x.toArray⟩)).setCell ⟨g, q * 2 + 1, none⟩ (.string ⟨y.toArray⟩)) := by
  have h1 := ((own_keeps ho hk hS).stored (q * 2) (.string ⟨x.toArray⟩)).1
  have h2 := (h1.stored (q * 2 + 1) (.string ⟨y.toArray⟩)).1
  rw [rng_set l q hq] at h2
  refine ⟨l.set q ⟨x, y⟩, by simp, by rw [List.length_set]; exact h2, ?_, ?_, ?_⟩
  · intro r hr
    rcases List.mem_or_eq_of_mem_set hr with h | h
    · exact hsh r h
    · subst h; exact ⟨hx, hy⟩
  · refine hs.upto (((Below.refl _ W).setCell (p := ⟨g, q * 2, none⟩) ?_ _).setCell (p := ⟨g, q * 2 + 1, none⟩) ?_ _) <;> (show S + 1 ≤ g; omega)
  · exact ((hk6.trans hk).setCell_new (p := ⟨g, q * 2, none⟩) hg _).setCell_new (p := ⟨g, q * 2 + 1, none⟩) hg _
set_option maxRecDepth 100000 in
set_option maxHeartbeats 4000000 in
theorem ranges_any (S k : Nat) (w : World) (h : StreamOk w S k) (hk : k ≤ 1000000) (mn : Nat) (hm : mn ≤ 10) (touch : Bool) (hT : TabW S w) : Calls Tryz.prog 20 #[.pointer (some ⟨S, 0, none⟩), .int .i64 mn, .bool touch] w (RngsPost S (k + 60) mn w) := by
  obtain ⟨i1, hi1, hy0, hy1, hy2⟩ := info_parts Tryz.infoRange
  have HS := Lib.hid h
  have HT := Lib.hid hT
  have hSl := h.lt
  clear h hT
  go_enter Tryz.func20, Tryz.ntmps20
  go_wp2_with fail
  refine (pick_lit S k [1000, 1990, 4000] (fun x => 1000 ≤ x ∧ x ≤ 4000) _ _ _ HS.out (by omega) rfl rfl (by decide) (by decide) (by decide)).mono ?_
  rintro e w1 ⟨at0, rfl, ⟨a0, a1⟩, hst1, hk1⟩
  have HS1 := Lib.hid hst1
  have HK1 := Lib.hid hk1
  clear hst1 hk1 HS
  as_aux_lemma =>
    go_upto_block 0 with (fail)
    go_cut [7] (fun v7 wx => ∃ l : List Rng, l.length ≤ mn ∧ Hid (Short l) ∧ Hid (wx.ownsRow w.heap.size 53 2 v7 l.length ((l.map Rng.cells).flatten)) ∧ Hid (StreamOk wx S (k + 40)) ∧ Hid (Keeps S w wx))
    case first =>
      go_wp2_with fail
      go_loopw [7, 9, 16] (fun v7 v9 it wr => ∃ (i : Nat) (l : List Rng) (z : Int), i ≤ mn ∧ it = .int .i64 i ∧ v9 = .int .i64 z ∧ 0 ≤ z ∧ z ≤ 20000 ∧ l.length ≤ i ∧ Hid (Short l) ∧ Hid (wr.ownsRow w.heap.size 53 2 v7 l.length ((l.map Rng.cells).flatten)) ∧ Hid (StreamOk wr S (k + 1 + 3 * i)) ∧ Hid (Keeps S w wr)) (fun _ _ it _ => mn - (intOf it).toNat)
      case atStart => exact ⟨0, [], at0, Nat.zero_le _, rfl, rfl, by omega, by omega, Nat.le_refl _, (fun r hr => by cases hr), World.ownsRow_nil _ _ _ _, HS1.out, HK1.out⟩
      case round =>
        obtain ⟨i, l, z, hi, rfl, rfl, z0, z1, hli, HSH, HOW, HSR, HKR⟩ := hrel
        by_cases hlt : i < mn
        · skip
          as_aux_lemma =>
            go_wp2_with (first | (refine wpList_val rfl (bs_p6 _ (fun _ => rfl) _ _ rfl) ?_))
            refine (pick_lit S (k + 1 + 3 * i) [0, 0, 1, 9, 99, 300] (fun x => 0 ≤ x ∧ x ≤ 300) _ _ _ HSR.out (by omega) rfl rfl (by decide) (by decide) (by decide)).mono ?_
            rintro e w2 ⟨d, rfl, ⟨d0, d1⟩, hst2, hk2⟩
            have HS2 := Lib.hid hst2
            have HK2 := Lib.hid (HKR.out.trans hk2)
            have HO2 := Lib.hid (own_keeps HOW.out hk2 (by omega))
            have wz : IntKind.i64.wrap (z + d) = z + d := IntWalk.i64_in _ (by omega)
            clear hst2 hk2 HSR HKR HOW
            by_cases hbrk : 9999 < z + d
            · skip
              as_aux_lemma =>
                go_wp2_with fail
                go_meet
                exact ⟨l, by omega, HSH.out, HO2.out, HS2.out.mono (by omega), HK2.out⟩
            · have hz2 : S < w2.heap.size := HS2.out.lt
              have HT2 : Hid (∀ W, Below w2.heap.size w2 W → TabW S W) := fun W hW => tab_below (tab_keeps HT.out HK2.out hSl) hW (Nat.le_of_lt hz2)
              as_aux_lemma =>
                go_wp2_with fail
                refine (num_any z (by omega) (by omega) S _ (HT2.out _ (Below.refl _ _))).mono ?_
                rintro e w3 ⟨f, rfl, hfl, hb3⟩
                have HB3 := Lib.hid hb3
                clear hb3
                as_aux_lemma =>
                  go_wp2_with fail
                  refine (num_any (z + d) (by omega) (by omega) S _ (HT2.out _ HB3.out)).mono ?_
                  rintro e w4 ⟨t, rfl, htl, hb4⟩
                  have HB4 := Lib.hid (ext_trans HB3.out hb4)
                  have HK4 := Lib.hid (HK2.out.trans (Keeps.of_below HB4.out))
                  have HO4 := Lib.hid (own_keep HO2.out HB4.out)
                  have HS4 := Lib.hid (HS2.out.below HB4.out)
                  have HOA := Lib.hid (HO4.out.alloc (.cells #[.string ⟨f.toArray⟩, .string ⟨t.toArray⟩] 53))
                  have hwz : w.heap.size ≤ w4.heap.size := HK4.out.size
                  clear hb4 HB3 HB4 HK2 HO2 HS2 HT2
                  as_aux_lemma =>
                    go_wp2_with (first | (refine wpList_val rfl (bs_p5 _ (fun _ => rfl) _ _ rfl) ?_) | (at_builtin; refine wpList_append_own_at _ rfl (.tmp 25) (.tmp 33) 47 rfl w.heap.size 53 i1 _ 2 32 Tryz.underlying47 hi1 hy0 hy1 hy2 rfl (by omega) _ l.length _ rfl HOA.out ⟨w4.heap.size, 0, none⟩ 1 1 [.string ⟨f.toArray⟩, .string ⟨t.toArray⟩] rfl rfl (fun j u hj => by rw [add0]; match j, hj with | 0, hj => simp at hj; subst hj; go_simp | 1, hj => simp at hj; subst hj; go_simp) (by simp [Value.oneCell']) (by simp only [maxLen]; omega) (by omega) (by simp; omega) ?_; intro v5 w5 hown5 hgr5 _ _))
                    have HO5 : Hid (w5.ownsRow w.heap.size 53 2 v5 (l ++ [Rng.mk f t]).length (((l ++ [Rng.mk f t]).map Rng.cells).flatten)) := by
                      show World.ownsRow _ _ _ _ _ _ _
                      rw [cells_snoc, List.length_append]
                      exact hown5
                    have hup : Below (S + 1) w4 w5 := upto_grown hgr5 (by omega) (fun b e => by have := (HO4.out.lt b e).1; omega)
                    have HS5 := Lib.hid (HS4.out.upto hup)
                    have HK5 : Hid (Keeps S w w5) := HK4.out.grown hgr5 (fun b e => (HO4.out.lt b e).1)
                    have HSH5 : Hid (Short (l ++ [Rng.mk f t])) := short_snoc HSH.out (by show f.length ≤ 100; omega) (by show t.length ≤ 100; omega)
                    clear hown5 hgr5 hup HOA HO4 HS4 HK4
                    refine (pick_lit S (k + 1 + 3 * i + 1) [2, 2, 3, 10, 50] (fun x => 2 ≤ x ∧ x ≤ 50) _ _ _ HS5.out (by omega) rfl rfl (by decide) (by decide) (by decide)).mono ?_
                    rintro e w6 ⟨d2, rfl, ⟨d3, d4⟩, hst6, hk6⟩
                    have HS6 := Lib.hid hst6
                    have HK6 := Lib.hid (HK5.out.trans hk6)
                    have HO6 := Lib.hid (own_keeps HO5.out hk6 (by omega))
                    have wz2 : IntKind.i64.wrap (z + d + d2) = z + d + d2 := IntWalk.i64_in _ (by omega)
                    have wz3 : IntKind.i64.wrap (z + d + 1) = z + d + 1 := IntWalk.i64_in _ (by omega)
                    clear hst6 hk6 HS5 HK5 HO5 HSH
                    cases touch
                    · skip
                      as_aux_lemma =>
                        go_wp2_with fail
                        go_roundw
                        case rel => exact ⟨i + 1, l ++ [Rng.mk f t], z + d + d2, by omega, by go_num, rfl, by omega, by omega, by rw [List.length_append, List.length_singleton]; omega, HSH5.out, HO6.out, HS6.out.mono (by omega), HK6.out⟩
                        case measure => simp [intOf]; omega
                    · skip
                      as_aux_lemma =>
                        go_wp2_with fail
                        refine (flip_any S (k + 1 + 3 * i + 1 + 1) 2 _ HS6.out (by omega) (by decide) (by decide)).mono ?_
                        rintro e w7 ⟨fl, rfl, hst7, hk7⟩
                        have HS7 := Lib.hid hst7
                        have HK7 := Lib.hid (HK6.out.trans hk7)
                        have HO7 := Lib.hid (own_keeps HO6.out hk7 (by omega))
                        clear hst7 hk7 HS6 HK6 HO6
                        cases fl
                        · skip
                          as_aux_lemma =>
                            go_wp2_with fail
                            go_roundw
                            case rel => exact ⟨i + 1, l ++ [Rng.mk f t], z + d + d2, by omega, by go_num, rfl, by omega, by omega, by rw [List.length_append, List.length_singleton]; omega, HSH5.out, HO7.out, HS7.out.mono (by omega), HK7.out⟩
                            case measure => simp [intOf]; omega
                        · skip
                          as_aux_lemma =>
                            go_wp2_with fail
                            go_roundw
                            case rel => exact ⟨i + 1, l ++ [Rng.mk f t], z + d + 1, by omega, by go_num, rfl, by omega, by omega, by rw [List.length_append, List.length_singleton]; omega, HSH5.out, HO7.out, HS7.out.mono (by omega), HK7.out⟩
                            case measure => simp [intOf]; omega
        · obtain rfl : i = mn := by omega
          as_aux_lemma =>
            go_wp2_with fail
            go_meet
            exact ⟨l, by omega, HSH.out, HOW.out, HSR.out.mono (by omega), HKR.out⟩
    case rest =>
      obtain ⟨l, hll, HSH, HOW, HSR, HKR⟩ := hcut
      clear HS1 HK1
      as_aux_lemma =>
        go_wp2_with fail
        refine (flip_any S (k + 40) 3 _ HSR.out (by omega) (by decide) (by decide)).mono ?_
        rintro e w2 ⟨fl, rfl, hst2, hk2⟩
        have HS2 := Lib.hid hst2
        have HK2 := Lib.hid (HKR.out.trans hk2)
        have HO2 := Lib.hid (own_keeps HOW.out hk2 (by omega))
        clear hst2 hk2 HSR HKR HOW
        as_aux_lemma =>
          go_upto_if 49 with (fail)
          go_cut [7] (fun v7 wx => ∃ l : List Rng, l.length ≤ mn + 1 ∧ Hid (Short l) ∧ Hid (wx.ownsRow w.heap.size 53 2 v7 l.length ((l.map Rng.cells).flatten)) ∧ Hid (StreamOk wx S (k + 42)) ∧ Hid (Keeps S w wx))
          case first =>
            cases fl
            · skip
              as_aux_lemma =>
                go_wp2_with fail
                go_meet
                exact ⟨l, by omega, HSH.out, HO2.out, HS2.out.mono (by omega), HK2.out⟩
            · have hS2 := HS2.out.lt
              have HE := Lib.hid (extra_cells w2)
              have HOB := Lib.hid (HO2.out.alloc (.cells #[.string ⟨#[43, 49, 48, 48, 48, 48]⟩, .string ⟨#[43, 49, 48, 57, 57, 57]⟩, .string ⟨#[43, 49, 48, 48, 48, 48, 48, 48, 48, 48, 48, 48, 48, 48, 48, 48]⟩, .string ⟨#[43, 57, 57, 57, 57, 57, 57, 57, 57, 57, 57, 57, 57, 57, 57, 57]⟩, .string ⟨#[43, 49, 57, 57, 57, 48]⟩, .string ⟨#[43, 50, 48, 48, 49, 57]⟩] 53))
              have HSB : Hid (StreamOk (w2.alloc (.cells #[.string ⟨#[43, 49, 48, 48, 48, 48]⟩, .string ⟨#[43, 49, 48, 57, 57, 57]⟩, .string ⟨#[43, 49, 48, 48, 48, 48, 48, 48, 48, 48, 48, 48, 48, 48, 48, 48]⟩, .string ⟨#[43, 57, 57, 57, 57, 57, 57, 57, 57, 57, 57, 57, 57, 57, 57, 57]⟩, .string ⟨#[43, 49, 57, 57, 57, 48]⟩, .string ⟨#[43, 50, 48, 48, 49, 57]⟩] 53)) S (k + 40 + 1)) := HS2.out.below (ext_alloc (Below.refl _ _))
              have HKB : Hid (Keeps S w (w2.alloc (.cells #[.string ⟨#[43, 49, 48, 48, 48, 48]⟩, .string ⟨#[43, 49, 48, 57, 57, 57]⟩, .string ⟨#[43, 49, 48, 48, 48, 48, 48, 48, 48, 48, 48, 48, 48, 48, 48, 48]⟩, .string ⟨#[43, 57, 57, 57, 57, 57, 57, 57, 57, 57, 57, 57, 57, 57, 57, 57]⟩, .string ⟨#[43, 49, 57, 57, 57, 48]⟩, .string ⟨#[43, 50, 48, 48, 49, 57]⟩] 53))) := HK2.out.alloc _
              have hze : (w2.alloc (.cells #[.string ⟨#[43, 49, 48, 48, 48, 48]⟩, .string ⟨#[43, 49, 48, 57, 57, 57]⟩, .string ⟨#[43, 49, 48, 48, 48, 48, 48, 48, 48, 48, 48, 48, 48, 48, 48, 48]⟩, .string ⟨#[43, 57, 57, 57, 57, 57, 57, 57, 57, 57, 57, 57, 57, 57, 57, 57]⟩, .string ⟨#[43, 49, 57, 57, 57, 48]⟩, .string ⟨#[43, 50, 48, 48, 49, 57]⟩] 53)).heap.size = w2.heap.size + 1 := by simp
              as_aux_lemma =>
                go_wp2_with (first | (refine wpList_val rfl (bs_r3 _ _ _ _ _ _ _ _ _ _ _ _ rfl rfl rfl rfl) ?_))
                generalize w2.alloc (.cells #[.string ⟨#[43, 49, 48, 48, 48, 48]⟩, .string ⟨#[43, 49, 48, 57, 57, 57]⟩, .string ⟨#[43, 49, 48, 48, 48, 48, 48, 48, 48, 48, 48, 48, 48, 48, 48, 48]⟩, .string ⟨#[43, 57, 57, 57, 57, 57, 57, 57, 57, 57, 57, 57, 57, 57, 57, 57]⟩, .string ⟨#[43, 49, 57, 57, 57, 48]⟩, .string ⟨#[43, 50, 48, 48, 49, 57]⟩] 53) = W3 at HE HOB HSB HKB hze ⊢
                refine (next_any S (k + 40 + 1) 3 _ HSB.out (by omega) (by decide) (by decide)).mono ?_
                rintro e w4 ⟨r, rfl, r0, r1, hst4, hk4⟩
                obtain ⟨r, rfl⟩ := Int.eq_ofNat_of_zero_le r0
                have hr3 : r < 3 := by omega
                obtain ⟨x0, x1⟩ := HE.out r hr3
                obtain ⟨y0, y1⟩ := extra_short r
                have c0 := (hk4.cell (p := ⟨w2.heap.size, r * 2, none⟩) (by show w2.heap.size < _; omega) (by show w2.heap.size ≠ S; omega)).trans x0
                have c1 := (hk4.cell (p := ⟨w2.heap.size, r * 2 + 1, none⟩) (by show w2.heap.size < _; omega) (by show w2.heap.size ≠ S; omega)).trans x1
                have HS4 := Lib.hid hst4
                have HK4 := Lib.hid (HKB.out.trans hk4)
                have HO4 := Lib.hid (own_keeps HOB.out hk4 (by omega))
                generalize extraR.getD r noRng = x at c0 c1 y0 y1
                obtain ⟨f, t⟩ := x
                simp only at c0 c1 y0 y1
                have HOA := Lib.hid (HO4.out.alloc (.cells #[.string ⟨f.toArray⟩, .string ⟨t.toArray⟩] 53))
                have hwz : w.heap.size ≤ w4.heap.size := HK4.out.size
                clear hst4 hk4 x0 x1 HE HOB HSB HKB HO2 HS2 HK2
                as_aux_lemma =>
                  go_wp2_with (at_builtin; refine wpList_append_own_at _ rfl (.tmp 50) (.tmp 59) 47 rfl w.heap.size 53 i1 _ 2 32 Tryz.underlying47 hi1 hy0 hy1 hy2 rfl (by omega) _ l.length _ rfl HOA.out ⟨w4.heap.size, 0, none⟩ 1 1 [.string ⟨f.toArray⟩, .string ⟨t.toArray⟩] rfl rfl (fun j u hj => by rw [add0]; match j, hj with | 0, hj => simp at hj; subst hj; go_simp | 1, hj => simp at hj; subst hj; go_simp) (by simp [Value.oneCell']) (by simp only [maxLen]; omega) (by omega) (by simp; omega) ?_; intro v5 w5 hown5 hgr5 _ _)
                  have HO5 : Hid (w5.ownsRow w.heap.size 53 2 v5 (l ++ [Rng.mk f t]).length (((l ++ [Rng.mk f t]).map Rng.cells).flatten)) := by
                    show World.ownsRow _ _ _ _ _ _ _
                    rw [cells_snoc, List.length_append]
                    exact hown5
                  have hup : Below (S + 1) w4 w5 := upto_grown hgr5 (by omega) (fun b e => by have := (HO4.out.lt b e).1; omega)
                  have HS5 := Lib.hid (HS4.out.upto hup)
                  have HK5 : Hid (Keeps S w w5) := HK4.out.grown hgr5 (fun b e => (HO4.out.lt b e).1)
                  have HSH5 : Hid (Short (l ++ [Rng.mk f t])) := short_snoc HSH.out y0 y1
                  clear hown5 hgr5 hup HOA HO4 HS4 HK4
                  go_meet
                  exact ⟨l ++ [Rng.mk f t], by rw [List.length_append, List.length_singleton]; omega, HSH5.out, HO5.out, HS5.out.mono (by omega), HK5.out⟩
          case rest =>
            obtain ⟨l, hll, HSH, HOW, HSR, HKR⟩ := hcut
            obtain ⟨a7, c7, rfl⟩ := own_shape HOW.out
            clear HS2 HK2 HO2
            by_cases hl0 : l.length = 0
            · obtain rfl : l = [] := List.length_eq_zero_iff.1 hl0
              have HOW2 : Hid (wc.ownsRow w.heap.size 53 2 (.slice a7 0 c7) 0 []) := HOW
              clear hl0
              as_aux_lemma =>
                go_wp2_with fail
                go_ret
                exact ⟨_, [], rfl, HOW2.out, Nat.zero_le _, HSH.out, HSR.out.mono (by omega), HKR.out⟩
            · have hl0I : (0 : Int) < (l.length : Int) := by omega
              have hl0N : 0 < l.length := by omega
              clear hl0
              as_aux_lemma =>
                go_wp2_with fail
                refine (flip_any S (k + 42) 12 _ HSR.out (by omega) (by decide) (by decide)).mono ?_
                rintro e w5 ⟨fl5, rfl, hst5, hk5⟩
                have HS5 := Lib.hid hst5
                have HK5 := Lib.hid (HKR.out.trans hk5)
                have HO5 := Lib.hid (own_keeps HOW.out hk5 (by omega))
                clear hst5 hk5 HSR HKR HOW
                cases fl5
                · skip
                  as_aux_lemma =>
                    go_wp2_with fail
                    go_ret
                    exact ⟨_, l, rfl, HO5.out, hll, HSH.out, HS5.out.mono (by omega), HK5.out⟩
                · skip
                  as_aux_lemma =>
                    go_wp2_with fail
                    refine (next_any S (k + 42 + 1) l.length _ HS5.out (by omega) (by omega) (by omega)).mono ?_
                    rintro e w6 ⟨q, rfl, q0, q1, hst6, hk6⟩
                    obtain ⟨q, rfl⟩ := Int.eq_ofNat_of_zero_le q0
                    have hq : q < l.length := by omega
                    have HS6 := Lib.hid hst6
                    have HK6 := Lib.hid (HK5.out.trans hk6)
                    have HO6 := Lib.hid (own_keeps HO5.out hk6 (by omega))
                    clear hst6 hk6 HS5 HK5 HO5
                    obtain ⟨p, hp⟩ : ∃ p, l.length = p + 1 := ⟨l.length - 1, by omega⟩
                    obtain ⟨g, rfl, hg1, hg2⟩ : ∃ g, a7 = some ⟨g, 0, none⟩ ∧ w.heap.size ≤ g ∧ g < w6.heap.size := by
                      have h1 := HO6.out
                      rw [hp] at h1
                      obtain ⟨g, c, h2, h3, h4⟩ := own_row1 h1
                      injection h2 with h5
                      exact ⟨g, h5, h3, h4⟩
                    clear hp
                    as_aux_lemma =>
                      go_upto_region 17 with (fail)
                      have hS6 : S < w.heap.size := hSl
                      have hgS : g ≠ S := by omega
                      obtain ⟨c0, c1, hf9, ht9⟩ : w6.cell? ⟨g, q * 2, none⟩ = some (.string ⟨(l.getD q noRng).f.toArray⟩) ∧ w6.cell? ⟨g, q * 2 + 1, none⟩ = some (.string ⟨(l.getD q noRng).t.toArray⟩) ∧ (l.getD q noRng).f.length ≤ 100 ∧ (l.getD q noRng).t.length ≤ 100 := rng_at HO6.out HSH.out hq
                      generalize l.getD q noRng = x at c0 c1 hf9 ht9
                      obtain ⟨f, t⟩ := x
                      simp only at c0 c1 hf9 ht9
                      obtain ⟨d0, d1⟩ : w6.frozen? ⟨g, q * 2, none⟩ = false ∧ w6.frozen? ⟨g, q * 2 + 1, none⟩ = false := ⟨own_soft HO6.out _, own_soft HO6.out _⟩
                      have HT0 : Hid ((fun _ : World => True) w6.drew) := True.intro
                      have HSd : Hid (StreamOk w6.drew S (k + 44)) := HS6.out.below (ext_drew (Below.refl _ _))
                      have HKd : Hid (Keeps S w6 w6.drew) := (Keeps.refl _ _).drew
                      refine wp_region_any rfl ?_
                      refine wpAny_of_held (S := fun _ => True) _ _ _ _ ?_
                      show wpAnyH _ _ _ _ _ _ _ _ w6.drew
                      generalize w6.drew = wd at HSd HKd ⊢
                      refine wpAnyH_take (i := 0) (v := .pointer (some ⟨g, q * 2, none⟩)) rfl (by kernel_rfl) (by kernel_rfl) (by kernel_rfl) (fun _ _ _ h => h) (Or.inl ⟨rfl, fun W hW => by go_simp⟩) trivial ?_
                      simp only [Act.put, List.getElem_toArray, List.getElem_cons_succ, List.getElem_cons_zero, List.setIfInBounds_toArray, List.set_cons_zero, List.set_cons_succ]
                      refine wpAnyH_take (i := 1) (v := .pointer (some ⟨g, q * 2, none⟩)) rfl (by kernel_rfl) (by kernel_rfl) (by kernel_rfl) (fun _ _ _ h => h) (Or.inl ⟨rfl, fun W hW => by go_simp⟩) trivial ?_
                      simp only [Act.put, List.getElem_toArray, List.getElem_cons_succ, List.getElem_cons_zero, List.setIfInBounds_toArray, List.set_cons_zero, List.set_cons_succ]
                      refine wpAnyH_take (i := 2) (v := .pointer (some ⟨S, 0, none⟩)) rfl (by kernel_rfl) (by kernel_rfl) (by kernel_rfl) (fun _ _ _ h => h) (Or.inl ⟨rfl, fun W hW => by go_simp⟩) trivial ?_
                      simp only [Act.put, List.getElem_toArray, List.getElem_cons_succ, List.getElem_cons_zero, List.setIfInBounds_toArray, List.set_cons_zero, List.set_cons_succ]
                      refine wpAnyH_take (i := 3) (v := .pointer (some ⟨g, q * 2, none⟩)) rfl (by kernel_rfl) (by kernel_rfl) (by kernel_rfl) (fun _ _ _ h => h) (Or.inl ⟨rfl, fun W hW => by go_simp⟩) trivial ?_
                      simp only [Act.put, List.getElem_toArray, List.getElem_cons_succ, List.getElem_cons_zero, List.setIfInBounds_toArray, List.set_cons_zero, List.set_cons_succ]
                      refine wpAnyH_take (i := 4) (v := .pointer (some ⟨g, q * 2, none⟩)) rfl (by kernel_rfl) (by kernel_rfl) (by kernel_rfl) (fun _ _ _ h => h) (Or.inl ⟨rfl, fun W hW => by go_simp⟩) trivial ?_
                      simp only [Act.put, List.getElem_toArray, List.getElem_cons_succ, List.getElem_cons_zero, List.setIfInBounds_toArray, List.set_cons_zero, List.set_cons_succ]
                      refine wpAnyH_take (i := 5) (v := .pointer (some ⟨g, q * 2, none⟩)) rfl (by kernel_rfl) (by kernel_rfl) (by kernel_rfl) (fun _ _ _ h => h) (Or.inl ⟨rfl, fun W hW => by go_simp⟩) trivial ?_
                      simp only [Act.put, List.getElem_toArray, List.getElem_cons_succ, List.getElem_cons_zero, List.setIfInBounds_toArray, List.set_cons_zero, List.set_cons_succ]
                      refine wpAnyH_take (i := 9) (v := .pointer (some ⟨S, 0, none⟩)) rfl (by kernel_rfl) (by kernel_rfl) (by kernel_rfl) (fun _ _ _ h => h) (Or.inl ⟨rfl, fun W hW => by go_simp⟩) trivial ?_
                      simp only [Act.put, List.getElem_toArray, List.getElem_cons_succ, List.getElem_cons_zero, List.setIfInBounds_toArray, List.set_cons_zero, List.set_cons_succ]
                      refine wpAnyH_take (i := 10) (v := .pointer (some ⟨g, q * 2, none⟩)) rfl (by kernel_rfl) (by kernel_rfl) (by kernel_rfl) (fun _ _ _ h => h) (Or.inl ⟨rfl, fun W hW => by go_simp⟩) trivial ?_
                      simp only [Act.put, List.getElem_toArray, List.getElem_cons_succ, List.getElem_cons_zero, List.setIfInBounds_toArray, List.set_cons_zero, List.set_cons_succ]
                      refine wpAnyH_take (i := 11) (v := .pointer (some ⟨g, q * 2, none⟩)) rfl (by kernel_rfl) (by kernel_rfl) (by kernel_rfl) (fun _ _ _ h => h) (Or.inl ⟨rfl, fun W hW => by go_simp⟩) trivial ?_
                      simp only [Act.put, List.getElem_toArray, List.getElem_cons_succ, List.getElem_cons_zero, List.setIfInBounds_toArray, List.set_cons_zero, List.set_cons_succ]
                      refine wpAnyH_take (i := 12) (v := .pointer (some ⟨g, q * 2 + 1, none⟩)) rfl (by kernel_rfl) (by kernel_rfl) (by kernel_rfl) (fun _ _ _ h => h) (Or.inl ⟨rfl, fun W hW => by go_simp⟩) trivial ?_
                      simp only [Act.put, List.getElem_toArray, List.getElem_cons_succ, List.getElem_cons_zero, List.setIfInBounds_toArray, List.set_cons_zero, List.set_cons_succ]
                      as_aux_lemma =>
                        refine wpAnyH_all (rs := [6, 13]) (by kernel_rfl) (by simp) (fun i hi => ?_)
                        simp only [List.mem_cons, List.not_mem_nil, or_false] at hi
                        rcases hi with rfl | rfl
                        · have z1 := (HKd.out.cell (p := ⟨g, q * 2, none⟩) hg2 hgS).trans c0
                          refine op_at rfl rfl (wp_made (v := .string ⟨f.toArray⟩) (w' := wd) (by go_simp) ⟨trivial, ?_⟩)
                          clear z1
                          simp only [Act.put, List.getElem_toArray, List.getElem_cons_succ, List.getElem_cons_zero, List.setIfInBounds_toArray, List.set_cons_zero, List.set_cons_succ]
                          as_aux_lemma =>
                            refine wpAnyH_all (rs := [7, 13]) (by kernel_rfl) (by simp) (fun i hi => ?_)
                            simp only [List.mem_cons, List.not_mem_nil, or_false] at hi
                            rcases hi with rfl | rfl
                            · refine op_at rfl rfl (wp_made (v := .slice (some ⟨wd.heap.size, 0, none⟩) 5 5) (w' := wd.alloc (.cells #[.string ⟨f.toArray⟩, .string ⟨#[43, 48, 49, 50, 51]⟩, .string ⟨#[49, 50, 51, 52]⟩, .string ⟨#[43, 49, 50, 51]⟩, .string ⟨#[43, 53, 48, 48, 48]⟩] 9)) (bs_f5 _ (fun _ => rfl) _ _ _ _ _ _ _ _ rfl rfl) ⟨trivial, ?_⟩)
                              simp only [Act.put, List.getElem_toArray, List.getElem_cons_succ, List.getElem_cons_zero, List.setIfInBounds_toArray, List.set_cons_zero, List.set_cons_succ]
                              have L3 : Hid (Lst S (wd.alloc (.cells #[.string ⟨f.toArray⟩, .string ⟨#[43, 48, 49, 50, 51]⟩, .string ⟨#[49, 50, 51, 52]⟩, .string ⟨#[43, 49, 50, 51]⟩, .string ⟨#[43, 53, 48, 48, 48]⟩] 9)) wd.heap.size 5 [f, [43, 48, 49, 50, 51], [49, 50, 51, 52], [43, 49, 50, 51], [43, 53, 48, 48, 48]]) := lst_new S wd HSd.out.lt [f, [43, 48, 49, 50, 51], [49, 50, 51, 52], [43, 49, 50, 51], [43, 53, 48, 48, 48]] #[.string ⟨f.toArray⟩, .string ⟨#[43, 48, 49, 50, 51]⟩, .string ⟨#[49, 50, 51, 52]⟩, .string ⟨#[43, 49, 50, 51]⟩, .string ⟨#[43, 53, 48, 48, 48]⟩] rfl _ rfl
                              have HS4 : Hid (StreamOk (wd.alloc (.cells #[.string ⟨f.toArray⟩, .string ⟨#[43, 48, 49, 50, 51]⟩, .string ⟨#[49, 50, 51, 52]⟩, .string ⟨#[43, 49, 50, 51]⟩, .string ⟨#[43, 53, 48, 48, 48]⟩] 9)) S (k + 44)) := HSd.out.below (ext_alloc (Below.refl _ _))
                              have HK5 : Hid (Keeps S w6 (wd.alloc (.cells #[.string ⟨f.toArray⟩, .string ⟨#[43, 48, 49, 50, 51]⟩, .string ⟨#[49, 50, 51, 52]⟩, .string ⟨#[43, 49, 50, 51]⟩, .string ⟨#[43, 53, 48, 48, 48]⟩] 9))) := HKd.out.alloc _
                              generalize wd.alloc (.cells #[.string ⟨f.toArray⟩, .string ⟨#[43, 48, 49, 50, 51]⟩, .string ⟨#[49, 50, 51, 52]⟩, .string ⟨#[43, 49, 50, 51]⟩, .string ⟨#[43, 53, 48, 48, 48]⟩] 9) = W2 at L3 HS4 HK5 ⊢
                              generalize wd.heap.size = B6 at L3 ⊢
                              as_aux_lemma =>
                                refine wpAnyH_all (rs := [8, 13]) (by kernel_rfl) (by simp) (fun i hi => ?_)
                                simp only [List.mem_cons, List.not_mem_nil, or_false] at hi
                                rcases hi with rfl | rfl
                                · refine op_at rfl rfl (gen_call 6 #[.pointer (some ⟨S, 0, none⟩), .slice (some ⟨B6, 0, none⟩) 5 5] (by go_simp) (some_lst S (k + 44) B6 5 [f, [43, 48, 49, 50, 51], [49, 50, 51, 52], [43, 49, 50, 51], [43, 53, 48, 48, 48]] (fun s => s.length ≤ 100) W2 HS4.out (by omega) L3.out (by omega) (by omega) (f5_short hf9)) ?_)
                                  rintro e W7 ⟨x1, rfl, hx1, hsW7, hkW7⟩
                                  have HS8 := Lib.hid hsW7
                                  have HK9 := Lib.hid (HK5.out.trans hkW7)
                                  have hx1 : x1.length ≤ 100 := hx1
                                  clear hsW7 hkW7
                                  refine ⟨_, rfl, trivial, ?_⟩
                                  simp only [Act.put, List.getElem_toArray, List.getElem_cons_succ, List.getElem_cons_zero, List.setIfInBounds_toArray, List.set_cons_zero, List.set_cons_succ]
                                  as_aux_lemma =>
                                    refine wpAnyH_all (rs := [13]) (by kernel_rfl) (by simp) (fun i hi => ?_)
                                    obtain rfl := List.mem_singleton.1 hi
                                    have z10 := (HK9.out.cell (p := ⟨g, q * 2 + 1, none⟩) hg2 hgS).trans c1
                                    refine op_at rfl rfl (wp_made (v := .string ⟨t.toArray⟩) (w' := W7) (by go_simp) ⟨trivial, ?_⟩)
                                    clear z10
                                    simp only [Act.put, List.getElem_toArray, List.getElem_cons_succ, List.getElem_cons_zero, List.setIfInBounds_toArray, List.set_cons_zero, List.set_cons_succ]
                                    as_aux_lemma =>
                                      refine wpAnyH_all (rs := [14]) (by kernel_rfl) (by simp) (fun i hi => ?_)
                                      obtain rfl := List.mem_singleton.1 hi
                                      refine op_at rfl rfl (wp_made (v := .slice (some ⟨W7.heap.size, 0, none⟩) 4 4) (w' := W7.alloc (.cells #[.string ⟨t.toArray⟩, .string ⟨#[43, 57, 57, 57, 57, 57]⟩, .string ⟨#[43, 49, 48, 48, 48]⟩, .string ⟨#[]⟩] 9)) (bs_t4 _ (fun _ => rfl) _ _ _ _ _ _ _ rfl rfl) ⟨trivial, ?_⟩)
                                      simp only [Act.put, List.getElem_toArray, List.getElem_cons_succ, List.getElem_cons_zero, List.setIfInBounds_toArray, List.set_cons_zero, List.set_cons_succ]
                                      have L12 : Hid (Lst S (W7.alloc (.cells #[.string ⟨t.toArray⟩, .string ⟨#[43, 57, 57, 57, 57, 57]⟩, .string ⟨#[43, 49, 48, 48, 48]⟩, .string ⟨#[]⟩] 9)) W7.heap.size 4 [t, [43, 57, 57, 57, 57, 57], [43, 49, 48, 48, 48], []]) := lst_new S W7 HS8.out.lt [t, [43, 57, 57, 57, 57, 57], [43, 49, 48, 48, 48], []] #[.string ⟨t.toArray⟩, .string ⟨#[43, 57, 57, 57, 57, 57]⟩, .string ⟨#[43, 49, 48, 48, 48]⟩, .string ⟨#[]⟩] rfl _ rfl
                                      have HS13 : Hid (StreamOk (W7.alloc (.cells #[.string ⟨t.toArray⟩, .string ⟨#[43, 57, 57, 57, 57, 57]⟩, .string ⟨#[43, 49, 48, 48, 48]⟩, .string ⟨#[]⟩] 9)) S (k + 44 + 1)) := HS8.out.below (ext_alloc (Below.refl _ _))
                                      have HK14 : Hid (Keeps S w6 (W7.alloc (.cells #[.string ⟨t.toArray⟩, .string ⟨#[43, 57, 57, 57, 57, 57]⟩, .string ⟨#[43, 49, 48, 48, 48]⟩, .string ⟨#[]⟩] 9))) := HK9.out.alloc _
                                      generalize W7.alloc (.cells #[.string ⟨t.toArray⟩, .string ⟨#[43, 57, 57, 57, 57, 57]⟩, .string ⟨#[43, 49, 48, 48, 48]⟩, .string ⟨#[]⟩] 9) = W11 at L12 HS13 HK14 ⊢
                                      generalize W7.heap.size = B15 at L12 ⊢
                                      as_aux_lemma =>
                                        refine wpAnyH_all (rs := [15]) (by kernel_rfl) (by simp) (fun i hi => ?_)
                                        obtain rfl := List.mem_singleton.1 hi
                                        refine op_at rfl rfl (gen_call 6 #[.pointer (some ⟨S, 0, none⟩), .slice (some ⟨B15, 0, none⟩) 4 4] (by go_simp) (some_lst S (k + 44 + 1) B15 4 [t, [43, 57, 57, 57, 57, 57], [43, 49, 48, 48, 48], []] (fun s => s.length ≤ 100) W11 HS13.out (by omega) L12.out (by omega) (by omega) (t4_short ht9)) ?_)
                                        rintro e W16 ⟨x2, rfl, hx2, hsW16, hkW16⟩
                                        have HS17 := Lib.hid hsW16
                                        have HK18 := Lib.hid (HK14.out.trans hkW16)
                                        have hx2 : x2.length ≤ 100 := hx2
                                        clear hsW16 hkW16
                                        refine ⟨_, rfl, trivial, ?_⟩
                                        simp only [Act.put, List.getElem_toArray, List.getElem_cons_succ, List.getElem_cons_zero, List.setIfInBounds_toArray, List.set_cons_zero, List.set_cons_succ]
                                        as_aux_lemma =>
                                          refine wpAnyH_take (i := 16) (v := .pointer (some ⟨g, q * 2, none⟩)) rfl (by kernel_rfl) (by kernel_rfl) (by kernel_rfl) (fun _ _ _ h => h) (Or.inl ⟨rfl, fun W hW => by go_simp⟩) trivial ?_
                                          simp only [Act.put, List.getElem_toArray, List.getElem_cons_succ, List.getElem_cons_zero, List.setIfInBounds_toArray, List.set_cons_zero, List.set_cons_succ]
                                          refine wpAnyH_take (i := 17) (v := .pointer (some ⟨g, q * 2, none⟩)) rfl (by kernel_rfl) (by kernel_rfl) (by kernel_rfl) (fun _ _ _ h => h) (Or.inl ⟨rfl, fun W hW => by go_simp⟩) trivial ?_
                                          simp only [Act.put, List.getElem_toArray, List.getElem_cons_succ, List.getElem_cons_zero, List.setIfInBounds_toArray, List.set_cons_zero, List.set_cons_succ]
                                          obtain ⟨l2, hl2, ho2, hsh2, hst2, hkp2⟩ := rng_store hg1 HO6.out HK18.out HK6.out HS17.out (by omega) HSH.out hq x1 x2 hx1 hx2
                                          have z1 := (HK18.out.cell (p := ⟨g, q * 2, none⟩) hg2 hgS).trans c0
                                          have z2 := (HK18.out.cell (p := ⟨g, q * 2 + 1, none⟩) hg2 hgS).trans c1
                                          have z3 : W16.frozen? ⟨g, q * 2, none⟩ = false := (HK18.out.frozen (p := ⟨g, q * 2, none⟩) hg2 hgS).trans d0
                                          have z4 : W16.frozen? ⟨g, q * 2 + 1, none⟩ = false := (HK18.out.frozen (p := ⟨g, q * 2 + 1, none⟩) hg2 hgS).trans d1
                                          refine wpAnyH_all (rs := [18]) (by kernel_rfl) (by simp) (fun i hi => ?_)
                                          obtain rfl := List.mem_singleton.1 hi
                                          refine op_at rfl rfl (wp_skip2 (w' := W16.setCell ⟨g, q * 2, none⟩ (.string ⟨x1.toArray⟩)) (by go_simp) ⟨trivial, ?_⟩)
                                          simp only [Act.put, List.getElem_toArray, List.getElem_cons_succ, List.getElem_cons_zero, List.setIfInBounds_toArray, List.set_cons_zero, List.set_cons_succ]
                                          refine wpAnyH_take (i := 19) (v := .pointer (some ⟨g, q * 2, none⟩)) rfl (by kernel_rfl) (by kernel_rfl) (by kernel_rfl) (fun _ _ _ h => h) (Or.inl ⟨rfl, fun W hW => by go_simp⟩) trivial ?_
                                          simp only [Act.put, List.getElem_toArray, List.getElem_cons_succ, List.getElem_cons_zero, List.setIfInBounds_toArray, List.set_cons_zero, List.set_cons_succ]
                                          refine wpAnyH_take (i := 20) (v := .pointer (some ⟨g, q * 2 + 1, none⟩)) rfl (by kernel_rfl) (by kernel_rfl) (by kernel_rfl) (fun _ _ _ h => h) (Or.inl ⟨rfl, fun W hW => by go_simp⟩) trivial ?_
                                          simp only [Act.put, List.getElem_toArray, List.getElem_cons_succ, List.getElem_cons_zero, List.setIfInBounds_toArray, List.set_cons_zero, List.set_cons_succ]
                                          refine wpAnyH_all (rs := [21]) (by kernel_rfl) (by simp) (fun i hi => ?_)
                                          obtain rfl := List.mem_singleton.1 hi
                                          refine op_at rfl rfl (wp_skip2 (w' := (W16.setCell ⟨g, q * 2, none⟩ (.string ⟨x1.toArray⟩)).setCell ⟨g, q * 2 + 1, none⟩ (.string ⟨x2.toArray⟩)) (by go_simp) ⟨trivial, ?_⟩)
                                          simp only [Act.put, List.getElem_toArray, List.getElem_cons_succ, List.getElem_cons_zero, List.setIfInBounds_toArray, List.set_cons_zero, List.set_cons_succ]
                                          refine wpAnyH_done (by kernel_rfl) ?_ _
                                          have HO9 := Lib.hid ho2
                                          have HS9 := Lib.hid hst2
                                          have HK9 := Lib.hid hkp2
                                          have HSH9 := Lib.hid hsh2
                                          clear ho2 hst2 hkp2 hsh2 z1 z2 z3 z4
                                          generalize (W16.setCell ⟨g, q * 2, none⟩ (.string ⟨x1.toArray⟩)).setCell ⟨g, q * 2 + 1, none⟩ (.string ⟨x2.toArray⟩) = W9 at HO9 HS9 HK9 ⊢
                                          go_wp2_with fail
                                          go_ret
                                          exact ⟨_, l2, rfl, HO9.out, by omega, HSH9.out, HS9.out.mono (by omega), HK9.out⟩
                                · have z19 := (HK5.out.cell (p := ⟨g, q * 2 + 1, none⟩) hg2 hgS).trans c1
                                  refine op_at rfl rfl (wp_made (v := .string ⟨t.toArray⟩) (w' := W2) (by go_simp) ⟨trivial, ?_⟩)
                                  clear z19
                                  simp only [Act.put, List.getElem_toArray, List.getElem_cons_succ, List.getElem_cons_zero, List.setIfInBounds_toArray, List.set_cons_zero, List.set_cons_succ]
                                  as_aux_lemma =>
                                    refine wpAnyH_all (rs := [8, 14]) (by kernel_rfl) (by simp) (fun i hi => ?_)
                                    simp only [List.mem_cons, List.not_mem_nil, or_false] at hi
                                    rcases hi with rfl | rfl
                                    · refine op_at rfl rfl (gen_call 6 #[.pointer (some ⟨S, 0, none⟩), .slice (some ⟨B6, 0, none⟩) 5 5] (by go_simp) (some_lst S (k + 44) B6 5 [f, [43, 48, 49, 50, 51], [49, 50, 51, 52], [43, 49, 50, 51], [43, 53, 48, 48, 48]] (fun s => s.length ≤ 100) W2 HS4.out (by omega) L3.out (by omega) (by omega) (f5_short hf9)) ?_)
                                      rintro e W20 ⟨x1, rfl, hx1, hsW20, hkW20⟩
                                      have HS21 := Lib.hid hsW20
                                      have HK22 := Lib.hid (HK5.out.trans hkW20)
                                      have hx1 : x1.length ≤ 100 := hx1
                                      clear hsW20 hkW20
                                      refine ⟨_, rfl, trivial, ?_⟩
                                      simp only [Act.put, List.getElem_toArray, List.getElem_cons_succ, List.getElem_cons_zero, List.setIfInBounds_toArray, List.set_cons_zero, List.set_cons_succ]
                                      as_aux_lemma =>
                                        refine wpAnyH_all (rs := [14]) (by kernel_rfl) (by simp) (fun i hi => ?_)
                                        obtain rfl := List.mem_singleton.1 hi
                                        refine op_at rfl rfl (wp_made (v := .slice (some ⟨W20.heap.size, 0, none⟩) 4 4) (w' := W20.alloc (.cells #[.string ⟨t.toArray⟩, .string ⟨#[43, 57, 57, 57, 57, 57]⟩, .string ⟨#[43, 49, 48, 48, 48]⟩, .string ⟨#[]⟩] 9)) (bs_t4 _ (fun _ => rfl) _ _ _ _ _ _ _ rfl rfl) ⟨trivial, ?_⟩)
                                        simp only [Act.put, List.getElem_toArray, List.getElem_cons_succ, List.getElem_cons_zero, List.setIfInBounds_toArray, List.set_cons_zero, List.set_cons_succ]
                                        have L24 : Hid (Lst S (W20.alloc (.cells #[.string ⟨t.toArray⟩, .string ⟨#[43, 57, 57, 57, 57, 57]⟩, .string ⟨#[43, 49, 48, 48, 48]⟩, .string ⟨#[]⟩] 9)) W20.heap.size 4 [t, [43, 57, 57, 57, 57, 57], [43, 49, 48, 48, 48], []]) := lst_new S W20 HS21.out.lt [t, [43, 57, 57, 57, 57, 57], [43, 49, 48, 48, 48], []] #[.string ⟨t.toArray⟩, .string ⟨#[43, 57, 57, 57, 57, 57]⟩, .string ⟨#[43, 49, 48, 48, 48]⟩, .string ⟨#[]⟩] rfl _ rfl
                                        have HS25 : Hid (StreamOk (W20.alloc (.cells #[.string ⟨t.toArray⟩, .string ⟨#[43, 57, 57, 57, 57, 57]⟩, .string ⟨#[43, 49, 48, 48, 48]⟩, .string ⟨#[]⟩] 9)) S (k + 44 + 1)) := HS21.out.below (ext_alloc (Below.refl _ _))
                                        have HK26 : Hid (Keeps S w6 (W20.alloc (.cells #[.string ⟨t.toArray⟩, .string ⟨#[43, 57, 57, 57, 57, 57]⟩, .string ⟨#[43, 49, 48, 48, 48]⟩, .string ⟨#[]⟩] 9))) := HK22.out.alloc _
                                        generalize W20.alloc (.cells #[.string ⟨t.toArray⟩, .string ⟨#[43, 57, 57, 57, 57, 57]⟩, .string ⟨#[43, 49, 48, 48, 48]⟩, .string ⟨#[]⟩] 9) = W23 at L24 HS25 HK26 ⊢
                                        generalize W20.heap.size = B27 at L24 ⊢
                                        as_aux_lemma =>
                                          refine wpAnyH_all (rs := [15]) (by kernel_rfl) (by simp) (fun i hi => ?_)
                                          obtain rfl := List.mem_singleton.1 hi
                                          refine op_at rfl rfl (gen_call 6 #[.pointer (some ⟨S, 0, none⟩), .slice (some ⟨B27, 0, none⟩) 4 4] (by go_simp) (some_lst S (k + 44 + 1) B27 4 [t, [43, 57, 57, 57, 57, 57], [43, 49, 48, 48, 48], []] (fun s => s.length ≤ 100) W23 HS25.out (by omega) L24.out (by omega) (by omega) (t4_short ht9)) ?_)
                                          rintro e W28 ⟨x2, rfl, hx2, hsW28, hkW28⟩
                                          have HS29 := Lib.hid hsW28
                                          have HK30 := Lib.hid (HK26.out.trans hkW28)
                                          have hx2 : x2.length ≤ 100 := hx2
                                          clear hsW28 hkW28
                                          refine ⟨_, rfl, trivial, ?_⟩
                                          simp only [Act.put, List.getElem_toArray, List.getElem_cons_succ, List.getElem_cons_zero, List.setIfInBounds_toArray, List.set_cons_zero, List.set_cons_succ]
                                          as_aux_lemma =>
                                            refine wpAnyH_take (i := 16) (v := .pointer (some ⟨g, q * 2, none⟩)) rfl (by kernel_rfl) (by kernel_rfl) (by kernel_rfl) (fun _ _ _ h => h) (Or.inl ⟨rfl, fun W hW => by go_simp⟩) trivial ?_
                                            simp only [Act.put, List.getElem_toArray, List.getElem_cons_succ, List.getElem_cons_zero, List.setIfInBounds_toArray, List.set_cons_zero, List.set_cons_succ]
                                            refine wpAnyH_take (i := 17) (v := .pointer (some ⟨g, q * 2, none⟩)) rfl (by kernel_rfl) (by kernel_rfl) (by kernel_rfl) (fun _ _ _ h => h) (Or.inl ⟨rfl, fun W hW => by go_simp⟩) trivial ?_
                                            simp only [Act.put, List.getElem_toArray, List.getElem_cons_succ, List.getElem_cons_zero, List.setIfInBounds_toArray, List.set_cons_zero, List.set_cons_succ]
                                            obtain ⟨l2, hl2, ho2, hsh2, hst2, hkp2⟩ := rng_store hg1 HO6.out HK30.out HK6.out HS29.out (by omega) HSH.out hq x1 x2 hx1 hx2
                                            have z1 := (HK30.out.cell (p := ⟨g, q * 2, none⟩) hg2 hgS).trans c0
                                            have z2 := (HK30.out.cell (p := ⟨g, q * 2 + 1, none⟩) hg2 hgS).trans c1
                                            have z3 : W28.frozen? ⟨g, q * 2, none⟩ = false := (HK30.out.frozen (p := ⟨g, q * 2, none⟩) hg2 hgS).trans d0
                                            have z4 : W28.frozen? ⟨g, q * 2 + 1, none⟩ = false := (HK30.out.frozen (p := ⟨g, q * 2 + 1, none⟩) hg2 hgS).trans d1
                                            refine wpAnyH_all (rs := [18]) (by kernel_rfl) (by simp) (fun i hi => ?_)
                                            obtain rfl := List.mem_singleton.1 hi
                                            refine op_at rfl rfl (wp_skip2 (w' := W28.setCell ⟨g, q * 2, none⟩ (.string ⟨x1.toArray⟩)) (by go_simp) ⟨trivial, ?_⟩)
                                            simp only [Act.put, List.getElem_toArray, List.getElem_cons_succ, List.getElem_cons_zero, List.setIfInBounds_toArray, List.set_cons_zero, List.set_cons_succ]
                                            refine wpAnyH_take (i := 19) (v := .pointer (some ⟨g, q * 2, none⟩)) rfl (by kernel_rfl) (by kernel_rfl) (by kernel_rfl) (fun _ _ _ h => h) (Or.inl ⟨rfl, fun W hW => by go_simp⟩) trivial ?_
                                            simp only [Act.put, List.getElem_toArray, List.getElem_cons_succ, List.getElem_cons_zero, List.setIfInBounds_toArray, List.set_cons_zero, List.set_cons_succ]
                                            refine wpAnyH_take (i := 20) (v := .pointer (some ⟨g, q * 2 + 1, none⟩)) rfl (by kernel_rfl) (by kernel_rfl) (by kernel_rfl) (fun _ _ _ h => h) (Or.inl ⟨rfl, fun W hW => by go_simp⟩) trivial ?_
                                            simp only [Act.put, List.getElem_toArray, List.getElem_cons_succ, List.getElem_cons_zero, List.setIfInBounds_toArray, List.set_cons_zero, List.set_cons_succ]
                                            refine wpAnyH_all (rs := [21]) (by kernel_rfl) (by simp) (fun i hi => ?_)
                                            obtain rfl := List.mem_singleton.1 hi
                                            refine op_at rfl rfl (wp_skip2 (w' := (W28.setCell ⟨g, q * 2, none⟩ (.string ⟨x1.toArray⟩)).setCell ⟨g, q * 2 + 1, none⟩ (.string ⟨x2.toArray⟩)) (by go_simp) ⟨trivial, ?_⟩)
                                            simp only [Act.put, List.getElem_toArray, List.getElem_cons_succ, List.getElem_cons_zero, List.setIfInBounds_toArray, List.set_cons_zero, List.set_cons_succ]
                                            refine wpAnyH_done (by kernel_rfl) ?_ _
                                            have HO9 := Lib.hid ho2
                                            have HS9 := Lib.hid hst2
                                            have HK9 := Lib.hid hkp2
                                            have HSH9 := Lib.hid hsh2
                                            clear ho2 hst2 hkp2 hsh2 z1 z2 z3 z4
                                            generalize (W28.setCell ⟨g, q * 2, none⟩ (.string ⟨x1.toArray⟩)).setCell ⟨g, q * 2 + 1, none⟩ (.string ⟨x2.toArray⟩) = W9 at HO9 HS9 HK9 ⊢
                                            go_wp2_with fail
                                            go_ret
                                            exact ⟨_, l2, rfl, HO9.out, by omega, HSH9.out, HS9.out.mono (by omega), HK9.out⟩
                                    · refine op_at rfl rfl (wp_made (v := .slice (some ⟨W2.heap.size, 0, none⟩) 4 4) (w' := W2.alloc (.cells #[.string ⟨t.toArray⟩, .string ⟨#[43, 57, 57, 57, 57, 57]⟩, .string ⟨#[43, 49, 48, 48, 48]⟩, .string ⟨#[]⟩] 9)) (bs_t4 _ (fun _ => rfl) _ _ _ _ _ _ _ rfl rfl) ⟨trivial, ?_⟩)
                                      simp only [Act.put, List.getElem_toArray, List.getElem_cons_succ, List.getElem_cons_zero, List.setIfInBounds_toArray, List.set_cons_zero, List.set_cons_succ]
                                      have L32 : Hid (Lst S (W2.alloc (.cells #[.string ⟨t.toArray⟩, .string ⟨#[43, 57, 57, 57, 57, 57]⟩, .string ⟨#[43, 49, 48, 48, 48]⟩, .string ⟨#[]⟩] 9)) W2.heap.size 4 [t, [43, 57, 57, 57, 57, 57], [43, 49, 48, 48, 48], []]) := lst_new S W2 HS4.out.lt [t, [43, 57, 57, 57, 57, 57], [43, 49, 48, 48, 48], []] #[.string ⟨t.toArray⟩, .string ⟨#[43, 57, 57, 57, 57, 57]⟩, .string ⟨#[43, 49, 48, 48, 48]⟩, .string ⟨#[]⟩] rfl _ rfl
                                      have HS33 : Hid (StreamOk (W2.alloc (.cells #[.string ⟨t.toArray⟩, .string ⟨#[43, 57, 57, 57, 57, 57]⟩, .string ⟨#[43, 49, 48, 48, 48]⟩, .string ⟨#[]⟩] 9)) S (k + 44)) := HS4.out.below (ext_alloc (Below.refl _ _))
                                      have HK34 : Hid (Keeps S w6 (W2.alloc (.cells #[.string ⟨t.toArray⟩, .string ⟨#[43, 57, 57, 57, 57, 57]⟩, .string ⟨#[43, 49, 48, 48, 48]⟩, .string ⟨#[]⟩] 9))) := HK5.out.alloc _
                                      have L36 : Hid (Lst S (W2.alloc (.cells #[.string ⟨t.toArray⟩, .string ⟨#[43, 57, 57, 57, 57, 57]⟩, .string ⟨#[43, 49, 48, 48, 48]⟩, .string ⟨#[]⟩] 9)) B6 5 [f, [43, 48, 49, 50, 51], [49, 50, 51, 52], [43, 49, 50, 51], [43, 53, 48, 48, 48]]) := L3.out.keeps ((Keeps.refl _ _).alloc _)
                                      generalize W2.alloc (.cells #[.string ⟨t.toArray⟩, .string ⟨#[43, 57, 57, 57, 57, 57]⟩, .string ⟨#[43, 49, 48, 48, 48]⟩, .string ⟨#[]⟩] 9) = W31 at L32 HS33 HK34 L36 ⊢
                                      generalize W2.heap.size = B35 at L32 ⊢
                                      as_aux_lemma =>
                                        refine wpAnyH_all (rs := [8]) (by kernel_rfl) (by simp) (fun i hi => ?_)
                                        obtain rfl := List.mem_singleton.1 hi
                                        refine op_at rfl rfl (gen_call 6 #[.pointer (some ⟨S, 0, none⟩), .slice (some ⟨B6, 0, none⟩) 5 5] (by go_simp) (some_lst S (k + 44) B6 5 [f, [43, 48, 49, 50, 51], [49, 50, 51, 52], [43, 49, 50, 51], [43, 53, 48, 48, 48]] (fun s => s.length ≤ 100) W31 HS33.out (by omega) L36.out (by omega) (by omega) (f5_short hf9)) ?_)
                                        rintro e W37 ⟨x1, rfl, hx1, hsW37, hkW37⟩
                                        have HS38 := Lib.hid hsW37
                                        have HK39 := Lib.hid (HK34.out.trans hkW37)
                                        have L40 := Lib.hid (L32.out.keeps hkW37)
                                        have hx1 : x1.length ≤ 100 := hx1
                                        clear hsW37 hkW37
                                        refine ⟨_, rfl, trivial, ?_⟩
                                        simp only [Act.put, List.getElem_toArray, List.getElem_cons_succ, List.getElem_cons_zero, List.setIfInBounds_toArray, List.set_cons_zero, List.set_cons_succ]
                                        as_aux_lemma =>
                                          refine wpAnyH_all (rs := [15]) (by kernel_rfl) (by simp) (fun i hi => ?_)
                                          obtain rfl := List.mem_singleton.1 hi
                                          refine op_at rfl rfl (gen_call 6 #[.pointer (some ⟨S, 0, none⟩), .slice (some ⟨B35, 0, none⟩) 4 4] (by go_simp) (some_lst S (k + 44 + 1) B35 4 [t, [43, 57, 57, 57, 57, 57], [43, 49, 48, 48, 48], []] (fun s => s.length ≤ 100) W37 HS38.out (by omega) L40.out (by omega) (by omega) (t4_short ht9)) ?_)
                                          rintro e W41 ⟨x2, rfl, hx2, hsW41, hkW41⟩
                                          have HS42 := Lib.hid hsW41
                                          have HK43 := Lib.hid (HK39.out.trans hkW41)
                                          have hx2 : x2.length ≤ 100 := hx2
                                          clear hsW41 hkW41
                                          refine ⟨_, rfl, trivial, ?_⟩
                                          simp only [Act.put, List.getElem_toArray, List.getElem_cons_succ, List.getElem_cons_zero, List.setIfInBounds_toArray, List.set_cons_zero, List.set_cons_succ]
                                          as_aux_lemma =>
                                            refine wpAnyH_take (i := 16) (v := .pointer (some ⟨g, q * 2, none⟩)) rfl (by kernel_rfl) (by kernel_rfl) (by kernel_rfl) (fun _ _ _ h => h) (Or.inl ⟨rfl, fun W hW => by go_simp⟩) trivial ?_
                                            simp only [Act.put, List.getElem_toArray, List.getElem_cons_succ, List.getElem_cons_zero, List.setIfInBounds_toArray, List.set_cons_zero, List.set_cons_succ]
                                            refine wpAnyH_take (i := 17) (v := .pointer (some ⟨g, q * 2, none⟩)) rfl (by kernel_rfl) (by kernel_rfl) (by kernel_rfl) (fun _ _ _ h => h) (Or.inl ⟨rfl, fun W hW => by go_simp⟩) trivial ?_
                                            simp only [Act.put, List.getElem_toArray, List.getElem_cons_succ, List.getElem_cons_zero, List.setIfInBounds_toArray, List.set_cons_zero, List.set_cons_succ]
                                            obtain ⟨l2, hl2, ho2, hsh2, hst2, hkp2⟩ := rng_store hg1 HO6.out HK43.out HK6.out HS42.out (by omega) HSH.out hq x1 x2 hx1 hx2
                                            have z1 := (HK43.out.cell (p := ⟨g, q * 2, none⟩) hg2 hgS).trans c0
                                            have z2 := (HK43.out.cell (p := ⟨g, q * 2 + 1, none⟩) hg2 hgS).trans c1
                                            have z3 : W41.frozen? ⟨g, q * 2, none⟩ = false := (HK43.out.frozen (p := ⟨g, q * 2, none⟩) hg2 hgS).trans d0
                                            have z4 : W41.frozen? ⟨g, q * 2 + 1, none⟩ = false := (HK43.out.frozen (p := ⟨g, q * 2 + 1, none⟩) hg2 hgS).trans d1
                                            refine wpAnyH_all (rs := [18]) (by kernel_rfl) (by simp) (fun i hi => ?_)
                                            obtain rfl := List.mem_singleton.1 hi
                                            refine op_at rfl rfl (wp_skip2 (w' := W41.setCell ⟨g, q * 2, none⟩ (.string ⟨x1.toArray⟩)) (by go_simp) ⟨trivial, ?_⟩)
                                            simp only [Act.put, List.getElem_toArray, List.getElem_cons_succ, List.getElem_cons_zero, List.setIfInBounds_toArray, List.set_cons_zero, List.set_cons_succ]
                                            refine wpAnyH_take (i := 19) (v := .pointer (some ⟨g, q * 2, none⟩)) rfl (by kernel_rfl) (by kernel_rfl) (by kernel_rfl) (fun _ _ _ h => h) (Or.inl ⟨rfl, fun W hW => by go_simp⟩) trivial ?_
                                            simp only [Act.put, List.getElem_toArray, List.getElem_cons_succ, List.getElem_cons_zero, List.setIfInBounds_toArray, List.set_cons_zero, List.set_cons_succ]
                                            refine wpAnyH_take (i := 20) (v := .pointer (some ⟨g, q * 2 + 1, none⟩)) rfl (by kernel_rfl) (by kernel_rfl) (by kernel_rfl) (fun _ _ _ h => h) (Or.inl ⟨rfl, fun W hW => by go_simp⟩) trivial ?_
                                            simp only [Act.put, List.getElem_toArray, List.getElem_cons_succ, List.getElem_cons_zero, List.setIfInBounds_toArray, List.set_cons_zero, List.set_cons_succ]
                                            refine wpAnyH_all (rs := [21]) (by kernel_rfl) (by simp) (fun i hi => ?_)
                                            obtain rfl := List.mem_singleton.1 hi
                                            refine op_at rfl rfl (wp_skip2 (w' := (W41.setCell ⟨g, q * 2, none⟩ (.string ⟨x1.toArray⟩)).setCell ⟨g, q * 2 + 1, none⟩ (.string ⟨x2.toArray⟩)) (by go_simp) ⟨trivial, ?_⟩)
                                            simp only [Act.put, List.getElem_toArray, List.getElem_cons_succ, List.getElem_cons_zero, List.setIfInBounds_toArray, List.set_cons_zero, List.set_cons_succ]
                                            refine wpAnyH_done (by kernel_rfl) ?_ _
                                            have HO9 := Lib.hid ho2
                                            have HS9 := Lib.hid hst2
                                            have HK9 := Lib.hid hkp2
                                            have HSH9 := Lib.hid hsh2
                                            clear ho2 hst2 hkp2 hsh2 z1 z2 z3 z4
                                            generalize (W41.setCell ⟨g, q * 2, none⟩ (.string ⟨x1.toArray⟩)).setCell ⟨g, q * 2 + 1, none⟩ (.string ⟨x2.toArray⟩) = W9 at HO9 HS9 HK9 ⊢
                                            go_wp2_with fail
                                            go_ret
                                            exact ⟨_, l2, rfl, HO9.out, by omega, HSH9.out, HS9.out.mono (by omega), HK9.out⟩
                            · have z44 := (HKd.out.cell (p := ⟨g, q * 2 + 1, none⟩) hg2 hgS).trans c1
                              refine op_at rfl rfl (wp_made (v := .string ⟨t.toArray⟩) (w' := wd) (by go_simp) ⟨trivial, ?_⟩)
                              clear z44
                              simp only [Act.put, List.getElem_toArray, List.getElem_cons_succ, List.getElem_cons_zero, List.setIfInBounds_toArray, List.set_cons_zero, List.set_cons_succ]
                              as_aux_lemma =>
                                refine wpAnyH_all (rs := [7, 14]) (by kernel_rfl) (by simp) (fun i hi => ?_)
                                simp only [List.mem_cons, List.not_mem_nil, or_false] at hi
                                rcases hi with rfl | rfl
                                · refine op_at rfl rfl (wp_made (v := .slice (some ⟨wd.heap.size, 0, none⟩) 5 5) (w' := wd.alloc (.cells #[.string ⟨f.toArray⟩, .string ⟨#[43, 48, 49, 50, 51]⟩, .string ⟨#[49, 50, 51, 52]⟩, .string ⟨#[43, 49, 50, 51]⟩, .string ⟨#[43, 53, 48, 48, 48]⟩] 9)) (bs_f5 _ (fun _ => rfl) _ _ _ _ _ _ _ _ rfl rfl) ⟨trivial, ?_⟩)
                                  simp only [Act.put, List.getElem_toArray, List.getElem_cons_succ, List.getElem_cons_zero, List.setIfInBounds_toArray, List.set_cons_zero, List.set_cons_succ]
                                  have L46 : Hid (Lst S (wd.alloc (.cells #[.string ⟨f.toArray⟩, .string ⟨#[43, 48, 49, 50, 51]⟩, .string ⟨#[49, 50, 51, 52]⟩, .string ⟨#[43, 49, 50, 51]⟩, .string ⟨#[43, 53, 48, 48, 48]⟩] 9)) wd.heap.size 5 [f, [43, 48, 49, 50, 51], [49, 50, 51, 52], [43, 49, 50, 51], [43, 53, 48, 48, 48]]) := lst_new S wd HSd.out.lt [f, [43, 48, 49, 50, 51], [49, 50, 51, 52], [43, 49, 50, 51], [43, 53, 48, 48, 48]] #[.string ⟨f.toArray⟩, .string ⟨#[43, 48, 49, 50, 51]⟩, .string ⟨#[49, 50, 51, 52]⟩, .string ⟨#[43, 49, 50, 51]⟩, .string ⟨#[43, 53, 48, 48, 48]⟩] rfl _ rfl
                                  have HS47 : Hid (StreamOk (wd.alloc (.cells #[.string ⟨f.toArray⟩, .string ⟨#[43, 48, 49, 50, 51]⟩, .string ⟨#[49, 50, 51, 52]⟩, .string ⟨#[43, 49, 50, 51]⟩, .string ⟨#[43, 53, 48, 48, 48]⟩] 9)) S (k + 44)) := HSd.out.below (ext_alloc (Below.refl _ _))
                                  have HK48 : Hid (Keeps S w6 (wd.alloc (.cells #[.string ⟨f.toArray⟩, .string ⟨#[43, 48, 49, 50, 51]⟩, .string ⟨#[49, 50, 51, 52]⟩, .string ⟨#[43, 49, 50, 51]⟩, .string ⟨#[43, 53, 48, 48, 48]⟩] 9))) := HKd.out.alloc _
                                  generalize wd.alloc (.cells #[.string ⟨f.toArray⟩, .string ⟨#[43, 48, 49, 50, 51]⟩, .string ⟨#[49, 50, 51, 52]⟩, .string ⟨#[43, 49, 50, 51]⟩, .string ⟨#[43, 53, 48, 48, 48]⟩] 9) = W45 at L46 HS47 HK48 ⊢
                                  generalize wd.heap.size = B49 at L46 ⊢
                                  as_aux_lemma =>
                                    refine wpAnyH_all (rs := [8, 14]) (by kernel_rfl) (by simp) (fun i hi => ?_)
                                    simp only [List.mem_cons, List.not_mem_nil, or_false] at hi
                                    rcases hi with rfl | rfl
                                    · refine op_at rfl rfl (gen_call 6 #[.pointer (some ⟨S, 0, none⟩), .slice (some ⟨B49, 0, none⟩) 5 5] (by go_simp) (some_lst S (k + 44) B49 5 [f, [43, 48, 49, 50, 51], [49, 50, 51, 52], [43, 49, 50, 51], [43, 53, 48, 48, 48]] (fun s => s.length ≤ 100) W45 HS47.out (by omega) L46.out (by omega) (by omega) (f5_short hf9)) ?_)
                                      rintro e W50 ⟨x1, rfl, hx1, hsW50, hkW50⟩
                                      have HS51 := Lib.hid hsW50
                                      have HK52 := Lib.hid (HK48.out.trans hkW50)
                                      have hx1 : x1.length ≤ 100 := hx1
                                      clear hsW50 hkW50
                                      refine ⟨_, rfl, trivial, ?_⟩
                                      simp only [Act.put, List.getElem_toArray, List.getElem_cons_succ, List.getElem_cons_zero, List.setIfInBounds_toArray, List.set_cons_zero, List.set_cons_succ]
                                      as_aux_lemma =>
                                        refine wpAnyH_all (rs := [14]) (by kernel_rfl) (by simp) (fun i hi => ?_)
                                        obtain rfl := List.mem_singleton.1 hi
                                        refine op_at rfl rfl (wp_made (v := .slice (some ⟨W50.heap.size, 0, none⟩) 4 4) (w' := W50.alloc (.cells #[.string ⟨t.toArray⟩, .string ⟨#[43, 57, 57, 57, 57, 57]⟩, .string ⟨#[43, 49, 48, 48, 48]⟩, .string ⟨#[]⟩] 9)) (bs_t4 _ (fun _ => rfl) _ _ _ _ _ _ _ rfl rfl) ⟨trivial, ?_⟩)
                                        simp only [Act.put, List.getElem_toArray, List.getElem_cons_succ, List.getElem_cons_zero, List.setIfInBounds_toArray, List.set_cons_zero, List.set_cons_succ]
                                        have L54 : Hid (Lst S (W50.alloc (.cells #[.string ⟨t.toArray⟩, .string ⟨#[43, 57, 57, 57, 57, 57]⟩, .string ⟨#[43, 49, 48, 48, 48]⟩, .string ⟨#[]⟩] 9)) W50.heap.size 4 [t, [43, 57, 57, 57, 57, 57], [43, 49, 48, 48, 48], []]) := lst_new S W50 HS51.out.lt [t, [43, 57, 57, 57, 57, 57], [43, 49, 48, 48, 48], []] #[.string ⟨t.toArray⟩, .string ⟨#[43, 57, 57, 57, 57, 57]⟩, .string ⟨#[43, 49, 48, 48, 48]⟩, .string ⟨#[]⟩] rfl _ rfl
                                        have HS55 : Hid (StreamOk (W50.alloc (.cells #[.string ⟨t.toArray⟩, .string ⟨#[43, 57, 57, 57, 57, 57]⟩, .string ⟨#[43, 49, 48, 48, 48]⟩, .string ⟨#[]⟩] 9)) S (k + 44 + 1)) := HS51.out.below (ext_alloc (Below.refl _ _))
                                        have HK56 : Hid (Keeps S w6 (W50.alloc (.cells #[.string ⟨t.toArray⟩, .string ⟨#[43, 57, 57, 57, 57, 57]⟩, .string ⟨#[43, 49, 48, 48, 48]⟩, .string ⟨#[]⟩] 9))) := HK52.out.alloc _
                                        generalize W50.alloc (.cells #[.string ⟨t.toArray⟩, .string ⟨#[43, 57, 57, 57, 57, 57]⟩, .string ⟨#[43, 49, 48, 48, 48]⟩, .string ⟨#[]⟩] 9) = W53 at L54 HS55 HK56 ⊢
                                        generalize W50.heap.size = B57 at L54 ⊢
                                        as_aux_lemma =>
                                          refine wpAnyH_all (rs := [15]) (by kernel_rfl) (by simp) (fun i hi => ?_)
                                          obtain rfl := List.mem_singleton.1 hi
                                          refine op_at rfl rfl (gen_call 6 #[.pointer (some ⟨S, 0, none⟩), .slice (some ⟨B57, 0, none⟩) 4 4] (by go_simp) (some_lst S (k + 44 + 1) B57 4 [t, [43, 57, 57, 57, 57, 57], [43, 49, 48, 48, 48], []] (fun s => s.length ≤ 100) W53 HS55.out (by omega) L54.out (by omega) (by omega) (t4_short ht9)) ?_)
                                          rintro e W58 ⟨x2, rfl, hx2, hsW58, hkW58⟩
                                          have HS59 := Lib.hid hsW58
                                          have HK60 := Lib.hid (HK56.out.trans hkW58)
                                          have hx2 : x2.length ≤ 100 := hx2
                                          clear hsW58 hkW58
                                          refine ⟨_, rfl, trivial, ?_⟩
                                          simp only [Act.put, List.getElem_toArray, List.getElem_cons_succ, List.getElem_cons_zero, List.setIfInBounds_toArray, List.set_cons_zero, List.set_cons_succ]
                                          as_aux_lemma =>
                                            refine wpAnyH_take (i := 16) (v := .pointer (some ⟨g, q * 2, none⟩)) rfl (by kernel_rfl) (by kernel_rfl) (by kernel_rfl) (fun _ _ _ h => h) (Or.inl ⟨rfl, fun W hW => by go_simp⟩) trivial ?_
                                            simp only [Act.put, List.getElem_toArray, List.getElem_cons_succ, List.getElem_cons_zero, List.setIfInBounds_toArray, List.set_cons_zero, List.set_cons_succ]
                                            refine wpAnyH_take (i := 17) (v := .pointer (some ⟨g, q * 2, none⟩)) rfl (by kernel_rfl) (by kernel_rfl) (by kernel_rfl) (fun _ _ _ h => h) (Or.inl ⟨rfl, fun W hW => by go_simp⟩) trivial ?_
                                            simp only [Act.put, List.getElem_toArray, List.getElem_cons_succ, List.getElem_cons_zero, List.setIfInBounds_toArray, List.set_cons_zero, List.set_cons_succ]
                                            obtain ⟨l2, hl2, ho2, hsh2, hst2, hkp2⟩ := rng_store hg1 HO6.out HK60.out HK6.out HS59.out (by omega) HSH.out hq x1 x2 hx1 hx2
                                            have z1 := (HK60.out.cell (p := ⟨g, q * 2, none⟩) hg2 hgS).trans c0
                                            have z2 := (HK60.out.cell (p := ⟨g, q * 2 + 1, none⟩) hg2 hgS).trans c1
                                            have z3 : W58.frozen? ⟨g, q * 2, none⟩ = false := (HK60.out.frozen (p := ⟨g, q * 2, none⟩) hg2 hgS).trans d0
                                            have z4 : W58.frozen? ⟨g, q * 2 + 1, none⟩ = false := (HK60.out.frozen (p := ⟨g, q * 2 + 1, none⟩) hg2 hgS).trans d1
                                            refine wpAnyH_all (rs := [18]) (by kernel_rfl) (by simp) (fun i hi => ?_)
                                            obtain rfl := List.mem_singleton.1 hi
                                            refine op_at rfl rfl (wp_skip2 (w' := W58.setCell ⟨g, q * 2, none⟩ (.string ⟨x1.toArray⟩)) (by go_simp) ⟨trivial, ?_⟩)
                                            simp only [Act.put, List.getElem_toArray, List.getElem_cons_succ, List.getElem_cons_zero, List.setIfInBounds_toArray, List.set_cons_zero, List.set_cons_succ]
                                            refine wpAnyH_take (i := 19) (v := .pointer (some ⟨g, q * 2, none⟩)) rfl (by kernel_rfl) (by kernel_rfl) (by kernel_rfl) (fun _ _ _ h => h) (Or.inl ⟨rfl, fun W hW => by go_simp⟩) trivial ?_
                                            simp only [Act.put, List.getElem_toArray, List.getElem_cons_succ, List.getElem_cons_zero, List.setIfInBounds_toArray, List.set_cons_zero, List.set_cons_succ]
                                            refine wpAnyH_take (i := 20) (v := .pointer (some ⟨g, q * 2 + 1, none⟩)) rfl (by kernel_rfl) (by kernel_rfl) (by kernel_rfl) (fun _ _ _ h => h) (Or.inl ⟨rfl, fun W hW => by go_simp⟩) trivial ?_
                                            simp only [Act.put, List.getElem_toArray, List.getElem_cons_succ, List.getElem_cons_zero, List.setIfInBounds_toArray, List.set_cons_zero, List.set_cons_succ]
                                            refine wpAnyH_all (rs := [21]) (by kernel_rfl) (by simp) (fun i hi => ?_)
                                            obtain rfl := List.mem_singleton.1 hi
                                            refine op_at rfl rfl (wp_skip2 (w' := (W58.setCell ⟨g, q * 2, none⟩ (.string ⟨x1.toArray⟩)).setCell ⟨g, q * 2 + 1, none⟩ (.string ⟨x2.toArray⟩)) (by go_simp) ⟨trivial, ?_⟩)
                                            simp only [Act.put, List.getElem_toArray, List.getElem_cons_succ, List.getElem_cons_zero, List.setIfInBounds_toArray, List.set_cons_zero, List.set_cons_succ]
                                            refine wpAnyH_done (by kernel_rfl) ?_ _
                                            have HO9 := Lib.hid ho2
                                            have HS9 := Lib.hid hst2
                                            have HK9 := Lib.hid hkp2
                                            have HSH9 := Lib.hid hsh2
                                            clear ho2 hst2 hkp2 hsh2 z1 z2 z3 z4
                                            generalize (W58.setCell ⟨g, q * 2, none⟩ (.string ⟨x1.toArray⟩)).setCell ⟨g, q * 2 + 1, none⟩ (.string ⟨x2.toArray⟩) = W9 at HO9 HS9 HK9 ⊢
                                            go_wp2_with fail
                                            go_ret
                                            exact ⟨_, l2, rfl, HO9.out, by omega, HSH9.out, HS9.out.mono (by omega), HK9.out⟩
                                    · refine op_at rfl rfl (wp_made (v := .slice (some ⟨W45.heap.size, 0, none⟩) 4 4) (w' := W45.alloc (.cells #[.string ⟨t.toArray⟩, .string ⟨#[43, 57, 57, 57, 57, 57]⟩, .string ⟨#[43, 49, 48, 48, 48]⟩, .string ⟨#[]⟩] 9)) (bs_t4 _ (fun _ => rfl) _ _ _ _ _ _ _ rfl rfl) ⟨trivial, ?_⟩)
                                      simp only [Act.put, List.getElem_toArray, List.getElem_cons_succ, List.getElem_cons_zero, List.setIfInBounds_toArray, List.set_cons_zero, List.set_cons_succ]
                                      have L62 : Hid (Lst S (W45.alloc (.cells #[.string ⟨t.toArray⟩, .string ⟨#[43, 57, 57, 57, 57, 57]⟩, .string ⟨#[43, 49, 48, 48, 48]⟩, .string ⟨#[]⟩] 9)) W45.heap.size 4 [t, [43, 57, 57, 57, 57, 57], [43, 49, 48, 48, 48], []]) := lst_new S W45 HS47.out.lt [t, [43, 57, 57, 57, 57, 57], [43, 49, 48, 48, 48], []] #[.string ⟨t.toArray⟩, .string ⟨#[43, 57, 57, 57, 57, 57]⟩, .string ⟨#[43, 49, 48, 48, 48]⟩, .string ⟨#[]⟩] rfl _ rfl
                                      have HS63 : Hid (StreamOk (W45.alloc (.cells #[.string ⟨t.toArray⟩, .string ⟨#[43, 57, 57, 57, 57, 57]⟩, .string ⟨#[43, 49, 48, 48, 48]⟩, .string ⟨#[]⟩] 9)) S (k + 44)) := HS47.out.below (ext_alloc (Below.refl _ _))
                                      have HK64 : Hid (Keeps S w6 (W45.alloc (.cells #[.string ⟨t.toArray⟩, .string ⟨#[43, 57, 57, 57, 57, 57]⟩, .string ⟨#[43, 49, 48, 48, 48]⟩, .string ⟨#[]⟩] 9))) := HK48.out.alloc _
                                      have L66 : Hid (Lst S (W45.alloc (.cells #[.string ⟨t.toArray⟩, .string ⟨#[43, 57, 57, 57, 57, 57]⟩, .string ⟨#[43, 49, 48, 48, 48]⟩, .string ⟨#[]⟩] 9)) B49 5 [f, [43, 48, 49, 50, 51], [49, 50, 51, 52], [43, 49, 50, 51], [43, 53, 48, 48, 48]]) := L46.out.keeps ((Keeps.refl _ _).alloc _)
                                      generalize W45.alloc (.cells #[.string ⟨t.toArray⟩, .string ⟨#[43, 57, 57, 57, 57, 57]⟩, .string ⟨#[43, 49, 48, 48, 48]⟩, .string ⟨#[]⟩] 9) = W61 at L62 HS63 HK64 L66 ⊢
                                      generalize W45.heap.size = B65 at L62 ⊢
                                      as_aux_lemma =>
                                        refine wpAnyH_all (rs := [8]) (by kernel_rfl) (by simp) (fun i hi => ?_)
                                        obtain rfl := List.mem_singleton.1 hi
                                        refine op_at rfl rfl (gen_call 6 #[.pointer (some ⟨S, 0, none⟩), .slice (some ⟨B49, 0, none⟩) 5 5] (by go_simp) (some_lst S (k + 44) B49 5 [f, [43, 48, 49, 50, 51], [49, 50, 51, 52], [43, 49, 50, 51], [43, 53, 48, 48, 48]] (fun s => s.length ≤ 100) W61 HS63.out (by omega) L66.out (by omega) (by omega) (f5_short hf9)) ?_)
                                        rintro e W67 ⟨x1, rfl, hx1, hsW67, hkW67⟩
                                        have HS68 := Lib.hid hsW67
                                        have HK69 := Lib.hid (HK64.out.trans hkW67)
                                        have L70 := Lib.hid (L62.out.keeps hkW67)
                                        have hx1 : x1.length ≤ 100 := hx1
                                        clear hsW67 hkW67
                                        refine ⟨_, rfl, trivial, ?_⟩
                                        simp only [Act.put, List.getElem_toArray, List.getElem_cons_succ, List.getElem_cons_zero, List.setIfInBounds_toArray, List.set_cons_zero, List.set_cons_succ]
                                        as_aux_lemma =>
                                          refine wpAnyH_all (rs := [15]) (by kernel_rfl) (by simp) (fun i hi => ?_)
                                          obtain rfl := List.mem_singleton.1 hi
                                          refine op_at rfl rfl (gen_call 6 #[.pointer (some ⟨S, 0, none⟩), .slice (some ⟨B65, 0, none⟩) 4 4] (by go_simp) (some_lst S (k + 44 + 1) B65 4 [t, [43, 57, 57, 57, 57, 57], [43, 49, 48, 48, 48], []] (fun s => s.length ≤ 100) W67 HS68.out (by omega) L70.out (by omega) (by omega) (t4_short ht9)) ?_)
                                          rintro e W71 ⟨x2, rfl, hx2, hsW71, hkW71⟩
                                          have HS72 := Lib.hid hsW71
                                          have HK73 := Lib.hid (HK69.out.trans hkW71)
                                          have hx2 : x2.length ≤ 100 := hx2
                                          clear hsW71 hkW71
                                          refine ⟨_, rfl, trivial, ?_⟩
                                          simp only [Act.put, List.getElem_toArray, List.getElem_cons_succ, List.getElem_cons_zero, List.setIfInBounds_toArray, List.set_cons_zero, List.set_cons_succ]
                                          as_aux_lemma =>
                                            refine wpAnyH_take (i := 16) (v := .pointer (some ⟨g, q * 2, none⟩)) rfl (by kernel_rfl) (by kernel_rfl) (by kernel_rfl) (fun _ _ _ h => h) (Or.inl ⟨rfl, fun W hW => by go_simp⟩) trivial ?_
                                            simp only [Act.put, List.getElem_toArray, List.getElem_cons_succ, List.getElem_cons_zero, List.setIfInBounds_toArray, List.set_cons_zero, List.set_cons_succ]
                                            refine wpAnyH_take (i := 17) (v := .pointer (some ⟨g, q * 2, none⟩)) rfl (by kernel_rfl) (by kernel_rfl) (by kernel_rfl) (fun _ _ _ h => h) (Or.inl ⟨rfl, fun W hW => by go_simp⟩) trivial ?_
                                            simp only [Act.put, List.getElem_toArray, List.getElem_cons_succ, List.getElem_cons_zero, List.setIfInBounds_toArray, List.set_cons_zero, List.set_cons_succ]
                                            obtain ⟨l2, hl2, ho2, hsh2, hst2, hkp2⟩ := rng_store hg1 HO6.out HK73.out HK6.out HS72.out (by omega) HSH.out hq x1 x2 hx1 hx2
                                            have z1 := (HK73.out.cell (p := ⟨g, q * 2, none⟩) hg2 hgS).trans c0
                                            have z2 := (HK73.out.cell (p := ⟨g, q * 2 + 1, none⟩) hg2 hgS).trans c1
                                            have z3 : W71.frozen? ⟨g, q * 2, none⟩ = false := (HK73.out.frozen (p := ⟨g, q * 2, none⟩) hg2 hgS).trans d0
                                            have z4 : W71.frozen? ⟨g, q * 2 + 1, none⟩ = false := (HK73.out.frozen (p := ⟨g, q * 2 + 1, none⟩) hg2 hgS).trans d1
                                            refine wpAnyH_all (rs := [18]) (by kernel_rfl) (by simp) (fun i hi => ?_)
                                            obtain rfl := List.mem_singleton.1 hi
                                            refine op_at rfl rfl (wp_skip2 (w' := W71.setCell ⟨g, q * 2, none⟩ (.string ⟨x1.toArray⟩)) (by go_simp) ⟨trivial, ?_⟩)
                                            simp only [Act.put, List.getElem_toArray, List.getElem_cons_succ, List.getElem_cons_zero, List.setIfInBounds_toArray, List.set_cons_zero, List.set_cons_succ]
                                            refine wpAnyH_take (i := 19) (v := .pointer (some ⟨g, q * 2, none⟩)) rfl (by kernel_rfl) (by kernel_rfl) (by kernel_rfl) (fun _ _ _ h => h) (Or.inl ⟨rfl, fun W hW => by go_simp⟩) trivial ?_
                                            simp only [Act.put, List.getElem_toArray, List.getElem_cons_succ, List.getElem_cons_zero, List.setIfInBounds_toArray, List.set_cons_zero, List.set_cons_succ]
                                            refine wpAnyH_take (i := 20) (v := .pointer (some ⟨g, q * 2 + 1, none⟩)) rfl (by kernel_rfl) (by kernel_rfl) (by kernel_rfl) (fun _ _ _ h => h) (Or.inl ⟨rfl, fun W hW => by go_simp⟩) trivial ?_
                                            simp only [Act.put, List.getElem_toArray, List.getElem_cons_succ, List.getElem_cons_zero, List.setIfInBounds_toArray, List.set_cons_zero, List.set_cons_succ]
                                            refine wpAnyH_all (rs := [21]) (by kernel_rfl) (by simp) (fun i hi => ?_)
                                            obtain rfl := List.mem_singleton.1 hi
                                            refine op_at rfl rfl (wp_skip2 (w' := (W71.setCell ⟨g, q * 2, none⟩ (.string ⟨x1.toArray⟩)).setCell ⟨g, q * 2 + 1, none⟩ (.string ⟨x2.toArray⟩)) (by go_simp) ⟨trivial, ?_⟩)
                                            simp only [Act.put, List.getElem_toArray, List.getElem_cons_succ, List.getElem_cons_zero, List.setIfInBounds_toArray, List.set_cons_zero, List.set_cons_succ]
                                            refine wpAnyH_done (by kernel_rfl) ?_ _
                                            have HO9 := Lib.hid ho2
                                            have HS9 := Lib.hid hst2
                                            have HK9 := Lib.hid hkp2
                                            have HSH9 := Lib.hid hsh2
                                            clear ho2 hst2 hkp2 hsh2 z1 z2 z3 z4
                                            generalize (W71.setCell ⟨g, q * 2, none⟩ (.string ⟨x1.toArray⟩)).setCell ⟨g, q * 2 + 1, none⟩ (.string ⟨x2.toArray⟩) = W9 at HO9 HS9 HK9 ⊢
                                            go_wp2_with fail
                                            go_ret
                                            exact ⟨_, l2, rfl, HO9.out, by omega, HSH9.out, HS9.out.mono (by omega), HK9.out⟩
                                · refine op_at rfl rfl (wp_made (v := .slice (some ⟨wd.heap.size, 0, none⟩) 4 4) (w' := wd.alloc (.cells #[.string ⟨t.toArray⟩, .string ⟨#[43, 57, 57, 57, 57, 57]⟩, .string ⟨#[43, 49, 48, 48, 48]⟩, .string ⟨#[]⟩] 9)) (bs_t4 _ (fun _ => rfl) _ _ _ _ _ _ _ rfl rfl) ⟨trivial, ?_⟩)
                                  simp only [Act.put, List.getElem_toArray, List.getElem_cons_succ, List.getElem_cons_zero, List.setIfInBounds_toArray, List.set_cons_zero, List.set_cons_succ]
                                  have L75 : Hid (Lst S (wd.alloc (.cells #[.string ⟨t.toArray⟩, .string ⟨#[43, 57, 57, 57, 57, 57]⟩, .string ⟨#[43, 49, 48, 48, 48]⟩, .string ⟨#[]⟩] 9)) wd.heap.size 4 [t, [43, 57, 57, 57, 57, 57], [43, 49, 48, 48, 48], []]) := lst_new S wd HSd.out.lt [t, [43, 57, 57, 57, 57, 57], [43, 49, 48, 48, 48], []] #[.string ⟨t.toArray⟩, .string ⟨#[43, 57, 57, 57, 57, 57]⟩, .string ⟨#[43, 49, 48, 48, 48]⟩, .string ⟨#[]⟩] rfl _ rfl
                                  have HS76 : Hid (StreamOk (wd.alloc (.cells #[.string ⟨t.toArray⟩, .string ⟨#[43, 57, 57, 57, 57, 57]⟩, .string ⟨#[43, 49, 48, 48, 48]⟩, .string ⟨#[]⟩] 9)) S (k + 44)) := HSd.out.below (ext_alloc (Below.refl _ _))
                                  have HK77 : Hid (Keeps S w6 (wd.alloc (.cells #[.string ⟨t.toArray⟩, .string ⟨#[43, 57, 57, 57, 57, 57]⟩, .string ⟨#[43, 49, 48, 48, 48]⟩, .string ⟨#[]⟩] 9))) := HKd.out.alloc _
                                  generalize wd.alloc (.cells #[.string ⟨t.toArray⟩, .string ⟨#[43, 57, 57, 57, 57, 57]⟩, .string ⟨#[43, 49, 48, 48, 48]⟩, .string ⟨#[]⟩] 9) = W74 at L75 HS76 HK77 ⊢
                                  generalize wd.heap.size = B78 at L75 ⊢
                                  as_aux_lemma =>
                                    refine wpAnyH_all (rs := [7]) (by kernel_rfl) (by simp) (fun i hi => ?_)
                                    obtain rfl := List.mem_singleton.1 hi
                                    refine op_at rfl rfl (wp_made (v := .slice (some ⟨W74.heap.size, 0, none⟩) 5 5) (w' := W74.alloc (.cells #[.string ⟨f.toArray⟩, .string ⟨#[43, 48, 49, 50, 51]⟩, .string ⟨#[49, 50, 51, 52]⟩, .string ⟨#[43, 49, 50, 51]⟩, .string ⟨#[43, 53, 48, 48, 48]⟩] 9)) (bs_f5 _ (fun _ => rfl) _ _ _ _ _ _ _ _ rfl rfl) ⟨trivial, ?_⟩)
                                    simp only [Act.put, List.getElem_toArray, List.getElem_cons_succ, List.getElem_cons_zero, List.setIfInBounds_toArray, List.set_cons_zero, List.set_cons_succ]
                                    have L80 : Hid (Lst S (W74.alloc (.cells #[.string ⟨f.toArray⟩, .string ⟨#[43, 48, 49, 50, 51]⟩, .string ⟨#[49, 50, 51, 52]⟩, .string ⟨#[43, 49, 50, 51]⟩, .string ⟨#[43, 53, 48, 48, 48]⟩] 9)) W74.heap.size 5 [f, [43, 48, 49, 50, 51], [49, 50, 51, 52], [43, 49, 50, 51], [43, 53, 48, 48, 48]]) := lst_new S W74 HS76.out.lt [f, [43, 48, 49, 50, 51], [49, 50, 51, 52], [43, 49, 50, 51], [43, 53, 48, 48, 48]] #[.string ⟨f.toArray⟩, .string ⟨#[43, 48, 49, 50, 51]⟩, .string ⟨#[49, 50, 51, 52]⟩, .string ⟨#[43, 49, 50, 51]⟩, .string ⟨#[43, 53, 48, 48, 48]⟩] rfl _ rfl
                                    have HS81 : Hid (StreamOk (W74.alloc (.cells #[.string ⟨f.toArray⟩, .string ⟨#[43, 48, 49, 50, 51]⟩, .string ⟨#[49, 50, 51, 52]⟩, .string ⟨#[43, 49, 50, 51]⟩, .string ⟨#[43, 53, 48, 48, 48]⟩] 9)) S (k + 44)) := HS76.out.below (ext_alloc (Below.refl _ _))
                                    have HK82 : Hid (Keeps S w6 (W74.alloc (.cells #[.string ⟨f.toArray⟩, .string ⟨#[43, 48, 49, 50, 51]⟩, .string ⟨#[49, 50, 51, 52]⟩, .string ⟨#[43, 49, 50, 51]⟩, .string ⟨#[43, 53, 48, 48, 48]⟩] 9))) := HK77.out.alloc _
                                    have L84 : Hid (Lst S (W74.alloc (.cells #[.string ⟨f.toArray⟩, .string ⟨#[43, 48, 49, 50, 51]⟩, .string ⟨#[49, 50, 51, 52]⟩, .string ⟨#[43, 49, 50, 51]⟩, .string ⟨#[43, 53, 48, 48, 48]⟩] 9)) B78 4 [t, [43, 57, 57, 57, 57, 57], [43, 49, 48, 48, 48], []]) := L75.out.keeps ((Keeps.refl _ _).alloc _)
                                    generalize W74.alloc (.cells #[.string ⟨f.toArray⟩, .string ⟨#[43, 48, 49, 50, 51]⟩, .string ⟨#[49, 50, 51, 52]⟩, .string ⟨#[43, 49, 50, 51]⟩, .string ⟨#[43, 53, 48, 48, 48]⟩] 9) = W79 at L80 HS81 HK82 L84 ⊢
                                    generalize W74.heap.size = B83 at L80 ⊢
                                    as_aux_lemma =>
                                      refine wpAnyH_all (rs := [8]) (by kernel_rfl) (by simp) (fun i hi => ?_)
                                      obtain rfl := List.mem_singleton.1 hi
                                      refine op_at rfl rfl (gen_call 6 #[.pointer (some ⟨S, 0, none⟩), .slice (some ⟨B83, 0, none⟩) 5 5] (by go_simp) (some_lst S (k + 44) B83 5 [f, [43, 48, 49, 50, 51], [49, 50, 51, 52], [43, 49, 50, 51], [43, 53, 48, 48, 48]] (fun s => s.length ≤ 100) W79 HS81.out (by omega) L80.out (by omega) (by omega) (f5_short hf9)) ?_)
                                      rintro e W85 ⟨x1, rfl, hx1, hsW85, hkW85⟩
                                      have HS86 := Lib.hid hsW85
                                      have HK87 := Lib.hid (HK82.out.trans hkW85)
                                      have L88 := Lib.hid (L84.out.keeps hkW85)
                                      have hx1 : x1.length ≤ 100 := hx1
                                      clear hsW85 hkW85
                                      refine ⟨_, rfl, trivial, ?_⟩
                                      simp only [Act.put, List.getElem_toArray, List.getElem_cons_succ, List.getElem_cons_zero, List.setIfInBounds_toArray, List.set_cons_zero, List.set_cons_succ]
                                      as_aux_lemma =>
                                        refine wpAnyH_all (rs := [15]) (by kernel_rfl) (by simp) (fun i hi => ?_)
                                        obtain rfl := List.mem_singleton.1 hi
                                        refine op_at rfl rfl (gen_call 6 #[.pointer (some ⟨S, 0, none⟩), .slice (some ⟨B78, 0, none⟩) 4 4] (by go_simp) (some_lst S (k + 44 + 1) B78 4 [t, [43, 57, 57, 57, 57, 57], [43, 49, 48, 48, 48], []] (fun s => s.length ≤ 100) W85 HS86.out (by omega) L88.out (by omega) (by omega) (t4_short ht9)) ?_)
                                        rintro e W89 ⟨x2, rfl, hx2, hsW89, hkW89⟩
                                        have HS90 := Lib.hid hsW89
                                        have HK91 := Lib.hid (HK87.out.trans hkW89)
                                        have hx2 : x2.length ≤ 100 := hx2
                                        clear hsW89 hkW89
                                        refine ⟨_, rfl, trivial, ?_⟩
                                        simp only [Act.put, List.getElem_toArray, List.getElem_cons_succ, List.getElem_cons_zero, List.setIfInBounds_toArray, List.set_cons_zero, List.set_cons_succ]
                                        as_aux_lemma =>
                                          refine wpAnyH_take (i := 16) (v := .pointer (some ⟨g, q * 2, none⟩)) rfl (by kernel_rfl) (by kernel_rfl) (by kernel_rfl) (fun _ _ _ h => h) (Or.inl ⟨rfl, fun W hW => by go_simp⟩) trivial ?_
                                          simp only [Act.put, List.getElem_toArray, List.getElem_cons_succ, List.getElem_cons_zero, List.setIfInBounds_toArray, List.set_cons_zero, List.set_cons_succ]
                                          refine wpAnyH_take (i := 17) (v := .pointer (some ⟨g, q * 2, none⟩)) rfl (by kernel_rfl) (by kernel_rfl) (by kernel_rfl) (fun _ _ _ h => h) (Or.inl ⟨rfl, fun W hW => by go_simp⟩) trivial ?_
                                          simp only [Act.put, List.getElem_toArray, List.getElem_cons_succ, List.getElem_cons_zero, List.setIfInBounds_toArray, List.set_cons_zero, List.set_cons_succ]
                                          obtain ⟨l2, hl2, ho2, hsh2, hst2, hkp2⟩ := rng_store hg1 HO6.out HK91.out HK6.out HS90.out (by omega) HSH.out hq x1 x2 hx1 hx2
                                          have z1 := (HK91.out.cell (p := ⟨g, q * 2, none⟩) hg2 hgS).trans c0
                                          have z2 := (HK91.out.cell (p := ⟨g, q * 2 + 1, none⟩) hg2 hgS).trans c1
                                          have z3 : W89.frozen? ⟨g, q * 2, none⟩ = false := (HK91.out.frozen (p := ⟨g, q * 2, none⟩) hg2 hgS).trans d0
                                          have z4 : W89.frozen? ⟨g, q * 2 + 1, none⟩ = false := (HK91.out.frozen (p := ⟨g, q * 2 + 1, none⟩) hg2 hgS).trans d1
                                          refine wpAnyH_all (rs := [18]) (by kernel_rfl) (by simp) (fun i hi => ?_)
                                          obtain rfl := List.mem_singleton.1 hi
                                          refine op_at rfl rfl (wp_skip2 (w' := W89.setCell ⟨g, q * 2, none⟩ (.string ⟨x1.toArray⟩)) (by go_simp) ⟨trivial, ?_⟩)
                                          simp only [Act.put, List.getElem_toArray, List.getElem_cons_succ, List.getElem_cons_zero, List.setIfInBounds_toArray, List.set_cons_zero, List.set_cons_succ]
                                          refine wpAnyH_take (i := 19) (v := .pointer (some ⟨g, q * 2, none⟩)) rfl (by kernel_rfl) (by kernel_rfl) (by kernel_rfl) (fun _ _ _ h => h) (Or.inl ⟨rfl, fun W hW => by go_simp⟩) trivial ?_
                                          simp only [Act.put, List.getElem_toArray, List.getElem_cons_succ, List.getElem_cons_zero, List.setIfInBounds_toArray, List.set_cons_zero, List.set_cons_succ]
                                          refine wpAnyH_take (i := 20) (v := .pointer (some ⟨g, q * 2 + 1, none⟩)) rfl (by kernel_rfl) (by kernel_rfl) (by kernel_rfl) (fun _ _ _ h => h) (Or.inl ⟨rfl, fun W hW => by go_simp⟩) trivial ?_
                                          simp only [Act.put, List.getElem_toArray, List.getElem_cons_succ, List.getElem_cons_zero, List.setIfInBounds_toArray, List.set_cons_zero, List.set_cons_succ]
                                          refine wpAnyH_all (rs := [21]) (by kernel_rfl) (by simp) (fun i hi => ?_)
                                          obtain rfl := List.mem_singleton.1 hi
                                          refine op_at rfl rfl (wp_skip2 (w' := (W89.setCell ⟨g, q * 2, none⟩ (.string ⟨x1.toArray⟩)).setCell ⟨g, q * 2 + 1, none⟩ (.string ⟨x2.toArray⟩)) (by go_simp) ⟨trivial, ?_⟩)
                                          simp only [Act.put, List.getElem_toArray, List.getElem_cons_succ, List.getElem_cons_zero, List.setIfInBounds_toArray, List.set_cons_zero, List.set_cons_succ]
                                          refine wpAnyH_done (by kernel_rfl) ?_ _
                                          have HO9 := Lib.hid ho2
                                          have HS9 := Lib.hid hst2
                                          have HK9 := Lib.hid hkp2
                                          have HSH9 := Lib.hid hsh2
                                          clear ho2 hst2 hkp2 hsh2 z1 z2 z3 z4
                                          generalize (W89.setCell ⟨g, q * 2, none⟩ (.string ⟨x1.toArray⟩)).setCell ⟨g, q * 2 + 1, none⟩ (.string ⟨x2.toArray⟩) = W9 at HO9 HS9 HK9 ⊢
                                          go_wp2_with fail
                                          go_ret
                                          exact ⟨_, l2, rfl, HO9.out, by omega, HSH9.out, HS9.out.mono (by omega), HK9.out⟩
                        · have z92 := (HKd.out.cell (p := ⟨g, q * 2 + 1, none⟩) hg2 hgS).trans c1
                          refine op_at rfl rfl (wp_made (v := .string ⟨t.toArray⟩) (w' := wd) (by go_simp) ⟨trivial, ?_⟩)
                          clear z92
                          simp only [Act.put, List.getElem_toArray, List.getElem_cons_succ, List.getElem_cons_zero, List.setIfInBounds_toArray, List.set_cons_zero, List.set_cons_succ]
                          as_aux_lemma =>
                            refine wpAnyH_all (rs := [6, 14]) (by kernel_rfl) (by simp) (fun i hi => ?_)
                            simp only [List.mem_cons, List.not_mem_nil, or_false] at hi
                            rcases hi with rfl | rfl
                            · have z93 := (HKd.out.cell (p := ⟨g, q * 2, none⟩) hg2 hgS).trans c0
                              refine op_at rfl rfl (wp_made (v := .string ⟨f.toArray⟩) (w' := wd) (by go_simp) ⟨trivial, ?_⟩)
                              clear z93
                              simp only [Act.put, List.getElem_toArray, List.getElem_cons_succ, List.getElem_cons_zero, List.setIfInBounds_toArray, List.set_cons_zero, List.set_cons_succ]
                              as_aux_lemma =>
                                refine wpAnyH_all (rs := [7, 14]) (by kernel_rfl) (by simp) (fun i hi => ?_)
                                simp only [List.mem_cons, List.not_mem_nil, or_false] at hi
                                rcases hi with rfl | rfl
                                · refine op_at rfl rfl (wp_made (v := .slice (some ⟨wd.heap.size, 0, none⟩) 5 5) (w' := wd.alloc (.cells #[.string ⟨f.toArray⟩, .string ⟨#[43, 48, 49, 50, 51]⟩, .string ⟨#[49, 50, 51, 52]⟩, .string ⟨#[43, 49, 50, 51]⟩, .string ⟨#[43, 53, 48, 48, 48]⟩] 9)) (bs_f5 _ (fun _ => rfl) _ _ _ _ _ _ _ _ rfl rfl) ⟨trivial, ?_⟩)
                                  simp only [Act.put, List.getElem_toArray, List.getElem_cons_succ, List.getElem_cons_zero, List.setIfInBounds_toArray, List.set_cons_zero, List.set_cons_succ]
                                  have L95 : Hid (Lst S (wd.alloc (.cells #[.string ⟨f.toArray⟩, .string ⟨#[43, 48, 49, 50, 51]⟩, .string ⟨#[49, 50, 51, 52]⟩, .string ⟨#[43, 49, 50, 51]⟩, .string ⟨#[43, 53, 48, 48, 48]⟩] 9)) wd.heap.size 5 [f, [43, 48, 49, 50, 51], [49, 50, 51, 52], [43, 49, 50, 51], [43, 53, 48, 48, 48]]) := lst_new S wd HSd.out.lt [f, [43, 48, 49, 50, 51], [49, 50, 51, 52], [43, 49, 50, 51], [43, 53, 48, 48, 48]] #[.string ⟨f.toArray⟩, .string ⟨#[43, 48, 49, 50, 51]⟩, .string ⟨#[49, 50, 51, 52]⟩, .string ⟨#[43, 49, 50, 51]⟩, .string ⟨#[43, 53, 48, 48, 48]⟩] rfl _ rfl
                                  have HS96 : Hid (StreamOk (wd.alloc (.cells #[.string ⟨f.toArray⟩, .string ⟨#[43, 48, 49, 50, 51]⟩, .string ⟨#[49, 50, 51, 52]⟩, .string ⟨#[43, 49, 50, 51]⟩, .string ⟨#[43, 53, 48, 48, 48]⟩] 9)) S (k + 44)) := HSd.out.below (ext_alloc (Below.refl _ _))
                                  have HK97 : Hid (Keeps S w6 (wd.alloc (.cells #[.string ⟨f.toArray⟩, .string ⟨#[43, 48, 49, 50, 51]⟩, .string ⟨#[49, 50, 51, 52]⟩, .string ⟨#[43, 49, 50, 51]⟩, .string ⟨#[43, 53, 48, 48, 48]⟩] 9))) := HKd.out.alloc _
                                  generalize wd.alloc (.cells #[.string ⟨f.toArray⟩, .string ⟨#[43, 48, 49, 50, 51]⟩, .string ⟨#[49, 50, 51, 52]⟩, .string ⟨#[43, 49, 50, 51]⟩, .string ⟨#[43, 53, 48, 48, 48]⟩] 9) = W94 at L95 HS96 HK97 ⊢
                                  generalize wd.heap.size = B98 at L95 ⊢
                                  as_aux_lemma =>
                                    refine wpAnyH_all (rs := [8, 14]) (by kernel_rfl) (by simp) (fun i hi => ?_)
                                    simp only [List.mem_cons, List.not_mem_nil, or_false] at hi
                                    rcases hi with rfl | rfl
                                    · refine op_at rfl rfl (gen_call 6 #[.pointer (some ⟨S, 0, none⟩), .slice (some ⟨B98, 0, none⟩) 5 5] (by go_simp) (some_lst S (k + 44) B98 5 [f, [43, 48, 49, 50, 51], [49, 50, 51, 52], [43, 49, 50, 51], [43, 53, 48, 48, 48]] (fun s => s.length ≤ 100) W94 HS96.out (by omega) L95.out (by omega) (by omega) (f5_short hf9)) ?_)
                                      rintro e W99 ⟨x1, rfl, hx1, hsW99, hkW99⟩
                                      have HS100 := Lib.hid hsW99
                                      have HK101 := Lib.hid (HK97.out.trans hkW99)
                                      have hx1 : x1.length ≤ 100 := hx1
                                      clear hsW99 hkW99
                                      refine ⟨_, rfl, trivial, ?_⟩
                                      simp only [Act.put, List.getElem_toArray, List.getElem_cons_succ, List.getElem_cons_zero, List.setIfInBounds_toArray, List.set_cons_zero, List.set_cons_succ]
                                      as_aux_lemma =>
                                        refine wpAnyH_all (rs := [14]) (by kernel_rfl) (by simp) (fun i hi => ?_)
                                        obtain rfl := List.mem_singleton.1 hi
                                        refine op_at rfl rfl (wp_made (v := .slice (some ⟨W99.heap.size, 0, none⟩) 4 4) (w' := W99.alloc (.cells #[.string ⟨t.toArray⟩, .string ⟨#[43, 57, 57, 57, 57, 57]⟩, .string ⟨#[43, 49, 48, 48, 48]⟩, .string ⟨#[]⟩] 9)) (bs_t4 _ (fun _ => rfl) _ _ _ _ _ _ _ rfl rfl) ⟨trivial, ?_⟩)
                                        simp only [Act.put, List.getElem_toArray, List.getElem_cons_succ, List.getElem_cons_zero, List.setIfInBounds_toArray, List.set_cons_zero, List.set_cons_succ]
                                        have L103 : Hid (Lst S (W99.alloc (.cells #[.string ⟨t.toArray⟩, .string ⟨#[43, 57, 57, 57, 57, 57]⟩, .string ⟨#[43, 49, 48, 48, 48]⟩, .string ⟨#[]⟩] 9)) W99.heap.size 4 [t, [43, 57, 57, 57, 57, 57], [43, 49, 48, 48, 48], []]) := lst_new S W99 HS100.out.lt [t, [43, 57, 57, 57, 57, 57], [43, 49, 48, 48, 48], []] #[.string ⟨t.toArray⟩, .string ⟨#[43, 57, 57, 57, 57, 57]⟩, .string ⟨#[43, 49, 48, 48, 48]⟩, .string ⟨#[]⟩] rfl _ rfl
                                        have HS104 : Hid (StreamOk (W99.alloc (.cells #[.string ⟨t.toArray⟩, .string ⟨#[43, 57, 57, 57, 57, 57]⟩, .string ⟨#[43, 49, 48, 48, 48]⟩, .string ⟨#[]⟩] 9)) S (k + 44 + 1)) := HS100.out.below (ext_alloc (Below.refl _ _))
                                        have HK105 : Hid (Keeps S w6 (W99.alloc (.cells #[.string ⟨t.toArray⟩, .string ⟨#[43, 57, 57, 57, 57, 57]⟩, .string ⟨#[43, 49, 48, 48, 48]⟩, .string ⟨#[]⟩] 9))) := HK101.out.alloc _
                                        generalize W99.alloc (.cells #[.string ⟨t.toArray⟩, .string ⟨#[43, 57, 57, 57, 57, 57]⟩, .string ⟨#[43, 49, 48, 48, 48]⟩, .string ⟨#[]⟩] 9) = W102 at L103 HS104 HK105 ⊢
                                        generalize W99.heap.size = B106 at L103 ⊢
                                        as_aux_lemma =>
                                          refine wpAnyH_all (rs := [15]) (by kernel_rfl) (by simp) (fun i hi => ?_)
                                          obtain rfl := List.mem_singleton.1 hi
                                          refine op_at rfl rfl (gen_call 6 #[.pointer (some ⟨S, 0, none⟩), .slice (some ⟨B106, 0, none⟩) 4 4] (by go_simp) (some_lst S (k + 44 + 1) B106 4 [t, [43, 57, 57, 57, 57, 57], [43, 49, 48, 48, 48], []] (fun s => s.length ≤ 100) W102 HS104.out (by omega) L103.out (by omega) (by omega) (t4_short ht9)) ?_)
                                          rintro e W107 ⟨x2, rfl, hx2, hsW107, hkW107⟩
                                          have HS108 := Lib.hid hsW107
                                          have HK109 := Lib.hid (HK105.out.trans hkW107)
                                          have hx2 : x2.length ≤ 100 := hx2
                                          clear hsW107 hkW107
                                          refine ⟨_, rfl, trivial, ?_⟩
                                          simp only [Act.put, List.getElem_toArray, List.getElem_cons_succ, List.getElem_cons_zero, List.setIfInBounds_toArray, List.set_cons_zero, List.set_cons_succ]
                                          as_aux_lemma =>
                                            refine wpAnyH_take (i := 16) (v := .pointer (some ⟨g, q * 2, none⟩)) rfl (by kernel_rfl) (by kernel_rfl) (by kernel_rfl) (fun _ _ _ h => h) (Or.inl ⟨rfl, fun W hW => by go_simp⟩) trivial ?_
                                            simp only [Act.put, List.getElem_toArray, List.getElem_cons_succ, List.getElem_cons_zero, List.setIfInBounds_toArray, List.set_cons_zero, List.set_cons_succ]
                                            refine wpAnyH_take (i := 17) (v := .pointer (some ⟨g, q * 2, none⟩)) rfl (by kernel_rfl) (by kernel_rfl) (by kernel_rfl) (fun _ _ _ h => h) (Or.inl ⟨rfl, fun W hW => by go_simp⟩) trivial ?_
                                            simp only [Act.put, List.getElem_toArray, List.getElem_cons_succ, List.getElem_cons_zero, List.setIfInBounds_toArray, List.set_cons_zero, List.set_cons_succ]
                                            obtain ⟨l2, hl2, ho2, hsh2, hst2, hkp2⟩ := rng_store hg1 HO6.out HK109.out HK6.out HS108.out (by omega) HSH.out hq x1 x2 hx1 hx2
                                            have z1 := (HK109.out.cell (p := ⟨g, q * 2, none⟩) hg2 hgS).trans c0
                                            have z2 := (HK109.out.cell (p := ⟨g, q * 2 + 1, none⟩) hg2 hgS).trans c1
                                            have z3 : W107.frozen? ⟨g, q * 2, none⟩ = false := (HK109.out.frozen (p := ⟨g, q * 2, none⟩) hg2 hgS).trans d0
                                            have z4 : W107.frozen? ⟨g, q * 2 + 1, none⟩ = false := (HK109.out.frozen (p := ⟨g, q * 2 + 1, none⟩) hg2 hgS).trans d1
                                            refine wpAnyH_all (rs := [18]) (by kernel_rfl) (by simp) (fun i hi => ?_)
                                            obtain rfl := List.mem_singleton.1 hi
                                            refine op_at rfl rfl (wp_skip2 (w' := W107.setCell ⟨g, q * 2, none⟩ (.string ⟨x1.toArray⟩)) (by go_simp) ⟨trivial, ?_⟩)
                                            simp only [Act.put, List.getElem_toArray, List.getElem_cons_succ, List.getElem_cons_zero, List.setIfInBounds_toArray, List.set_cons_zero, List.set_cons_succ]
                                            refine wpAnyH_take (i := 19) (v := .pointer (some ⟨g, q * 2, none⟩)) rfl (by kernel_rfl) (by kernel_rfl) (by kernel_rfl) (fun _ _ _ h => h) (Or.inl ⟨rfl, fun W hW => by go_simp⟩) trivial ?_
                                            simp only [Act.put, List.getElem_toArray, List.getElem_cons_succ, List.getElem_cons_zero, List.setIfInBounds_toArray, List.set_cons_zero, List.set_cons_succ]
                                            refine wpAnyH_take (i := 20) (v := .pointer (some ⟨g, q * 2 + 1, none⟩)) rfl (by kernel_rfl) (by kernel_rfl) (by kernel_rfl) (fun _ _ _ h => h) (Or.inl ⟨rfl, fun W hW => by go_simp⟩) trivial ?_
                                            simp only [Act.put, List.getElem_toArray, List.getElem_cons_succ, List.getElem_cons_zero, List.setIfInBounds_toArray, List.set_cons_zero, List.set_cons_succ]
                                            refine wpAnyH_all (rs := [21]) (by kernel_rfl) (by simp) (fun i hi => ?_)
                                            obtain rfl := List.mem_singleton.1 hi
                                            refine op_at rfl rfl (wp_skip2 (w' := (W107.setCell ⟨g, q * 2, none⟩ (.string ⟨x1.toArray⟩)).setCell ⟨g, q * 2 + 1, none⟩ (.string ⟨x2.toArray⟩)) (by go_simp) ⟨trivial, ?_⟩)
                                            simp only [Act.put, List.getElem_toArray, List.getElem_cons_succ, List.getElem_cons_zero, List.setIfInBounds_toArray, List.set_cons_zero, List.set_cons_succ]
                                            refine wpAnyH_done (by kernel_rfl) ?_ _
                                            have HO9 := Lib.hid ho2
                                            have HS9 := Lib.hid hst2
                                            have HK9 := Lib.hid hkp2
                                            have HSH9 := Lib.hid hsh2
                                            clear ho2 hst2 hkp2 hsh2 z1 z2 z3 z4
                                            generalize (W107.setCell ⟨g, q * 2, none⟩ (.string ⟨x1.toArray⟩)).setCell ⟨g, q * 2 + 1, none⟩ (.string ⟨x2.toArray⟩) = W9 at HO9 HS9 HK9 ⊢
                                            go_wp2_with fail
                                            go_ret
                                            exact ⟨_, l2, rfl, HO9.out, by omega, HSH9.out, HS9.out.mono (by omega), HK9.out⟩
                                    · refine op_at rfl rfl (wp_made (v := .slice (some ⟨W94.heap.size, 0, none⟩) 4 4) (w' := W94.alloc (.cells #[.string ⟨t.toArray⟩, .string ⟨#[43, 57, 57, 57, 57, 57]⟩, .string ⟨#[43, 49, 48, 48, 48]⟩, .string ⟨#[]⟩] 9)) (bs_t4 _ (fun _ => rfl) _ _ _ _ _ _ _ rfl rfl) ⟨trivial, ?_⟩)
                                      simp only [Act.put, List.getElem_toArray, List.getElem_cons_succ, List.getElem_cons_zero, List.setIfInBounds_toArray, List.set_cons_zero, List.set_cons_succ]
                                      have L111 : Hid (Lst S (W94.alloc (.cells #[.string ⟨t.toArray⟩, .string ⟨#[43, 57, 57, 57, 57, 57]⟩, .string ⟨#[43, 49, 48, 48, 48]⟩, .string ⟨#[]⟩] 9)) W94.heap.size 4 [t, [43, 57, 57, 57, 57, 57], [43, 49, 48, 48, 48], []]) := lst_new S W94 HS96.out.lt [t, [43, 57, 57, 57, 57, 57], [43, 49, 48, 48, 48], []] #[.string ⟨t.toArray⟩, .string ⟨#[43, 57, 57, 57, 57, 57]⟩, .string ⟨#[43, 49, 48, 48, 48]⟩, .string ⟨#[]⟩] rfl _ rfl
                                      have HS112 : Hid (StreamOk (W94.alloc (.cells #[.string ⟨t.toArray⟩, .string ⟨#[43, 57, 57, 57, 57, 57]⟩, .string ⟨#[43, 49, 48, 48, 48]⟩, .string ⟨#[]⟩] 9)) S (k + 44)) := HS96.out.below (ext_alloc (Below.refl _ _))
                                      have HK113 : Hid (Keeps S w6 (W94.alloc (.cells #[.string ⟨t.toArray⟩, .string ⟨#[43, 57, 57, 57, 57, 57]⟩, .string ⟨#[43, 49, 48, 48, 48]⟩, .string ⟨#[]⟩] 9))) := HK97.out.alloc _
                                      have L115 : Hid (Lst S (W94.alloc (.cells #[.string ⟨t.toArray⟩, .string ⟨#[43, 57, 57, 57, 57, 57]⟩, .string ⟨#[43, 49, 48, 48, 48]⟩, .string ⟨#[]⟩] 9)) B98 5 [f, [43, 48, 49, 50, 51], [49, 50, 51, 52], [43, 49, 50, 51], [43, 53, 48, 48, 48]]) := L95.out.keeps ((Keeps.refl _ _).alloc _)
                                      generalize W94.alloc (.cells #[.string ⟨t.toArray⟩, .string ⟨#[43, 57, 57, 57, 57, 57]⟩, .string ⟨#[43, 49, 48, 48, 48]⟩, .string ⟨#[]⟩] 9) = W110 at L111 HS112 HK113 L115 ⊢
                                      generalize W94.heap.size = B114 at L111 ⊢
                                      as_aux_lemma =>
                                        refine wpAnyH_all (rs := [8]) (by kernel_rfl) (by simp) (fun i hi => ?_)
                                        obtain rfl := List.mem_singleton.1 hi
                                        refine op_at rfl rfl (gen_call 6 #[.pointer (some ⟨S, 0, none⟩), .slice (some ⟨B98, 0, none⟩) 5 5] (by go_simp) (some_lst S (k + 44) B98 5 [f, [43, 48, 49, 50, 51], [49, 50, 51, 52], [43, 49, 50, 51], [43, 53, 48, 48, 48]] (fun s => s.length ≤ 100) W110 HS112.out (by omega) L115.out (by omega) (by omega) (f5_short hf9)) ?_)
                                        rintro e W116 ⟨x1, rfl, hx1, hsW116, hkW116⟩
                                        have HS117 := Lib.hid hsW116
                                        have HK118 := Lib.hid (HK113.out.trans hkW116)
                                        have L119 := Lib.hid (L111.out.keeps hkW116)
                                        have hx1 : x1.length ≤ 100 := hx1
                                        clear hsW116 hkW116
                                        refine ⟨_, rfl, trivial, ?_⟩
                                        simp only [Act.put, List.getElem_toArray, List.getElem_cons_succ, List.getElem_cons_zero, List.setIfInBounds_toArray, List.set_cons_zero, List.set_cons_succ]
                                        as_aux_lemma =>
                                          refine wpAnyH_all (rs := [15]) (by kernel_rfl) (by simp) (fun i hi => ?_)
                                          obtain rfl := List.mem_singleton.1 hi
                                          refine op_at rfl rfl (gen_call 6 #[.pointer (some ⟨S, 0, none⟩), .slice (some ⟨B114, 0, none⟩) 4 4] (by go_simp) (some_lst S (k + 44 + 1) B114 4 [t, [43, 57, 57, 57, 57, 57], [43, 49, 48, 48, 48], []] (fun s => s.length ≤ 100) W116 HS117.out (by omega) L119.out (by omega) (by omega) (t4_short ht9)) ?_)
                                          rintro e W120 ⟨x2, rfl, hx2, hsW120, hkW120⟩
                                          have HS121 := Lib.hid hsW120
                                          have HK122 := Lib.hid (HK118.out.trans hkW120)
                                          have hx2 : x2.length ≤ 100 := hx2
                                          clear hsW120 hkW120
                                          refine ⟨_, rfl, trivial, ?_⟩
                                          simp only [Act.put, List.getElem_toArray, List.getElem_cons_succ, List.getElem_cons_zero, List.setIfInBounds_toArray, List.set_cons_zero, List.set_cons_succ]
                                          as_aux_lemma =>
                                            refine wpAnyH_take (i := 16) (v := .pointer (some ⟨g, q * 2, none⟩)) rfl (by kernel_rfl) (by kernel_rfl) (by kernel_rfl) (fun _ _ _ h => h) (Or.inl ⟨rfl, fun W hW => by go_simp⟩) trivial ?_
                                            simp only [Act.put, List.getElem_toArray, List.getElem_cons_succ, List.getElem_cons_zero, List.setIfInBounds_toArray, List.set_cons_zero, List.set_cons_succ]
                                            refine wpAnyH_take (i := 17) (v := .pointer (some ⟨g, q * 2, none⟩)) rfl (by kernel_rfl) (by kernel_rfl) (by kernel_rfl) (fun _ _ _ h => h) (Or.inl ⟨rfl, fun W hW => by go_simp⟩) trivial ?_
                                            simp only [Act.put, List.getElem_toArray, List.getElem_cons_succ, List.getElem_cons_zero, List.setIfInBounds_toArray, List.set_cons_zero, List.set_cons_succ]
                                            obtain ⟨l2, hl2, ho2, hsh2, hst2, hkp2⟩ := rng_store hg1 HO6.out HK122.out HK6.out HS121.out (by omega) HSH.out hq x1 x2 hx1 hx2
                                            have z1 := (HK122.out.cell (p := ⟨g, q * 2, none⟩) hg2 hgS).trans c0
                                            have z2 := (HK122.out.cell (p := ⟨g, q * 2 + 1, none⟩) hg2 hgS).trans c1
                                            have z3 : W120.frozen? ⟨g, q * 2, none⟩ = false := (HK122.out.frozen (p := ⟨g, q * 2, none⟩) hg2 hgS).trans d0
                                            have z4 : W120.frozen? ⟨g, q * 2 + 1, none⟩ = false := (HK122.out.frozen (p := ⟨g, q * 2 + 1, none⟩) hg2 hgS).trans d1
                                            refine wpAnyH_all (rs := [18]) (by kernel_rfl) (by simp) (fun i hi => ?_)
                                            obtain rfl := List.mem_singleton.1 hi
                                            refine op_at rfl rfl (wp_skip2 (w' := W120.setCell ⟨g, q * 2, none⟩ (.string ⟨x1.toArray⟩)) (by go_simp) ⟨trivial, ?_⟩)
                                            simp only [Act.put, List.getElem_toArray, List.getElem_cons_succ, List.getElem_cons_zero, List.setIfInBounds_toArray, List.set_cons_zero, List.set_cons_succ]
                                            refine wpAnyH_take (i := 19) (v := .pointer (some ⟨g, q * 2, none⟩)) rfl (by kernel_rfl) (by kernel_rfl) (by kernel_rfl) (fun _ _ _ h => h) (Or.inl ⟨rfl, fun W hW => by go_simp⟩) trivial ?_
                                            simp only [Act.put, List.getElem_toArray, List.getElem_cons_succ, List.getElem_cons_zero, List.setIfInBounds_toArray, List.set_cons_zero, List.set_cons_succ]
                                            refine wpAnyH_take (i := 20) (v := .pointer (some ⟨g, q * 2 + 1, none⟩)) rfl (by kernel_rfl) (by kernel_rfl) (by kernel_rfl) (fun _ _ _ h => h) (Or.inl ⟨rfl, fun W hW => by go_simp⟩) trivial ?_
                                            simp only [Act.put, List.getElem_toArray, List.getElem_cons_succ, List.getElem_cons_zero, List.setIfInBounds_toArray, List.set_cons_zero, List.set_cons_succ]
                                            refine wpAnyH_all (rs := [21]) (by kernel_rfl) (by simp) (fun i hi => ?_)
                                            obtain rfl := List.mem_singleton.1 hi
                                            refine op_at rfl rfl (wp_skip2 (w' := (W120.setCell ⟨g, q * 2, none⟩ (.string ⟨x1.toArray⟩)).setCell ⟨g, q * 2 + 1, none⟩ (.string ⟨x2.toArray⟩)) (by go_simp) ⟨trivial, ?_⟩)
                                            simp only [Act.put, List.getElem_toArray, List.getElem_cons_succ, List.getElem_cons_zero, List.setIfInBounds_toArray, List.set_cons_zero, List.set_cons_succ]
                                            refine wpAnyH_done (by kernel_rfl) ?_ _
                                            have HO9 := Lib.hid ho2
                                            have HS9 := Lib.hid hst2
                                            have HK9 := Lib.hid hkp2
                                            have HSH9 := Lib.hid hsh2
                                            clear ho2 hst2 hkp2 hsh2 z1 z2 z3 z4
                                            generalize (W120.setCell ⟨g, q * 2, none⟩ (.string ⟨x1.toArray⟩)).setCell ⟨g, q * 2 + 1, none⟩ (.string ⟨x2.toArray⟩) = W9 at HO9 HS9 HK9 ⊢
                                            go_wp2_with fail
                                            go_ret
                                            exact ⟨_, l2, rfl, HO9.out, by omega, HSH9.out, HS9.out.mono (by omega), HK9.out⟩
                                · refine op_at rfl rfl (wp_made (v := .slice (some ⟨wd.heap.size, 0, none⟩) 4 4) (w' := wd.alloc (.cells #[.string ⟨t.toArray⟩, .string ⟨#[43, 57, 57, 57, 57, 57]⟩, .string ⟨#[43, 49, 48, 48, 48]⟩, .string ⟨#[]⟩] 9)) (bs_t4 _ (fun _ => rfl) _ _ _ _ _ _ _ rfl rfl) ⟨trivial, ?_⟩)
                                  simp only [Act.put, List.getElem_toArray, List.getElem_cons_succ, List.getElem_cons_zero, List.setIfInBounds_toArray, List.set_cons_zero, List.set_cons_succ]
                                  have L124 : Hid (Lst S (wd.alloc (.cells #[.string ⟨t.toArray⟩, .string ⟨#[43, 57, 57, 57, 57, 57]⟩, .string ⟨#[43, 49, 48, 48, 48]⟩, .string ⟨#[]⟩] 9)) wd.heap.size 4 [t, [43, 57, 57, 57, 57, 57], [43, 49, 48, 48, 48], []]) := lst_new S wd HSd.out.lt [t, [43, 57, 57, 57, 57, 57], [43, 49, 48, 48, 48], []] #[.string ⟨t.toArray⟩, .string ⟨#[43, 57, 57, 57, 57, 57]⟩, .string ⟨#[43, 49, 48, 48, 48]⟩, .string ⟨#[]⟩] rfl _ rfl
                                  have HS125 : Hid (StreamOk (wd.alloc (.cells #[.string ⟨t.toArray⟩, .string ⟨#[43, 57, 57, 57, 57, 57]⟩, .string ⟨#[43, 49, 48, 48, 48]⟩, .string ⟨#[]⟩] 9)) S (k + 44)) := HSd.out.below (ext_alloc (Below.refl _ _))
                                  have HK126 : Hid (Keeps S w6 (wd.alloc (.cells #[.string ⟨t.toArray⟩, .string ⟨#[43, 57, 57, 57, 57, 57]⟩, .string ⟨#[43, 49, 48, 48, 48]⟩, .string ⟨#[]⟩] 9))) := HKd.out.alloc _
                                  generalize wd.alloc (.cells #[.string ⟨t.toArray⟩, .string ⟨#[43, 57, 57, 57, 57, 57]⟩, .string ⟨#[43, 49, 48, 48, 48]⟩, .string ⟨#[]⟩] 9) = W123 at L124 HS125 HK126 ⊢
                                  generalize wd.heap.size = B127 at L124 ⊢
                                  as_aux_lemma =>
                                    refine wpAnyH_all (rs := [7]) (by kernel_rfl) (by simp) (fun i hi => ?_)
                                    obtain rfl := List.mem_singleton.1 hi
                                    refine op_at rfl rfl (wp_made (v := .slice (some ⟨W123.heap.size, 0, none⟩) 5 5) (w' := W123.alloc (.cells #[.string ⟨f.toArray⟩, .string ⟨#[43, 48, 49, 50, 51]⟩, .string ⟨#[49, 50, 51, 52]⟩, .string ⟨#[43, 49, 50, 51]⟩, .string ⟨#[43, 53, 48, 48, 48]⟩] 9)) (bs_f5 _ (fun _ => rfl) _ _ _ _ _ _ _ _ rfl rfl) ⟨trivial, ?_⟩)
                                    simp only [Act.put, List.getElem_toArray, List.getElem_cons_succ, List.getElem_cons_zero, List.setIfInBounds_toArray, List.set_cons_zero, List.set_cons_succ]
                                    have L129 : Hid (Lst S (W123.alloc (.cells #[.string ⟨f.toArray⟩, .string ⟨#[43, 48, 49, 50, 51]⟩, .string ⟨#[49, 50, 51, 52]⟩, .string ⟨#[43, 49, 50, 51]⟩, .string ⟨#[43, 53, 48, 48, 48]⟩] 9)) W123.heap.size 5 [f, [43, 48, 49, 50, 51], [49, 50, 51, 52], [43, 49, 50, 51], [43, 53, 48, 48, 48]]) := lst_new S W123 HS125.out.lt [f, [43, 48, 49, 50, 51], [49, 50, 51, 52], [43, 49, 50, 51], [43, 53, 48, 48, 48]] #[.string ⟨f.toArray⟩, .string ⟨#[43, 48, 49, 50, 51]⟩, .string ⟨#[49, 50, 51, 52]⟩, .string ⟨#[43, 49, 50, 51]⟩, .string ⟨#[43, 53, 48, 48, 48]⟩] rfl _ rfl
                                    have HS130 : Hid (StreamOk (W123.alloc (.cells #[.string ⟨f.toArray⟩, .string ⟨#[43, 48, 49, 50, 51]⟩, .string ⟨#[49, 50, 51, 52]⟩, .string ⟨#[43, 49, 50, 51]⟩, .string ⟨#[43, 53, 48, 48, 48]⟩] 9)) S (k + 44)) := HS125.out.below (ext_alloc (Below.refl _ _))
                                    have HK131 : Hid (Keeps S w6 (W123.alloc (.cells #[.string ⟨f.toArray⟩, .string ⟨#[43, 48, 49, 50, 51]⟩, .string ⟨#[49, 50, 51, 52]⟩, .string ⟨#[43, 49, 50, 51]⟩, .string ⟨#[43, 53, 48, 48, 48]⟩] 9))) := HK126.out.alloc _
                                    have L133 : Hid (Lst S (W123.alloc (.cells #[.string ⟨f.toArray⟩, .string ⟨#[43, 48, 49, 50, 51]⟩, .string ⟨#[49, 50, 51, 52]⟩, .string ⟨#[43, 49, 50, 51]⟩, .string ⟨#[43, 53, 48, 48, 48]⟩] 9)) B127 4 [t, [43, 57, 57, 57, 57, 57], [43, 49, 48, 48, 48], []]) := L124.out.keeps ((Keeps.refl _ _).alloc _)
                                    generalize W123.alloc (.cells #[.string ⟨f.toArray⟩, .string ⟨#[43, 48, 49, 50, 51]⟩, .string ⟨#[49, 50, 51, 52]⟩, .string ⟨#[43, 49, 50, 51]⟩, .string ⟨#[43, 53, 48, 48, 48]⟩] 9) = W128 at L129 HS130 HK131 L133 ⊢
                                    generalize W123.heap.size = B132 at L129 ⊢
                                    as_aux_lemma =>
                                      refine wpAnyH_all (rs := [8]) (by kernel_rfl) (by simp) (fun i hi => ?_)
                                      obtain rfl := List.mem_singleton.1 hi
                                      refine op_at rfl rfl (gen_call 6 #[.pointer (some ⟨S, 0, none⟩), .slice (some ⟨B132, 0, none⟩) 5 5] (by go_simp) (some_lst S (k + 44) B132 5 [f, [43, 48, 49, 50, 51], [49, 50, 51, 52], [43, 49, 50, 51], [43, 53, 48, 48, 48]] (fun s => s.length ≤ 100) W128 HS130.out (by omega) L129.out (by omega) (by omega) (f5_short hf9)) ?_)
                                      rintro e W134 ⟨x1, rfl, hx1, hsW134, hkW134⟩
                                      have HS135 := Lib.hid hsW134
                                      have HK136 := Lib.hid (HK131.out.trans hkW134)
                                      have L137 := Lib.hid (L133.out.keeps hkW134)
                                      have hx1 : x1.length ≤ 100 := hx1
                                      clear hsW134 hkW134
                                      refine ⟨_, rfl, trivial, ?_⟩
                                      simp only [Act.put, List.getElem_toArray, List.getElem_cons_succ, List.getElem_cons_zero, List.setIfInBounds_toArray, List.set_cons_zero, List.set_cons_succ]
                                      as_aux_lemma =>
                                        refine wpAnyH_all (rs := [15]) (by kernel_rfl) (by simp) (fun i hi => ?_)
                                        obtain rfl := List.mem_singleton.1 hi
                                        refine op_at rfl rfl (gen_call 6 #[.pointer (some ⟨S, 0, none⟩), .slice (some ⟨B127, 0, none⟩) 4 4] (by go_simp) (some_lst S (k + 44 + 1) B127 4 [t, [43, 57, 57, 57, 57, 57], [43, 49, 48, 48, 48], []] (fun s => s.length ≤ 100) W134 HS135.out (by omega) L137.out (by omega) (by omega) (t4_short ht9)) ?_)
                                        rintro e W138 ⟨x2, rfl, hx2, hsW138, hkW138⟩
                                        have HS139 := Lib.hid hsW138
                                        have HK140 := Lib.hid (HK136.out.trans hkW138)
                                        have hx2 : x2.length ≤ 100 := hx2
                                        clear hsW138 hkW138
                                        refine ⟨_, rfl, trivial, ?_⟩
                                        simp only [Act.put, List.getElem_toArray, List.getElem_cons_succ, List.getElem_cons_zero, List.setIfInBounds_toArray, List.set_cons_zero, List.set_cons_succ]
                                        as_aux_lemma =>
                                          refine wpAnyH_take (i := 16) (v := .pointer (some ⟨g, q * 2, none⟩)) rfl (by kernel_rfl) (by kernel_rfl) (by kernel_rfl) (fun _ _ _ h => h) (Or.inl ⟨rfl, fun W hW => by go_simp⟩) trivial ?_
                                          simp only [Act.put, List.getElem_toArray, List.getElem_cons_succ, List.getElem_cons_zero, List.setIfInBounds_toArray, List.set_cons_zero, List.set_cons_succ]
                                          refine wpAnyH_take (i := 17) (v := .pointer (some ⟨g, q * 2, none⟩)) rfl (by kernel_rfl) (by kernel_rfl) (by kernel_rfl) (fun _ _ _ h => h) (Or.inl ⟨rfl, fun W hW => by go_simp⟩) trivial ?_
                                          simp only [Act.put, List.getElem_toArray, List.getElem_cons_succ, List.getElem_cons_zero, List.setIfInBounds_toArray, List.set_cons_zero, List.set_cons_succ]
                                          obtain ⟨l2, hl2, ho2, hsh2, hst2, hkp2⟩ := rng_store hg1 HO6.out HK140.out HK6.out HS139.out (by omega) HSH.out hq x1 x2 hx1 hx2
                                          have z1 := (HK140.out.cell (p := ⟨g, q * 2, none⟩) hg2 hgS).trans c0
                                          have z2 := (HK140.out.cell (p := ⟨g, q * 2 + 1, none⟩) hg2 hgS).trans c1
                                          have z3 : W138.frozen? ⟨g, q * 2, none⟩ = false := (HK140.out.frozen (p := ⟨g, q * 2, none⟩) hg2 hgS).trans d0
                                          have z4 : W138.frozen? ⟨g, q * 2 + 1, none⟩ = false := (HK140.out.frozen (p := ⟨g, q * 2 + 1, none⟩) hg2 hgS).trans d1
                                          refine wpAnyH_all (rs := [18]) (by kernel_rfl) (by simp) (fun i hi => ?_)
                                          obtain rfl := List.mem_singleton.1 hi
                                          refine op_at rfl rfl (wp_skip2 (w' := W138.setCell ⟨g, q * 2, none⟩ (.string ⟨x1.toArray⟩)) (by go_simp) ⟨trivial, ?_⟩)
                                          simp only [Act.put, List.getElem_toArray, List.getElem_cons_succ, List.getElem_cons_zero, List.setIfInBounds_toArray, List.set_cons_zero, List.set_cons_succ]
                                          refine wpAnyH_take (i := 19) (v := .pointer (some ⟨g, q * 2, none⟩)) rfl (by kernel_rfl) (by kernel_rfl) (by kernel_rfl) (fun _ _ _ h => h) (Or.inl ⟨rfl, fun W hW => by go_simp⟩) trivial ?_
                                          simp only [Act.put, List.getElem_toArray, List.getElem_cons_succ, List.getElem_cons_zero, List.setIfInBounds_toArray, List.set_cons_zero, List.set_cons_succ]
                                          refine wpAnyH_take (i := 20) (v := .pointer (some ⟨g, q * 2 + 1, none⟩)) rfl (by kernel_rfl) (by kernel_rfl) (by kernel_rfl) (fun _ _ _ h => h) (Or.inl ⟨rfl, fun W hW => by go_simp⟩) trivial ?_
                                          simp only [Act.put, List.getElem_toArray, List.getElem_cons_succ, List.getElem_cons_zero, List.setIfInBounds_toArray, List.set_cons_zero, List.set_cons_succ]
                                          refine wpAnyH_all (rs := [21]) (by kernel_rfl) (by simp) (fun i hi => ?_)
                                          obtain rfl := List.mem_singleton.1 hi
                                          refine op_at rfl rfl (wp_skip2 (w' := (W138.setCell ⟨g, q * 2, none⟩ (.string ⟨x1.toArray⟩)).setCell ⟨g, q * 2 + 1, none⟩ (.string ⟨x2.toArray⟩)) (by go_simp) ⟨trivial, ?_⟩)
                                          simp only [Act.put, List.getElem_toArray, List.getElem_cons_succ, List.getElem_cons_zero, List.setIfInBounds_toArray, List.set_cons_zero, List.set_cons_succ]
                                          refine wpAnyH_done (by kernel_rfl) ?_ _
                                          have HO9 := Lib.hid ho2
                                          have HS9 := Lib.hid hst2
                                          have HK9 := Lib.hid hkp2
                                          have HSH9 := Lib.hid hsh2
                                          clear ho2 hst2 hkp2 hsh2 z1 z2 z3 z4
                                          generalize (W138.setCell ⟨g, q * 2, none⟩ (.string ⟨x1.toArray⟩)).setCell ⟨g, q * 2 + 1, none⟩ (.string ⟨x2.toArray⟩) = W9 at HO9 HS9 HK9 ⊢
                                          go_wp2_with fail
                                          go_ret
                                          exact ⟨_, l2, rfl, HO9.out, by omega, HSH9.out, HS9.out.mono (by omega), HK9.out⟩
                            · refine op_at rfl rfl (wp_made (v := .slice (some ⟨wd.heap.size, 0, none⟩) 4 4) (w' := wd.alloc (.cells #[.string ⟨t.toArray⟩, .string ⟨#[43, 57, 57, 57, 57, 57]⟩, .string ⟨#[43, 49, 48, 48, 48]⟩, .string ⟨#[]⟩] 9)) (bs_t4 _ (fun _ => rfl) _ _ _ _ _ _ _ rfl rfl) ⟨trivial, ?_⟩)
                              simp only [Act.put, List.getElem_toArray, List.getElem_cons_succ, List.getElem_cons_zero, List.setIfInBounds_toArray, List.set_cons_zero, List.set_cons_succ]
                              have L142 : Hid (Lst S (wd.alloc (.cells #[.string ⟨t.toArray⟩, .string ⟨#[43, 57, 57, 57, 57, 57]⟩, .string ⟨#[43, 49, 48, 48, 48]⟩, .string ⟨#[]⟩] 9)) wd.heap.size 4 [t, [43, 57, 57, 57, 57, 57], [43, 49, 48, 48, 48], []]) := lst_new S wd HSd.out.lt [t, [43, 57, 57, 57, 57, 57], [43, 49, 48, 48, 48], []] #[.string ⟨t.toArray⟩, .string ⟨#[43, 57, 57, 57, 57, 57]⟩, .string ⟨#[43, 49, 48, 48, 48]⟩, .string ⟨#[]⟩] rfl _ rfl
                              have HS143 : Hid (StreamOk (wd.alloc (.cells #[.string ⟨t.toArray⟩, .string ⟨#[43, 57, 57, 57, 57, 57]⟩, .string ⟨#[43, 49, 48, 48, 48]⟩, .string ⟨#[]⟩] 9)) S (k + 44)) := HSd.out.below (ext_alloc (Below.refl _ _))
                              have HK144 : Hid (Keeps S w6 (wd.alloc (.cells #[.string ⟨t.toArray⟩, .string ⟨#[43, 57, 57, 57, 57, 57]⟩, .string ⟨#[43, 49, 48, 48, 48]⟩, .string ⟨#[]⟩] 9))) := HKd.out.alloc _
                              generalize wd.alloc (.cells #[.string ⟨t.toArray⟩, .string ⟨#[43, 57, 57, 57, 57, 57]⟩, .string ⟨#[43, 49, 48, 48, 48]⟩, .string ⟨#[]⟩] 9) = W141 at L142 HS143 HK144 ⊢
                              generalize wd.heap.size = B145 at L142 ⊢
                              as_aux_lemma =>
                                refine wpAnyH_all (rs := [6]) (by kernel_rfl) (by simp) (fun i hi => ?_)
                                obtain rfl := List.mem_singleton.1 hi
                                have z146 := (HK144.out.cell (p := ⟨g, q * 2, none⟩) hg2 hgS).trans c0
                                refine op_at rfl rfl (wp_made (v := .string ⟨f.toArray⟩) (w' := W141) (by go_simp) ⟨trivial, ?_⟩)
                                clear z146
                                simp only [Act.put, List.getElem_toArray, List.getElem_cons_succ, List.getElem_cons_zero, List.setIfInBounds_toArray, List.set_cons_zero, List.set_cons_succ]
                                as_aux_lemma =>
                                  refine wpAnyH_all (rs := [7]) (by kernel_rfl) (by simp) (fun i hi => ?_)
                                  obtain rfl := List.mem_singleton.1 hi
                                  refine op_at rfl rfl (wp_made (v := .slice (some ⟨W141.heap.size, 0, none⟩) 5 5) (w' := W141.alloc (.cells #[.string ⟨f.toArray⟩, .string ⟨#[43, 48, 49, 50, 51]⟩, .string ⟨#[49, 50, 51, 52]⟩, .string ⟨#[43, 49, 50, 51]⟩, .string ⟨#[43, 53, 48, 48, 48]⟩] 9)) (bs_f5 _ (fun _ => rfl) _ _ _ _ _ _ _ _ rfl rfl) ⟨trivial, ?_⟩)
                                  simp only [Act.put, List.getElem_toArray, List.getElem_cons_succ, List.getElem_cons_zero, List.setIfInBounds_toArray, List.set_cons_zero, List.set_cons_succ]
                                  have L148 : Hid (Lst S (W141.alloc (.cells #[.string ⟨f.toArray⟩, .string ⟨#[43, 48, 49, 50, 51]⟩, .string ⟨#[49, 50, 51, 52]⟩, .string ⟨#[43, 49, 50, 51]⟩, .string ⟨#[43, 53, 48, 48, 48]⟩] 9)) W141.heap.size 5 [f, [43, 48, 49, 50, 51], [49, 50, 51, 52], [43, 49, 50, 51], [43, 53, 48, 48, 48]]) := lst_new S W141 HS143.out.lt [f, [43, 48, 49, 50, 51], [49, 50, 51, 52], [43, 49, 50, 51], [43, 53, 48, 48, 48]] #[.string ⟨f.toArray⟩, .string ⟨#[43, 48, 49, 50, 51]⟩, .string ⟨#[49, 50, 51, 52]⟩, .string ⟨#[43, 49, 50, 51]⟩, .string ⟨#[43, 53, 48, 48, 48]⟩] rfl _ rfl
                                  have HS149 : Hid (StreamOk (W141.alloc (.cells #[.string ⟨f.toArray⟩, .string ⟨#[43, 48, 49, 50, 51]⟩, .string ⟨#[49, 50, 51, 52]⟩, .string ⟨#[43, 49, 50, 51]⟩, .string ⟨#[43, 53, 48, 48, 48]⟩] 9)) S (k + 44)) := HS143.out.below (ext_alloc (Below.refl _ _))
                                  have HK150 : Hid (Keeps S w6 (W141.alloc (.cells #[.string ⟨f.toArray⟩, .string ⟨#[43, 48, 49, 50, 51]⟩, .string ⟨#[49, 50, 51, 52]⟩, .string ⟨#[43, 49, 50, 51]⟩, .string ⟨#[43, 53, 48, 48, 48]⟩] 9))) := HK144.out.alloc _
                                  have L152 : Hid (Lst S (W141.alloc (.cells #[.string ⟨f.toArray⟩, .string ⟨#[43, 48, 49, 50, 51]⟩, .string ⟨#[49, 50, 51, 52]⟩, .string ⟨#[43, 49, 50, 51]⟩, .string ⟨#[43, 53, 48, 48, 48]⟩] 9)) B145 4 [t, [43, 57, 57, 57, 57, 57], [43, 49, 48, 48, 48], []]) := L142.out.keeps ((Keeps.refl _ _).alloc _)
                                  generalize W141.alloc (.cells #[.string ⟨f.toArray⟩, .string ⟨#[43, 48, 49, 50, 51]⟩, .string ⟨#[49, 50, 51, 52]⟩, .string ⟨#[43, 49, 50, 51]⟩, .string ⟨#[43, 53, 48, 48, 48]⟩] 9) = W147 at L148 HS149 HK150 L152 ⊢
                                  generalize W141.heap.size = B151 at L148 ⊢
                                  as_aux_lemma =>
                                    refine wpAnyH_all (rs := [8]) (by kernel_rfl) (by simp) (fun i hi => ?_)
                                    obtain rfl := List.mem_singleton.1 hi
                                    refine op_at rfl rfl (gen_call 6 #[.pointer (some ⟨S, 0, none⟩), .slice (some ⟨B151, 0, none⟩) 5 5] (by go_simp) (some_lst S (k + 44) B151 5 [f, [43, 48, 49, 50, 51], [49, 50, 51, 52], [43, 49, 50, 51], [43, 53, 48, 48, 48]] (fun s => s.length ≤ 100) W147 HS149.out (by omega) L148.out (by omega) (by omega) (f5_short hf9)) ?_)
                                    rintro e W153 ⟨x1, rfl, hx1, hsW153, hkW153⟩
                                    have HS154 := Lib.hid hsW153
                                    have HK155 := Lib.hid (HK150.out.trans hkW153)
                                    have L156 := Lib.hid (L152.out.keeps hkW153)
                                    have hx1 : x1.length ≤ 100 := hx1
                                    clear hsW153 hkW153
                                    refine ⟨_, rfl, trivial, ?_⟩
                                    simp only [Act.put, List.getElem_toArray, List.getElem_cons_succ, List.getElem_cons_zero, List.setIfInBounds_toArray, List.set_cons_zero, List.set_cons_succ]
                                    as_aux_lemma =>
                                      refine wpAnyH_all (rs := [15]) (by kernel_rfl) (by simp) (fun i hi => ?_)
                                      obtain rfl := List.mem_singleton.1 hi
                                      refine op_at rfl rfl (gen_call 6 #[.pointer (some ⟨S, 0, none⟩), .slice (some ⟨B145, 0, none⟩) 4 4] (by go_simp) (some_lst S (k + 44 + 1) B145 4 [t, [43, 57, 57, 57, 57, 57], [43, 49, 48, 48, 48], []] (fun s => s.length ≤ 100) W153 HS154.out (by omega) L156.out (by omega) (by omega) (t4_short ht9)) ?_)
                                      rintro e W157 ⟨x2, rfl, hx2, hsW157, hkW157⟩
                                      have HS158 := Lib.hid hsW157
                                      have HK159 := Lib.hid (HK155.out.trans hkW157)
                                      have hx2 : x2.length ≤ 100 := hx2
                                      clear hsW157 hkW157
                                      refine ⟨_, rfl, trivial, ?_⟩
                                      simp only [Act.put, List.getElem_toArray, List.getElem_cons_succ, List.getElem_cons_zero, List.setIfInBounds_toArray, List.set_cons_zero, List.set_cons_succ]
                                      as_aux_lemma =>
                                        refine wpAnyH_take (i := 16) (v := .pointer (some ⟨g, q * 2, none⟩)) rfl (by kernel_rfl) (by kernel_rfl) (by kernel_rfl) (fun _ _ _ h => h) (Or.inl ⟨rfl, fun W hW => by go_simp⟩) trivial ?_
                                        simp only [Act.put, List.getElem_toArray, List.getElem_cons_succ, List.getElem_cons_zero, List.setIfInBounds_toArray, List.set_cons_zero, List.set_cons_succ]
                                        refine wpAnyH_take (i := 17) (v := .pointer (some ⟨g, q * 2, none⟩)) rfl (by kernel_rfl) (by kernel_rfl) (by kernel_rfl) (fun _ _ _ h => h) (Or.inl ⟨rfl, fun W hW => by go_simp⟩) trivial ?_
                                        simp only [Act.put, List.getElem_toArray, List.getElem_cons_succ, List.getElem_cons_zero, List.setIfInBounds_toArray, List.set_cons_zero, List.set_cons_succ]
                                        obtain ⟨l2, hl2, ho2, hsh2, hst2, hkp2⟩ := rng_store hg1 HO6.out HK159.out HK6.out HS158.out (by omega) HSH.out hq x1 x2 hx1 hx2
                                        have z1 := (HK159.out.cell (p := ⟨g, q * 2, none⟩) hg2 hgS).trans c0
                                        have z2 := (HK159.out.cell (p := ⟨g, q * 2 + 1, none⟩) hg2 hgS).trans c1
                                        have z3 : W157.frozen? ⟨g, q * 2, none⟩ = false := (HK159.out.frozen (p := ⟨g, q * 2, none⟩) hg2 hgS).trans d0
                                        have z4 : W157.frozen? ⟨g, q * 2 + 1, none⟩ = false := (HK159.out.frozen (p := ⟨g, q * 2 + 1, none⟩) hg2 hgS).trans d1
                                        refine wpAnyH_all (rs := [18]) (by kernel_rfl) (by simp) (fun i hi => ?_)
                                        obtain rfl := List.mem_singleton.1 hi
                                        refine op_at rfl rfl (wp_skip2 (w' := W157.setCell ⟨g, q * 2, none⟩ (.string ⟨x1.toArray⟩)) (by go_simp) ⟨trivial, ?_⟩)
                                        simp only [Act.put, List.getElem_toArray, List.getElem_cons_succ, List.getElem_cons_zero, List.setIfInBounds_toArray, List.set_cons_zero, List.set_cons_succ]
                                        refine wpAnyH_take (i := 19) (v := .pointer (some ⟨g, q * 2, none⟩)) rfl (by kernel_rfl) (by kernel_rfl) (by kernel_rfl) (fun _ _ _ h => h) (Or.inl ⟨rfl, fun W hW => by go_simp⟩) trivial ?_
                                        simp only [Act.put, List.getElem_toArray, List.getElem_cons_succ, List.getElem_cons_zero, List.setIfInBounds_toArray, List.set_cons_zero, List.set_cons_succ]
                                        refine wpAnyH_take (i := 20) (v := .pointer (some ⟨g, q * 2 + 1, none⟩)) rfl (by kernel_rfl) (by kernel_rfl) (by kernel_rfl) (fun _ _ _ h => h) (Or.inl ⟨rfl, fun W hW => by go_simp⟩) trivial ?_
                                        simp only [Act.put, List.getElem_toArray, List.getElem_cons_succ, List.getElem_cons_zero, List.setIfInBounds_toArray, List.set_cons_zero, List.set_cons_succ]
                                        refine wpAnyH_all (rs := [21]) (by kernel_rfl) (by simp) (fun i hi => ?_)
                                        obtain rfl := List.mem_singleton.1 hi
                                        refine op_at rfl rfl (wp_skip2 (w' := (W157.setCell ⟨g, q * 2, none⟩ (.string ⟨x1.toArray⟩)).setCell ⟨g, q * 2 + 1, none⟩ (.string ⟨x2.toArray⟩)) (by go_simp) ⟨trivial, ?_⟩)
                                        simp only [Act.put, List.getElem_toArray, List.getElem_cons_succ, List.getElem_cons_zero, List.setIfInBounds_toArray, List.set_cons_zero, List.set_cons_succ]
                                        refine wpAnyH_done (by kernel_rfl) ?_ _
                                        have HO9 := Lib.hid ho2
                                        have HS9 := Lib.hid hst2
                                        have HK9 := Lib.hid hkp2
                                        have HSH9 := Lib.hid hsh2
                                        clear ho2 hst2 hkp2 hsh2 z1 z2 z3 z4
                                        generalize (W157.setCell ⟨g, q * 2, none⟩ (.string ⟨x1.toArray⟩)).setCell ⟨g, q * 2 + 1, none⟩ (.string ⟨x2.toArray⟩) = W9 at HO9 HS9 HK9 ⊢
                                        go_wp2_with fail
                                        go_ret
                                        exact ⟨_, l2, rfl, HO9.out, by omega, HSH9.out, HS9.out.mono (by omega), HK9.out⟩
end Go.Proofs.YtmbimfmalijjpaaGreatDoor
