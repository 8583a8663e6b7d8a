/- What is proved here: lemmas and contracts for the statement, put together out of smaller texts (WayOwn, PortRows, Stream, Picks, RegionGen, GenPick, RegionLate). No condition beyond those stated. -/
import Derived.Test.YtkdadbpajhdelaaGreatDoorCePkB
import Derived.Test.YtkdadbpajhdelaaGreatDoorShelfHas
import Derived.Test.YtkdadbpajhdelaaGreatDoorCePkA
set_option linter.unusedVariables false
set_option linter.unusedSimpArgs false
namespace Go.Proofs.YtkdadbpajhdelaaGreatDoor
open Go.RowKit

theorem Tryz.infoStr : (Tryz.prog.info? 9).map (fun i => (i.zero, i.size, i.bytes)) = some (some (.string ⟨#[]⟩), 1, 16) := by kernel_rfl
theorem mk_inj {a b : List UInt8} : ((⟨a.toArray⟩ : ByteArray) = ⟨b.toArray⟩) ↔ a = b := by simp
theorem contains_own {w : World} {base : Nat} {v : Value} {n : Nat} {out : List (List UInt8)} (h : w.ownsRow base 9 1 v n (out.map encS)) (hn : n ≤ 1000) (s : List UInt8) :
    Calls Tryz.prog 11 #[v, .string ⟨s.toArray⟩] w fun e w' => e = .returned (.bool (decide (s ∈ out))) ∧ w' = w := by
  have hl : out.length = n := by have := h.1; simpa using this
  rcases h.2 with ⟨rfl, h0⟩ | ⟨g, cap, cur, rfl, _⟩
  · have : out = [] := List.eq_nil_of_length_eq_zero (by omega)
    subst this h0
    refine (Tryz.slices_hasS_empty none 0 _ w).mono ?_
    rintro e w' ⟨rfl, rfl⟩
    exact ⟨by simp, rfl⟩
  · refine (Tryz.slices_hasS g 0 n cap (out.map fun x => ⟨x.toArray⟩) ⟨s.toArray⟩ w (by simp; omega) (by omega) (fun j hj => ?_)).mono ?_
    · have hj' : j < out.length := by simpa using hj
      rw [Nat.zero_add, h.cellAt j (by omega)]
      simp [encS, hj']
    · rintro e w' ⟨rfl, rfl⟩
      refine ⟨?_, rfl⟩
      rw [List.take_of_length_le (by simp; omega)]
      congr 2
      rw [Bool.eq_iff_iff, Lib.containsS_iff, decide_eq_true_eq]
      simp
/-- A slice of one string that is written out. -/
theorem own_lit1 (w : World) (x : List UInt8) (base : Nat) (hb : base ≤ w.heap.size) : (w.alloc (.cells #[.string ⟨x.toArray⟩] 9)).ownsRow base 9 1 (.slice (some ⟨w.heap.size, 0, none⟩) 1 1) 1 ([x].map encS) := World.ownsRow_lit w #[.string ⟨x.toArray⟩] 1 hb (by simp only [maxLen]; omega) rfl
theorem own_keep {w w' : World} {base e size : Nat} {v : Value} {n : Nat} {xs : List Value} (h : w.ownsRow base e size v n xs) (hb : Below w.heap.size w w') : w'.ownsRow base e size v n xs := by
  refine ⟨h.1, h.2.imp id ?_⟩
  rintro ⟨g, cap, cur, rfl, h1, h2, h3⟩
  exact ⟨g, cap, cur, rfl, h1, (hb.block g (Array.getElem?_eq_some_iff.1 h2).1).trans h2, h3⟩
theorem own_below {w w' : World} {base B e size : Nat} {v : Value} {n : Nat} {xs : List Value} (h : w.ownsRow base e size v n xs) (hb : Below B w w') (hv : ∀ g, v.ownBlock = some g → g < B) : w'.ownsRow base e size v n xs := by
  refine ⟨h.1, h.2.imp id ?_⟩
  rintro ⟨g, cap, cur, rfl, h1, h2, h3⟩
  exact ⟨g, cap, cur, rfl, h1, (hb.block g (hv g rfl)).trans h2, h3⟩
theorem own_row1 {w : World} {base : Nat} {e : TypeId} {size : Nat} {v : Value} {n : Nat} {xs : List Value} (h : w.ownsRow base e size v (n + 1) xs) : ∃ g c, v = .slice (some ⟨g, 0, none⟩) (n + 1) c ∧ base ≤ g ∧ g < w.heap.size := by
  rcases h.2 with ⟨_, h0⟩ | ⟨g, cap, cur, rfl, h1, h2, _⟩
  · cases h0
  · exact ⟨g, cap, rfl, h1, (Array.getElem?_eq_some_iff.1 h2).1⟩

theorem own_le {w : World} {base base' e size : Nat} {v : Value} {n : Nat} {xs : List Value} (h : w.ownsRow base e size v n xs) (hb : base' ≤ base) : w.ownsRow base' e size v n xs := by
  refine ⟨h.1, h.2.imp id ?_⟩
  rintro ⟨g, cap, cur, rfl, h1, h2⟩
  exact ⟨g, cap, cur, rfl, Nat.le_trans hb h1, h2⟩
theorem own_shape {w : World} {base : Nat} {e : TypeId} {size : Nat} {v : Value} {n : Nat} {xs : List Value} (h : w.ownsRow base e size v n xs) : ∃ a c, v = .slice a n c := by
  rcases h.2 with ⟨rfl, rfl⟩ | ⟨g, cap, cur, rfl, _⟩
  · exact ⟨none, 0, rfl⟩
  · exact ⟨_, _, rfl⟩
theorem wp_made {P : Program} {o : Oper} {a : Act} {w w' : World} {v : Value} {K : Act → World → Prop} {Q : Exit → Act → World → Prop} (h : (execOp a.eval o).run P w = .ok (.value v) w') (hK : K (a.put o.dst v) w') : Oper.wp P o a w K Q := by
  unfold Oper.wp; rw [h]; exact hK

end Go.Proofs.YtkdadbpajhdelaaGreatDoor

set_option linter.unusedVariables false
set_option linter.unusedSimpArgs false
namespace Go.Proofs.YtkdadbpajhdelaaGreatDoor
open Go.RowKit

/-- n structs of sz cells each. -/
structure Cells (w : World) (sz : Nat) (a : Option Addr) (n : Nat) (cs : List (List Value)) : Prop where
  len : n = cs.length
  row : n = 0 ∨ ∃ b off, a = some ⟨b, off, none⟩ ∧ b < w.heap.size ∧ ∀ i, i < n → ∀ j, j < sz → w.cell? ⟨b, off + i * sz + j, none⟩ = (cs.getD i [])[j]?
theorem Cells.below {w w' : World} {sz : Nat} {a : Option Addr} {n : Nat} {cs : List (List Value)} (h : Cells w sz a n cs) (hb : Below w.heap.size w w') : Cells w' sz a n cs := by
  refine ⟨h.len, h.row.imp id ?_⟩
  rintro ⟨b, off, ha, hl, hc⟩
  exact ⟨b, off, ha, Nat.lt_of_lt_of_le hl hb.size, fun i hi j hj => (hb.cell (p := ⟨b, off + i * sz + j, none⟩) hl).trans (hc i hi j hj)⟩
theorem flat_len2 {sz : Nat} : ∀ {cs : List (List Value)}, (∀ c ∈ cs, c.length = sz) → cs.flatten.length = cs.length * sz
  | [], _ => by simp
  | c :: cs, h => by
    rw [List.flatten_cons, List.length_append, flat_len2 (fun x hx => h x (List.mem_cons_of_mem _ hx)), h c List.mem_cons_self, List.length_cons, Nat.succ_mul]
    omega
theorem flat_at {sz : Nat} : ∀ {cs : List (List Value)}, (∀ c ∈ cs, c.length = sz) → ∀ i, i < cs.length → ∀ j, j < sz → cs.flatten[i * sz + j]? = (cs.getD i [])[j]?
  | [], _, i, hi, _, _ => by simp at hi
  | c :: cs, h, 0, _, j, hj => by
    have hc := h c List.mem_cons_self
    rw [List.flatten_cons, Nat.zero_mul, Nat.zero_add, List.getElem?_append_left (by omega)]
    rfl
  | c :: cs, h, i + 1, hi, j, hj => by
    have hc := h c List.mem_cons_self
    rw [List.flatten_cons, List.getElem?_append_right (by rw [Nat.succ_mul]; omega), hc, show (i + 1) * sz + j - sz = i * sz + j by rw [Nat.succ_mul]; omega,
      flat_at (fun x hx => h x (List.mem_cons_of_mem _ hx)) i (by simpa using hi) j hj]
    rfl
theorem Cells.of_own {w : World} {base : Nat} {e : TypeId} {sz : Nat} {v : Value} {n : Nat} {cs : List (List Value)} (h : w.ownsRow base e sz v n cs.flatten) (hs : ∀ c ∈ cs, c.length = sz) (h0 : 0 < sz) : ∃ a c, v = .slice a n c ∧ Cells w sz a n cs := by
  have hl : cs.length = n := by
    have h1 := h.1
    rw [flat_len2 hs] at h1
    exact Nat.eq_of_mul_eq_mul_right h0 h1
  cases n with
  | zero =>
    obtain ⟨a, c, rfl⟩ := own_shape h
    exact ⟨a, c, rfl, hl.symm, Or.inl rfl⟩
  | succ m =>
    obtain ⟨g, c, rfl, h1, h2⟩ := own_row1 h
    refine ⟨_, c, rfl, hl.symm, Or.inr ⟨g, 0, rfl, h2, fun i hi j hj => ?_⟩⟩
    rw [Nat.zero_add, h.cellAt (i * sz + j) (by
      have : (i + 1) * sz ≤ (m + 1) * sz := Nat.mul_le_mul_right _ (by omega)
      rw [Nat.succ_mul] at this
      omega), flat_at hs i (by omega) j hj]
theorem getD_map {α β : Type} (f : α → β) (l : List α) (i : Nat) (x : α) (y : β) (hi : i < l.length) : (l.map f).getD i y = f (l.getD i x) := by
  simp [hi]

def Rng.cells (r : Rng) : List Value := [.string ⟨r.f.toArray⟩, .string ⟨r.t.toArray⟩]
def Own.cells (o : Own) : List Value := [.string ⟨o.r.f.toArray⟩, .string ⟨o.r.t.toArray⟩, .string ⟨o.c.toArray⟩]
def Prt.cells (p : Prt) : List Value := [.string ⟨p.n.toArray⟩, .int .i64 p.at_, .string ⟨p.c.toArray⟩]
structure RngRow (w : World) (a : Option Addr) (n : Nat) (l : List Rng) : Prop where
  cells : Cells w 2 a n (l.map Rng.cells)
  few : n ≤ 5000
  each : ∀ i, i < l.length → (l.getD i noRng).f.length ≤ 100 ∧ (l.getD i noRng).t.length ≤ 100
structure OwnRow (w : World) (a : Option Addr) (n : Nat) (l : List Own) : Prop where
  cells : Cells w 3 a n (l.map Own.cells)
  few : n ≤ 5000
  each : ∀ i, i < l.length → (l.getD i noOwn).r.f.length ≤ 100 ∧ (l.getD i noOwn).r.t.length ≤ 100 ∧ (l.getD i noOwn).c.length ≤ 100
structure PrtRow (w : World) (a : Option Addr) (n : Nat) (l : List Prt) : Prop where
  cells : Cells w 3 a n (l.map Prt.cells)
  few : n ≤ 5000
  each : ∀ i, i < l.length → (l.getD i noPrt).n.length ≤ 100 ∧ (l.getD i noPrt).c.length ≤ 100
theorem RngRow.below {w w' : World} {a : Option Addr} {n : Nat} {l : List Rng} (h : RngRow w a n l) (hb : Below w.heap.size w w') : RngRow w' a n l := ⟨h.cells.below hb, h.few, h.each⟩
theorem OwnRow.below {w w' : World} {a : Option Addr} {n : Nat} {l : List Own} (h : OwnRow w a n l) (hb : Below w.heap.size w w') : OwnRow w' a n l := ⟨h.cells.below hb, h.few, h.each⟩
theorem PrtRow.below {w w' : World} {a : Option Addr} {n : Nat} {l : List Prt} (h : PrtRow w a n l) (hb : Below w.heap.size w w') : PrtRow w' a n l := ⟨h.cells.below hb, h.few, h.each⟩
theorem RngRow.len {w : World} {a : Option Addr} {n : Nat} {l : List Rng} (h : RngRow w a n l) : n = l.length := by have := h.cells.len; simpa using this
theorem OwnRow.len {w : World} {a : Option Addr} {n : Nat} {l : List Own} (h : OwnRow w a n l) : n = l.length := by have := h.cells.len; simpa using this
theorem PrtRow.len {w : World} {a : Option Addr} {n : Nat} {l : List Prt} (h : PrtRow w a n l) : n = l.length := by have := h.cells.len; simpa using this
theorem RngRow.at {w : World} {a : Option Addr} {n : Nat} {l : List Rng} (h : RngRow w a n l) (hn : 0 < n) : ∃ b off, a = some ⟨b, off, none⟩ ∧ b < w.heap.size ∧ ∀ i, i < n → w.cell? ⟨b, off + i * 2, none⟩ = some (.string ⟨(l.getD i noRng).f.toArray⟩) ∧ w.cell? ⟨b, off + i * 2 + 1, none⟩ = some (.string ⟨(l.getD i noRng).t.toArray⟩) := by
  rcases h.cells.row with h0 | ⟨b, off, h1, h2, h3⟩
  · omega
  · refine ⟨b, off, h1, h2, fun i hi => ?_⟩
    have hl := h.len
    have e := getD_map Rng.cells l i noRng [] (by omega)
    have k0 := h3 i hi 0 (by omega)
    have k1 := h3 i hi 1 (by omega)
    rw [e] at k0 k1
    exact ⟨k0, k1⟩
theorem OwnRow.at {w : World} {a : Option Addr} {n : Nat} {l : List Own} (h : OwnRow w a n l) (hn : 0 < n) : ∃ b off, a = some ⟨b, off, none⟩ ∧ b < w.heap.size ∧ ∀ i, i < n → w.cell? ⟨b, off + i * 3, none⟩ = some (.string ⟨(l.getD i noOwn).r.f.toArray⟩) ∧ w.cell? ⟨b, off + i * 3 + 1, none⟩ = some (.string ⟨(l.getD i noOwn).r.t.toArray⟩) ∧ w.cell? ⟨b, off + i * 3 + 2, none⟩ = some (.string ⟨(l.getD i noOwn).c.toArray⟩) := by
  rcases h.cells.row with h0 | ⟨b, off, h1, h2, h3⟩
  · omega
  · refine ⟨b, off, h1, h2, fun i hi => ?_⟩
    have hl := h.len
    have e := getD_map Own.cells l i noOwn [] (by omega)
    have k0 := h3 i hi 0 (by omega)
    have k1 := h3 i hi 1 (by omega)
    have k2 := h3 i hi 2 (by omega)
    rw [e] at k0 k1 k2
    exact ⟨k0, k1, k2⟩
theorem PrtRow.at {w : World} {a : Option Addr} {n : Nat} {l : List Prt} (h : PrtRow w a n l) (hn : 0 < n) : ∃ b off, a = some ⟨b, off, none⟩ ∧ b < w.heap.size ∧ ∀ i, i < n → w.cell? ⟨b, off + i * 3, none⟩ = some (.string ⟨(l.getD i noPrt).n.toArray⟩) ∧ w.cell? ⟨b, off + i * 3 + 1, none⟩ = some (.int .i64 (l.getD i noPrt).at_) ∧ w.cell? ⟨b, off + i * 3 + 2, none⟩ = some (.string ⟨(l.getD i noPrt).c.toArray⟩) := by
  rcases h.cells.row with h0 | ⟨b, off, h1, h2, h3⟩
  · omega
  · refine ⟨b, off, h1, h2, fun i hi => ?_⟩
    have hl := h.len
    have e := getD_map Prt.cells l i noPrt [] (by omega)
    have k0 := h3 i hi 0 (by omega)
    have k1 := h3 i hi 1 (by omega)
    have k2 := h3 i hi 2 (by omega)
    rw [e] at k0 k1 k2
    exact ⟨k0, k1, k2⟩
end Go.Proofs.YtkdadbpajhdelaaGreatDoor

namespace Go.Proofs.YtkdadbpajhdelaaGreatDoor
open Go.RowKit

def belowI (x n : Int) : Int := if n < 1 then 0 else if x.tmod n < 0 then x.tmod n + n else x.tmod n

theorem belowI_range (x n : Int) (h : 1 ≤ n) : 0 ≤ belowI x n ∧ belowI x n ≤ n - 1 := by
  unfold belowI
  rw [if_neg (by omega)]
  have h1 := Int.tmod_lt_of_pos x (show 0 < n by omega)
  have h2 : -n < x.tmod n := Int.lt_tmod_of_pos x (by omega)
  split <;> omega

theorem below_any (x n : Int) (w : World) (h : 1 ≤ n) (hn : n ≤ 9223372036854775807) :
    Calls Tryz.prog 67 #[.int .i64 x, .int .i64 n] w fun e w' => e = .returned (.int .i64 (belowI x n)) ∧ w = w' := by
  have h1 := Int.tmod_lt_of_pos x (show 0 < n by omega)
  have h2 : -n < x.tmod n := Int.lt_tmod_of_pos x (by omega)
  have hlt : ¬ n < 1 := by omega
  by_cases hx : x.tmod n < 0
  · have hb : Hid (belowI x n = x.tmod n + n) := Lib.hid (by unfold belowI; rw [if_neg hlt, if_pos hx])
    go_enter Tryz.func67, Tryz.ntmps67
    go_wp2
    go_ret
    exact ⟨ret_int hb.out.symm, rfl⟩
  · have hb : Hid (belowI x n = x.tmod n) := Lib.hid (by unfold belowI; rw [if_neg hlt, if_neg hx])
    go_enter Tryz.func67, Tryz.ntmps67
    go_wp2
    go_ret
    exact ⟨ret_int hb.out.symm, rfl⟩

theorem stream_set {w w' : World} {S k : Nat} {a : Option Addr} {len cap : Nat} {zs : List Int} {n : Nat} (hn : n ≤ k) (hs : S < w.heap.size)
    (h0 : w.cell? ⟨S, 0, none⟩ = some (.slice a len cap)) (h1 : w.cell? ⟨S, 1, none⟩ = some (.int .i64 n)) (hf : w.frozen? ⟨S, 1, none⟩ = false) (hr : IntRow w S a len cap zs)
    (v : Value) (hv : v = .int .i64 ((n : Int) + 1)) (m : Nat) (hw : w' = (w.setCell ⟨S, 1, none⟩ v).drewN m) : StreamOk w' S (k + 1) ∧ Keeps S w w' := by
  subst hv
  have kp : Keeps S w (w.setCell ⟨S, 1, none⟩ (.int .i64 ((n : Int) + 1))) := (Keeps.refl S w).setCell rfl _
  have kp' : Keeps S w w' := by rw [hw]; exact kp.drewN m
  refine ⟨⟨a, len, cap, zs, n + 1, by omega, Nat.lt_of_lt_of_le hs kp'.size, ?_, ?_, ?_, hr.kept (kp'.below (Nat.le_of_lt hs) (Nat.le_refl _))⟩, kp'⟩
  · rw [hw]; simpa using (World.cell?_setCell_other _ _ _ _ (by simp)).trans h0
  · rw [hw]; simpa using World.cell?_setCell_same _ _ _ h1
  · rw [hw]; simpa using hf

set_option maxHeartbeats 1000000 in
theorem next_any (S k : Nat) (n : Int) (w : World) (h : StreamOk w S k) (hk : k ≤ 1000000000) (h1 : 1 ≤ n) (h2 : n ≤ 9223372036854775807) :
    Calls Tryz.prog 24 #[.pointer (some ⟨S, 0, none⟩), .int .i64 n] w (NextPost S (k + 1) 0 (n - 1) w) := by
  obtain ⟨a, len, cap, zs, m, hm, hs, c0, c1, cf, hr⟩ := h
  have fin := fun (x : Int) (w' : World) (v : Value) (hv : v = .int .i64 ((m : Int) + 1)) (j : Nat) (hw : w' = (w.setCell ⟨S, 1, none⟩ v).drewN j) =>
    show NextPost S (k + 1) 0 (n - 1) w (.returned (.int .i64 (belowI x n))) w' from
    ⟨_, rfl, (belowI_range x n h1).1, (belowI_range x n h1).2, stream_set hm hs c0 c1 cf hr v hv j hw⟩
  have Fin := Lib.hid fin
  clear fin
  rcases hr with hl | ⟨b, off, ha, hb, hlc, hcm, hz, hc⟩
  · subst hl
    go_enter Tryz.func24, Tryz.ntmps24
    go_wp2_with (go_at_call 67; refine (below_any _ _ _ h1 h2).mono ?_; rintro e w' ⟨rfl, rfl⟩)
    go_ret
    exact Fin.out _ _ _ rfl 0 rfl
  · subst ha
    unfold maxLen at hcm
    by_cases hl : len = 0
    · subst hl
      go_enter Tryz.func24, Tryz.ntmps24
      go_wp2_with (go_at_call 67; refine (below_any _ _ _ h1 h2).mono ?_; rintro e w' ⟨rfl, rfl⟩)
      go_ret
      exact Fin.out _ _ _ rfl 0 rfl
    · have hl0 : ((len : Int) == 0) = false := by simp; omega
      have hmod : m % len < len := Nat.mod_lt _ (by omega)
      have hcell := hc (m % len) hmod
      have hbm : b ≠ S := by omega
      clear hc
      go_enter Tryz.func24, Tryz.ntmps24
      go_wp2_with fail
      go_quiet (fail)
      go_wp2_with fail
      go_quiet (fail)
      go_wp2_with fail
      refine (below_any _ _ _ (by omega) (by omega)).mono ?_
      rintro e w' ⟨rfl, rfl⟩
      go_wp2_with fail
      refine (below_any _ _ _ h1 h2).mono ?_
      rintro e w' ⟨rfl, rfl⟩
      go_wp2_with fail
      go_ret
      exact Fin.out _ _ _ rfl _ rfl

/-- A statement's end: nothing that was there before has turned. -/
theorem law_end {w w9 : World} {o : Obj} (hk : Keeps w.heap.size (w.alloc o) w9) : Below w.heap.size w w9 :=
  ((Below.refl _ w).alloc (Nat.le_refl _) o).trans (hk.below (B := w.heap.size) (by simp) (Nat.le_refl _))

/-- The slice that came in. -/
def ArgRow (w : World) (a : Option Addr) (len cap : Nat) (zs : List Int) : Prop :=
  len = 0 ∨ ∃ b off, a = some ⟨b, off, none⟩ ∧ b < w.heap.size ∧ len ≤ cap ∧ cap ≤ maxLen ∧ len ≤ zs.length ∧ ∀ i, i < len → w.cell? ⟨b, off + i, none⟩ = some (.int .i64 (zs.getD i 0))

theorem argRow_of {w : World} {x : Addr} {len cap : Nat} {zs : List Int} (h1 : len ≤ cap) (h2 : cap ≤ maxLen) (h3 : zs.length = cap) (hc : ∀ i, i < zs.length → w.cell? (x.add i) = some (.int .i64 (zs.getD i 0))) : ArgRow w (some x) len cap zs := by
  by_cases h0 : len = 0
  · exact Or.inl h0
  · obtain ⟨b, off, spot⟩ := x
    have hc0 := hc 0 (by omega)
    have hspot : spot = none := by simpa [Addr.add] using World.cell?_spot hc0
    subst hspot
    refine Or.inr ⟨b, off, rfl, ?_, h1, h2, by omega, fun i hi => ?_⟩
    · rcases Nat.lt_or_ge b w.heap.size with h | h
      · exact h
      · simp [World.cell?, Addr.add, Array.getElem?_eq_none h] at hc0
    · have := hc i (by omega)
      have hp : (⟨b, off, none⟩ : Addr).add i = ⟨b, off + i, none⟩ := by unfold Addr.add; split <;> simp_all
      rwa [hp] at this

/-- The stream that a statement begins with. -/
theorem stream_start {w : World} {a : Option Addr} {len cap : Nat} {zs : List Int} (h : len = 0 ∨ ∃ b off, a = some ⟨b, off, none⟩ ∧ b < w.heap.size ∧ len ≤ cap ∧ cap ≤ maxLen ∧ len ≤ zs.length ∧ ∀ i, i < len → w.cell? ⟨b, off + i, none⟩ = some (.int .i64 (zs.getD i 0))) :
    StreamOk (w.alloc (.cells #[.slice a len cap, .int .i64 0] 25)) w.heap.size 0 := by
  refine ⟨a, len, cap, zs, 0, Nat.le_refl _, by simp, by simp, by simp, by simp, ?_⟩
  refine h.imp id ?_
  rintro ⟨b, off, ha, hb, h1, h2, h3, hc⟩
  refine ⟨b, off, ha, hb, h1, h2, h3, fun i hi => ?_⟩
  rw [World.cell?_alloc_lt _ _ _ (by show b < _; omega)]
  exact hc i hi

theorem range_any (S k : Nat) (lo hi : Int) (w : World) (h : StreamOk w S k) (hk : k ≤ 1000000000) (h1 : lo ≤ hi) (h2 : -4611686018427387904 ≤ lo) (h3 : hi ≤ 4611686018427387000) :
    Calls Tryz.prog 20 #[.pointer (some ⟨S, 0, none⟩), .int .i64 lo, .int .i64 hi] w (NextPost S (k + 1) lo hi w) := by
  have hlt : ¬ hi < lo := by omega
  go_enter Tryz.func20, Tryz.ntmps20
  go_wp2_with fail
  refine (next_any S k _ _ h hk (by omega) (by omega)).mono ?_
  rintro e w' ⟨r, rfl, r0, r1, hst, hkp⟩
  go_wp2_with fail
  go_ret
  exact ⟨lo + r, rfl, by omega, by omega, hst, hkp⟩

def FlipPost (S k : Nat) (w : World) (e : Ending) (w' : World) : Prop :=
  ∃ r : Bool, e = .returned (.bool r) ∧ StreamOk w' S k ∧ Keeps S w w'

theorem flip_any (S k : Nat) (n : Int) (w : World) (h : StreamOk w S k) (hk : k ≤ 1000000000) (h1 : 1 ≤ n) (h2 : n ≤ 9223372036854775807) :
    Calls Tryz.prog 64 #[.pointer (some ⟨S, 0, none⟩), .int .i64 n] w (FlipPost S (k + 1) w) := by
  go_enter Tryz.func64, Tryz.ntmps64
  go_wp2_with fail
  refine (next_any S k _ _ h hk h1 h2).mono ?_
  rintro e w' ⟨r, rfl, r0, r1, hst, hkp⟩
  go_wp2_with fail
  go_ret
  exact ⟨_, rfl, hst, hkp⟩
end Go.Proofs.YtkdadbpajhdelaaGreatDoor

namespace Go.Proofs.YtkdadbpajhdelaaGreatDoor
open Go.RowKit
set_option linter.unusedVariables false

/-- One of some values is handed out. -/
def PickPost (S k : Nat) (P : Int → Prop) (w : World) (e : Ending) (w' : World) : Prop :=
  ∃ r : Int, e = .returned (.int .i64 r) ∧ P r ∧ StreamOk w' S k ∧ Keeps S w w'
def SomePost (S k : Nat) (P : List UInt8 → Prop) (w : World) (e : Ending) (w' : World) : Prop :=
  ∃ r : List UInt8, e = .returned (.string ⟨r.toArray⟩) ∧ P r ∧ StreamOk w' S k ∧ Keeps S w w'

theorem pick_any (S k b n c : Nat) (vals : List Int) (P : Int → Prop) (w : World) (h : StreamOk w S k) (hk : k ≤ 1000000000) (hb : b < w.heap.size) (hS : b ≠ S) (h1 : 1 ≤ n) (h2 : n ≤ 1000) (hc : ∀ i, i < n → w.cell? ⟨b, i, none⟩ = some (.int .i64 (vals.getD i 0))) (hP : ∀ i, i < n → P (vals.getD i 0)) :
    Calls Tryz.prog 62 #[.pointer (some ⟨S, 0, none⟩), .slice (some ⟨b, 0, none⟩) n c] w (PickPost S (k + 1) P w) := by
  have Hc := Lib.hid hc
  have HP := Lib.hid hP
  have HS := Lib.hid h
  clear hc hP h
  go_enter Tryz.func62, Tryz.ntmps62
  go_wp2_with fail
  refine (next_any S k _ _ HS.out hk (by omega) (by omega)).mono ?_
  rintro e w' ⟨r, rfl, r0, r1, hst, hkp⟩
  obtain ⟨r, rfl⟩ := Int.eq_ofNat_of_zero_le r0
  have hr : r < n := by omega
  have c0 := (hkp.cell (p := ⟨b, r, none⟩) hb hS).trans (Hc.out r hr)
  have HP' := Lib.hid (HP.out r hr)
  have HK := Lib.hid hkp
  have HS' := Lib.hid hst
  clear hkp hst
  generalize vals.getD r 0 = x at c0 HP'
  go_wp2_with fail
  go_ret
  exact ⟨x, rfl, HP'.out, HS'.out, HK.out⟩

theorem some_any (S k b n c : Nat) (vals : List (List UInt8)) (P : List UInt8 → Prop) (w : World) (h : StreamOk w S k) (hk : k ≤ 1000000000) (hb : b < w.heap.size) (hS : b ≠ S) (h1 : 1 ≤ n) (h2 : n ≤ 1000) (hc : ∀ i, i < n → w.cell? ⟨b, i, none⟩ = some (.string ⟨(vals.getD i []).toArray⟩)) (hP : ∀ i, i < n → P (vals.getD i [])) :
    Calls Tryz.prog 9 #[.pointer (some ⟨S, 0, none⟩), .slice (some ⟨b, 0, none⟩) n c] w (SomePost S (k + 1) P w) := by
  have Hc := Lib.hid hc
  have HP := Lib.hid hP
  have HS := Lib.hid h
  clear hc hP h
  go_enter Tryz.func9, Tryz.ntmps9
  go_wp2_with fail
  refine (next_any S k _ _ HS.out hk (by omega) (by omega)).mono ?_
  rintro e w' ⟨r, rfl, r0, r1, hst, hkp⟩
  obtain ⟨r, rfl⟩ := Int.eq_ofNat_of_zero_le r0
  have hr : r < n := by omega
  have c0 := (hkp.cell (p := ⟨b, r, none⟩) hb hS).trans (Hc.out r hr)
  have HP' := Lib.hid (HP.out r hr)
  have HK := Lib.hid hkp
  have HS' := Lib.hid hst
  clear hkp hst
  generalize vals.getD r [] = x at c0 HP'
  go_wp2_with fail
  go_ret
  exact ⟨x, rfl, HP'.out, HS'.out, HK.out⟩

/-- Three, four, five values in a new block. -/
theorem cells3 {w : World} {b : Nat} {x0 x1 x2 : Int} (h0 : w.cell? ⟨b, 0, none⟩ = some (.int .i64 x0)) (h1 : w.cell? ⟨b, 1, none⟩ = some (.int .i64 x1)) (h2 : w.cell? ⟨b, 2, none⟩ = some (.int .i64 x2)) : ∀ i, i < 3 → w.cell? ⟨b, i, none⟩ = some (.int .i64 (([x0, x1, x2] : List Int).getD i 0))
  | 0, _ => h0
  | 1, _ => h1
  | 2, _ => h2
theorem cells4 {w : World} {b : Nat} {x0 x1 x2 x3 : Int} (h0 : w.cell? ⟨b, 0, none⟩ = some (.int .i64 x0)) (h1 : w.cell? ⟨b, 1, none⟩ = some (.int .i64 x1)) (h2 : w.cell? ⟨b, 2, none⟩ = some (.int .i64 x2)) (h3 : w.cell? ⟨b, 3, none⟩ = some (.int .i64 x3)) : ∀ i, i < 4 → w.cell? ⟨b, i, none⟩ = some (.int .i64 (([x0, x1, x2, x3] : List Int).getD i 0))
  | 0, _ => h0
  | 1, _ => h1
  | 2, _ => h2
  | 3, _ => h3
theorem cells5 {w : World} {b : Nat} {x0 x1 x2 x3 x4 : Int} (h0 : w.cell? ⟨b, 0, none⟩ = some (.int .i64 x0)) (h1 : w.cell? ⟨b, 1, none⟩ = some (.int .i64 x1)) (h2 : w.cell? ⟨b, 2, none⟩ = some (.int .i64 x2)) (h3 : w.cell? ⟨b, 3, none⟩ = some (.int .i64 x3)) (h4 : w.cell? ⟨b, 4, none⟩ = some (.int .i64 x4)) : ∀ i, i < 5 → w.cell? ⟨b, i, none⟩ = some (.int .i64 (([x0, x1, x2, x3, x4] : List Int).getD i 0))
  | 0, _ => h0
  | 1, _ => h1
  | 2, _ => h2
  | 3, _ => h3
  | 4, _ => h4

/-- Pick of three, four or five numbers that are written out. -/
theorem pick3 (S k b : Nat) (x0 x1 x2 : Int) (P : Int → Prop) (w : World) (h : StreamOk w S k) (hk : k ≤ 1000000000) (hb : b < w.heap.size) (hS : b ≠ S) (h0 : w.cell? ⟨b, 0, none⟩ = some (.int .i64 x0)) (h1 : w.cell? ⟨b, 1, none⟩ = some (.int .i64 x1)) (h2 : w.cell? ⟨b, 2, none⟩ = some (.int .i64 x2)) (p0 : P x0) (p1 : P x1) (p2 : P x2) :
    Calls Tryz.prog 62 #[.pointer (some ⟨S, 0, none⟩), .slice (some ⟨b, 0, none⟩) 3 3] w (PickPost S (k + 1) P w) :=
  pick_any S k b 3 3 [x0, x1, x2] P w h hk hb hS (by omega) (by omega) (cells3 h0 h1 h2) (fun i hi => by match i, hi with | 0, _ => exact p0 | 1, _ => exact p1 | 2, _ => exact p2)
theorem pick4 (S k b : Nat) (x0 x1 x2 x3 : Int) (P : Int → Prop) (w : World) (h : StreamOk w S k) (hk : k ≤ 1000000000) (hb : b < w.heap.size) (hS : b ≠ S) (h0 : w.cell? ⟨b, 0, none⟩ = some (.int .i64 x0)) (h1 : w.cell? ⟨b, 1, none⟩ = some (.int .i64 x1)) (h2 : w.cell? ⟨b, 2, none⟩ = some (.int .i64 x2)) (h3 : w.cell? ⟨b, 3, none⟩ = some (.int .i64 x3)) (p0 : P x0) (p1 : P x1) (p2 : P x2) (p3 : P x3) :
    Calls Tryz.prog 62 #[.pointer (some ⟨S, 0, none⟩), .slice (some ⟨b, 0, none⟩) 4 4] w (PickPost S (k + 1) P w) :=
  pick_any S k b 4 4 [x0, x1, x2, x3] P w h hk hb hS (by omega) (by omega) (cells4 h0 h1 h2 h3) (fun i hi => by match i, hi with | 0, _ => exact p0 | 1, _ => exact p1 | 2, _ => exact p2 | 3, _ => exact p3)
theorem pick5 (S k b : Nat) (x0 x1 x2 x3 x4 : Int) (P : Int → Prop) (w : World) (h : StreamOk w S k) (hk : k ≤ 1000000000) (hb : b < w.heap.size) (hS : b ≠ S) (h0 : w.cell? ⟨b, 0, none⟩ = some (.int .i64 x0)) (h1 : w.cell? ⟨b, 1, none⟩ = some (.int .i64 x1)) (h2 : w.cell? ⟨b, 2, none⟩ = some (.int .i64 x2)) (h3 : w.cell? ⟨b, 3, none⟩ = some (.int .i64 x3)) (h4 : w.cell? ⟨b, 4, none⟩ = some (.int .i64 x4)) (p0 : P x0) (p1 : P x1) (p2 : P x2) (p3 : P x3) (p4 : P x4) :
    Calls Tryz.prog 62 #[.pointer (some ⟨S, 0, none⟩), .slice (some ⟨b, 0, none⟩) 5 5] w (PickPost S (k + 1) P w) :=
  pick_any S k b 5 5 [x0, x1, x2, x3, x4] P w h hk hb hS (by omega) (by omega) (cells5 h0 h1 h2 h3 h4) (fun i hi => by match i, hi with | 0, _ => exact p0 | 1, _ => exact p1 | 2, _ => exact p2 | 3, _ => exact p3 | 4, _ => exact p4)
theorem some3 (S k b : Nat) (x0 x1 x2 : List UInt8) (P : List UInt8 → Prop) (w : World) (h : StreamOk w S k) (hk : k ≤ 1000000000) (hb : b < w.heap.size) (hS : b ≠ S) (h0 : w.cell? ⟨b, 0, none⟩ = some (.string ⟨x0.toArray⟩)) (h1 : w.cell? ⟨b, 1, none⟩ = some (.string ⟨x1.toArray⟩)) (h2 : w.cell? ⟨b, 2, none⟩ = some (.string ⟨x2.toArray⟩)) (p0 : P x0) (p1 : P x1) (p2 : P x2) :
    Calls Tryz.prog 9 #[.pointer (some ⟨S, 0, none⟩), .slice (some ⟨b, 0, none⟩) 3 3] w (SomePost S (k + 1) P w) :=
  some_any S k b 3 3 [x0, x1, x2] P w h hk hb hS (by omega) (by omega) (fun i hi => by match i, hi with | 0, _ => exact h0 | 1, _ => exact h1 | 2, _ => exact h2) (fun i hi => by match i, hi with | 0, _ => exact p0 | 1, _ => exact p1 | 2, _ => exact p2)
theorem some4 (S k b : Nat) (x0 x1 x2 x3 : List UInt8) (P : List UInt8 → Prop) (w : World) (h : StreamOk w S k) (hk : k ≤ 1000000000) (hb : b < w.heap.size) (hS : b ≠ S) (h0 : w.cell? ⟨b, 0, none⟩ = some (.string ⟨x0.toArray⟩)) (h1 : w.cell? ⟨b, 1, none⟩ = some (.string ⟨x1.toArray⟩)) (h2 : w.cell? ⟨b, 2, none⟩ = some (.string ⟨x2.toArray⟩)) (h3 : w.cell? ⟨b, 3, none⟩ = some (.string ⟨x3.toArray⟩)) (p0 : P x0) (p1 : P x1) (p2 : P x2) (p3 : P x3) :
    Calls Tryz.prog 9 #[.pointer (some ⟨S, 0, none⟩), .slice (some ⟨b, 0, none⟩) 4 4] w (SomePost S (k + 1) P w) :=
  some_any S k b 4 4 [x0, x1, x2, x3] P w h hk hb hS (by omega) (by omega) (fun i hi => by match i, hi with | 0, _ => exact h0 | 1, _ => exact h1 | 2, _ => exact h2 | 3, _ => exact h3) (fun i hi => by match i, hi with | 0, _ => exact p0 | 1, _ => exact p1 | 2, _ => exact p2 | 3, _ => exact p3)
end Go.Proofs.YtkdadbpajhdelaaGreatDoor

namespace Go.Proofs.YtkdadbpajhdelaaGreatDoor
open Go.RowKit

section
variable {P : Program} {ops : Array Oper} {Q : Exit → Act → World → Prop}

theorem wpAny_monoQ {Q' : Exit → Act → World → Prop} (hn : ∀ a w, Q .normal a w → Q' .normal a w) (ho : ∀ e a w, e ≠ .normal → Q e a w → Q' e a w) : ∀ (fuel : Nat) (l : Array Bool) (a : Act) (w : World), wpAny P .any ops Q fuel l a w → wpAny P .any ops Q' fuel l a w := by
  have up : ∀ (o : Oper) (a : Act) (K K' : Act → World → Prop), (∀ a w, K a w → K' a w) → ∀ r : Result Next, o.upon P a K Q r → o.upon P a K' Q' r := by
    intro o a K K' hK r h
    cases r with
    | ok n w' =>
      cases n <;> simp only [Oper.upon] at h ⊢ <;>
        first
          | exact hK _ _ h
          | exact Calls.mono h (fun e w'' he => by
              cases e with
              | returned v => exact hK _ _ he
              | panicked c => exact ho _ _ _ (by simp) he
              | outgrown => exact let ⟨a, w, q⟩ := he; ⟨a, w, ho _ _ _ (by simp) q⟩)
          | exact Rows.mono h (fun _ _ he => hK _ _ he)
    | halt x w' => cases x <;> simp only [Oper.upon] at h ⊢ <;> first | exact ho _ _ _ (by simp) h | exact h
  intro fuel
  induction fuel with
  | zero => intro l a w h; exact ⟨h.1, hn _ _ h.2⟩
  | succ fuel ih =>
    intro l a w h
    refine ⟨fun h0 => hn _ _ (h.1 h0), fun i hi => ?_⟩
    have h1 := h.2 i hi
    unfold wpOp at *
    split
    · simp only [*] at h1; exact ih _ _ _ h1
    · rename_i o hoo
      simp only [hoo] at h1
      split
      · rename_i hw
        simp only [hw, if_true] at h1
        rcases h1 with h1 | ⟨h1, a1, w1, h2⟩
        · exact Or.inl (up o a _ _ (fun a w h => ih _ a w h) _ h1)
        · exact Or.inr ⟨h1, a1, w1, ho _ _ _ (by simp) h2⟩
      · rename_i hw
        simp only [hw] at h1
        exact ih _ _ _ h1

/-- The post of the first operations: the rest is still to come, in the text's order. -/
def tailQ (P : Program) (ops : Array Oper) (Q : Exit → Act → World → Prop) (k : Nat) : Exit → Act → World → Prop
  | .normal, a, w => wpTail P Q (ops.toList.drop k) a w
  | e, a, w => Q e a w
where
  wpTail (P : Program) (Q : Exit → Act → World → Prop) : List Oper → Act → World → Prop
    | [], a, w => Q .normal a w
    | o :: rest, a, w => o.wp P a w (wpTail P Q rest) Q ∨ (o.asks P a w ∧ LetsOut Q)

theorem tailQ_other {k : Nat} {e : Exit} (hn : e ≠ .normal) : tailQ P ops Q k e = Q e := by cases e <;> first | rfl | exact absurd rfl hn

/-- Each of the operations from m on waits for all ahead of it, and has no guard. -/
def tailChk (ops : Array Oper) (m : Nat) : Bool :=
  (List.range ops.size).all fun k => decide (k < m) || (lastChk (ops.extract 0 (k + 1)) k && ((ops[k]?).map fun o => o.guard.isNone).getD false)

theorem ext_get (ops : Array Oper) (k i : Nat) (h : i < k) : (ops.extract 0 k)[i]? = ops[i]? := by
  rw [Array.getElem?_extract]
  by_cases hi : i < ops.size
  · rw [if_pos (by omega)]; simp
  · rw [if_neg (by omega), Array.getElem?_eq_none (by omega)]
theorem ext_get_no (ops : Array Oper) (k i : Nat) (h : ¬ i < k) : (ops.extract 0 k)[i]? = none := by
  rw [Array.getElem?_extract, if_neg (by omega)]

theorem tail_any (m : Nat) (hc : tailChk ops m = true) : ∀ (d k : Nat), k + d = ops.size → m ≤ k → ∀ (a : Act) (w : World), wpAny P .any (ops.extract 0 k) (tailQ P ops Q k) k (Array.replicate k false) a w → wpAny P .any ops Q ops.size (Array.replicate ops.size false) a w := by
  intro d
  induction d with
  | zero =>
    intro k hk hm a w h
    obtain rfl : k = ops.size := by omega
    rw [show ops.extract 0 ops.size = ops by simp] at h
    refine wpAny_monoQ (fun a w h => ?_) (fun e a w hn h => by rw [tailQ_other hn] at h; exact h) _ _ a w h
    have h' : tailQ.wpTail P Q (ops.toList.drop ops.size) a w := h
    rw [List.drop_of_length_le (by simp)] at h'
    exact h'
  | succ d ih =>
    intro k hk hm a w h
    refine ih (k + 1) (by omega) (by omega) a w ?_
    have hc' := List.all_eq_true.1 hc k (by simp; omega)
    simp only [Bool.or_eq_true, decide_eq_true_eq, Bool.and_eq_true] at hc'
    obtain ⟨hl, hg⟩ := hc'.resolve_left (by omega)
    have hlt : k < ops.size := by omega
    have ho : ops[k]? = some ops[k] := by simp [hlt]
    have hgn : ops[k].guard = none := by simpa [ho] using hg
    refine last_any (m := k) (st := ops[k]) (ops := ops.extract 0 (k + 1)) (ops' := ops.extract 0 k) (by simp; omega) (by rw [ext_get _ _ _ (Nat.lt_succ_self k)]; exact ho) hgn hl (by simp; omega) (fun i hi => by rw [ext_get _ _ _ hi, ext_get _ _ _ (Nat.lt_succ_of_lt hi)]) k (Array.replicate (k + 1) false) (Array.replicate k false) a w (by simp) (by simp) (fun i hi => by simp [hi, Nat.lt_succ_of_lt hi]) (by simp) ?_ ?_
    · intro i o _ hl
      exfalso
      by_cases h' : i < k + 1
      · simp [h'] at hl
      · simp [h'] at hl
    · refine wpAny_monoQ (fun a w h => ?_) (fun e a w hn h => ?_) _ _ a w h
      · have h' : tailQ.wpTail P Q (ops.toList.drop k) a w := h
        rw [List.drop_eq_getElem_cons (by simpa using hlt)] at h'
        have h2 : ops[k].wp P a w (tailQ.wpTail P Q (ops.toList.drop (k + 1))) Q ∨ (ops[k].asks P a w ∧ LetsOut Q) := by simpa [tailQ.wpTail] using h'
        show Oper.wp P ops[k] a w (fun a' w' => tailQ P ops Q (k + 1) .normal a' w') (tailQ P ops Q (k + 1)) ∨ (ops[k].asks P a w ∧ LetsOut (tailQ P ops Q (k + 1)))
        refine h2.imp (fun h2 => ?_) (fun h2 => h2)
        unfold Oper.wp at *
        generalize (execOp a.eval ops[k]).run P w = r at *
        cases r with
        | ok n w' =>
          cases n <;> simp only [Oper.upon] at h2 ⊢ <;>
            first
              | exact h2
              | exact Calls.mono h2 (fun e w'' he => by cases e <;> exact he)
              | exact Rows.mono h2 (fun _ _ he => he)
        | halt x w' => cases x <;> simp only [Oper.upon] at h2 ⊢ <;> exact h2
      · rw [tailQ_other hn] at h
        show lastQ P ops[k] (tailQ P ops Q (k + 1)) e a w
        cases e <;> first | exact absurd rfl hn | exact h

/-! ### The first operations, whatever their order -/

/-- What is known of an operation's value: a property of the value; or a slice over a block of its own, whose cells are listed. -/
inductive Spec where
  | val (p : Value → Prop)
  | arr (n : Nat) (p : List Value → Prop)
  | mem (p : World → Value → Prop)

def Spec.holds (S : Nat) (w : World) : Spec → Value → Prop
  | .val p, v => p v
  | .arr n p, v => ∃ b vs, v = .slice (some ⟨b, 0, none⟩) n n ∧ p vs ∧ b ≠ S ∧ b < w.heap.size ∧ ∀ (j : Nat) (u : Value), vs[j]? = some u → w.cell? ⟨b, j, none⟩ = some u
  | .mem p, v => ∀ w', Keeps S w w' → p w' v

theorem Spec.holds.keeps {S : Nat} {w w' : World} {s : Spec} {v : Value} (h : s.holds S w v) (k : Keeps S w w') : s.holds S w' v := by
  cases s with
  | val p => exact h
  | arr n p =>
    obtain ⟨b, vs, hv, hp, hb, hl, hc⟩ := h
    exact ⟨b, vs, hv, hp, hb, Nat.lt_of_lt_of_le hl k.size, fun j u hj => (k.cell (p := ⟨b, j, none⟩) hl hb).trans (hc j u hj)⟩
  | mem p => exact fun w'' k' => h w'' (k.trans k')

def dstOf (ops : Array Oper) (i : Nat) : Option Tmp := (ops[i]?).bind (·.dst)

/-- The frame with the values of what is listed. -/
def putSome (ops : Array Oper) (vals : Nat → Value) (listed : Nat → Bool) (l : List Nat) (a : Act) : Act := l.foldl (fun a i => if listed i then a.put (dstOf ops i) (vals i) else a) a

theorem putSome_put {ops : Array Oper} {d : Option Tmp} {v : Value} {vals : Nat → Value} {listed : Nat → Bool} : ∀ (l : List Nat) (a : Act), (∀ j ∈ l, ∀ t, dstOf ops j = some t → d ≠ some t) → putSome ops vals listed l (a.put d v) = (putSome ops vals listed l a).put d v
  | [], a, _ => rfl
  | j :: l, a, h => by
    simp only [putSome, List.foldl_cons]
    have hl := fun a => putSome_put (ops := ops) (d := d) (v := v) (vals := vals) (listed := listed) l a (fun j hj => h j (List.mem_cons_of_mem _ hj))
    simp only [putSome] at hl
    by_cases hj : listed j = true
    · simp only [hj, if_true]
      rw [← hl, Act.put_comm a _ _ (fun t ht => ?_)]
      intro h2
      exact h j (List.mem_cons_self) t h2 ht
    · simp only [hj, Bool.false_eq_true, if_false]
      exact hl a

theorem putSome_congr {ops : Array Oper} {vals vals' : Nat → Value} {listed listed' : Nat → Bool} : ∀ (l : List Nat) (a : Act), (∀ j ∈ l, listed j = listed' j ∧ (listed j = true → vals j = vals' j)) → putSome ops vals listed l a = putSome ops vals' listed' l a
  | [], a, _ => rfl
  | j :: l, a, h => by
    simp only [putSome, List.foldl_cons]
    obtain ⟨h1, h2⟩ := h j List.mem_cons_self
    have hl := fun a => putSome_congr (ops := ops) (vals := vals) (vals' := vals') (listed := listed) (listed' := listed') l a (fun j hj => h j (List.mem_cons_of_mem _ hj))
    simp only [putSome] at hl
    rw [hl, ← h1]
    by_cases hj : listed j = true
    · simp only [hj, if_true, h2 hj]
    · simp only [hj, Bool.false_eq_true, if_false]

theorem putSome_set {ops : Array Oper} {vals : Nat → Value} {listed : Nat → Bool} {i : Nat} (v : Value) : ∀ (l : List Nat) (a : Act), l.Nodup → i ∈ l → listed i = false → (∀ j ∈ l, j ≠ i → ∀ t, dstOf ops j = some t → dstOf ops i ≠ some t) →
    putSome ops (fun j => if j = i then v else vals j) (fun j => if j = i then true else listed j) l a = (putSome ops vals listed l a).put (dstOf ops i) v
  | [], a, _, h, _, _ => by cases h
  | j :: l, a, hn, h, hu, hd => by
    by_cases hji : j = i
    · subst hji
      have hnot : j ∉ l := (List.nodup_cons.1 hn).1
      have e1 : putSome ops (fun k => if k = j then v else vals k) (fun k => if k = j then true else listed k) l (a.put (dstOf ops j) v) = putSome ops vals listed l (a.put (dstOf ops j) v) :=
        putSome_congr l _ (fun k hk => by have : k ≠ j := fun e => hnot (e ▸ hk); simp [this])
      have e2 := putSome_put (ops := ops) (d := dstOf ops j) (v := v) (vals := vals) (listed := listed) l a (fun k hk t ht => hd k (List.mem_cons_of_mem _ hk) (fun e => hnot (e ▸ hk)) t ht)
      simp only [putSome, List.foldl_cons, if_true, hu, Bool.false_eq_true, if_false] at e1 e2 ⊢
      rw [e1, e2]
    · have ih := fun a => putSome_set (ops := ops) (vals := vals) (listed := listed) (i := i) v l a (List.nodup_cons.1 hn).2 ((List.mem_cons.1 h).resolve_left (Ne.symm hji)) hu (fun k hk => hd k (List.mem_cons_of_mem _ hk))
      simp only [putSome, List.foldl_cons, hji, if_false] at ih ⊢
      exact ih _

theorem putSome_eval_other {ops : Array Oper} {vals : Nat → Value} {listed : Nat → Bool} {t : Tmp} : ∀ (l : List Nat) (a : Act), (∀ j ∈ l, dstOf ops j ≠ some t) → (putSome ops vals listed l a).eval (.tmp t) = a.eval (.tmp t)
  | [], a, _ => rfl
  | j :: l, a, h => by
    simp only [putSome, List.foldl_cons]
    have hl := fun a => putSome_eval_other (ops := ops) (vals := vals) (listed := listed) (t := t) l a (fun j hj => h j (List.mem_cons_of_mem _ hj))
    simp only [putSome] at hl
    rw [hl]
    split
    · exact Act.eval_put (fun d hd e => h j List.mem_cons_self (by cases e; exact hd))
    · rfl

theorem putSome_size {ops : Array Oper} {vals : Nat → Value} {listed : Nat → Bool} : ∀ (l : List Nat) (a : Act), (putSome ops vals listed l a).tmps.size = a.tmps.size
  | [], a => rfl
  | j :: l, a => by
    simp only [putSome, List.foldl_cons]
    have hl := fun a => putSome_size (ops := ops) (vals := vals) (listed := listed) l a
    simp only [putSome] at hl
    rw [hl]
    split
    · cases dstOf ops j <;> simp [Act.put]
    · rfl

theorem eval_put_same {a : Act} {d : Tmp} {v : Value} (h : d < a.tmps.size) : (a.put (some d) v).eval (.tmp d) = v := by simp [Act.eval, Act.put, h]

theorem putSome_eval {ops : Array Oper} {vals : Nat → Value} {listed : Nat → Bool} {i : Nat} {t : Tmp} : ∀ (l : List Nat) (a : Act), l.Nodup → i ∈ l → listed i = true → dstOf ops i = some t → t < a.tmps.size → (∀ j ∈ l, j ≠ i → dstOf ops j ≠ some t) → (putSome ops vals listed l a).eval (.tmp t) = vals i
  | [], a, _, h, _, _, _, _ => by cases h
  | j :: l, a, hn, h, hi, ht, hs, hd => by
    by_cases hji : j = i
    · subst hji
      have hnot : j ∉ l := (List.nodup_cons.1 hn).1
      have := putSome_eval_other (ops := ops) (vals := vals) (listed := listed) (t := t) l (a.put (dstOf ops j) (vals j)) (fun k hk => hd k (List.mem_cons_of_mem _ hk) (fun e => hnot (e ▸ hk)))
      simp only [putSome, List.foldl_cons, hi, if_true] at this ⊢
      rw [this, ht]
      exact eval_put_same hs
    · have ih := fun a hs => putSome_eval (ops := ops) (vals := vals) (listed := listed) (i := i) (t := t) l a (List.nodup_cons.1 hn).2 ((List.mem_cons.1 h).resolve_left (Ne.symm hji)) hi ht hs (fun k hk => hd k (List.mem_cons_of_mem _ hk))
      simp only [putSome, List.foldl_cons] at ih ⊢
      refine ih _ ?_
      split
      · cases dstOf ops j <;> simpa [Act.put] using hs
      · exact hs

/-- The stream and what stays, c numbers on. -/
def GenB (S k : Nat) (w0 : World) (c : Nat) (w : World) : Prop := Keeps S w0 w ∧ StreamOk w S (k + c)

/-- What is to be shown of operation i: it may look at what it waits for, and at what was there. -/
def GenStep (P : Program) (ops : Array Oper) (Q : Exit → Act → World → Prop) (a0 : Act) (S k : Nat) (w0 : World) (specs : List Spec) (total : Nat) (calls : List Nat) (i : Nat) : Prop :=
  ∀ (o : Oper) (s : Spec) (a : Act) (w : World) (c : Nat), ops[i]? = some o → specs[i]? = some s → Keeps S w0 w → StreamOk w S (k + c) → c + (if calls.contains i then 1 else 0) ≤ total →
    (∀ t, (∀ j, dstOf ops j ≠ some t) → a.eval (.tmp t) = a0.eval (.tmp t)) →
    (∀ e ∈ o.after, Region.binds .any e = true → ∀ t s', dstOf ops e.on = some t → specs[e.on]? = some s' → s'.holds S w (a.eval (.tmp t))) →
    ∀ K : Act → World → Prop, (∀ v w', s.holds S w' v → Keeps S w w' → StreamOk w' S (k + (c + if calls.contains i then 1 else 0)) → K (a.put o.dst v) w') → Oper.wp P o a w K Q

/-- The operations' temporaries are different ones and lie in the frame; the first ones have no guard and each a spec. -/
def genChk (ops : Array Oper) (size m : Nat) (calls : List Nat) : Bool :=
  ((List.range ops.size).all fun i => (List.range ops.size).all fun j => i == j || (match dstOf ops i with | none => true | some d => decide (d < size) && dstOf ops j != some d)) &&
  ((List.range m).all fun i => ((ops[i]?).map fun o => o.guard.isNone).getD false) && decide (m ≤ ops.size) && decide (1 < ops.size) && decide calls.Nodup && calls.all (fun i => decide (i < m))

theorem countP_set (calls : List Nat) (hn : calls.Nodup) (f : Nat → Bool) (i : Nat) (hu : f i = false) : calls.countP (fun j => if j = i then true else f j) = calls.countP f + if calls.contains i then 1 else 0 := by
  induction calls with
  | nil => simp
  | cons x xs ih =>
    have ih := ih (List.nodup_cons.1 hn).2
    have hx := (List.nodup_cons.1 hn).1
    by_cases hxi : x = i
    · subst hxi
      have : xs.countP (fun j => if j = x then true else f j) = xs.countP f := by
        refine List.countP_congr fun j hj => ?_
        have : j ≠ x := fun e => hx (e ▸ hj)
        simp [this]
      rw [List.countP_cons, this, List.countP_cons]
      simp [hu]
    · have hc : (x :: xs).contains i = xs.contains i := by simp [Ne.symm hxi]
      rw [hc, List.countP_cons, List.countP_cons, ih]
      simp [hxi]
      omega

theorem gen_any {m : Nat} {a0 : Act} {S k : Nat} {w0 : World} {specs : List Spec} {calls : List Nat} (hc : genChk ops a0.tmps.size m calls = true) (hlen : specs.length = m)
    (hstep : ∀ i, i < m → GenStep P (ops.extract 0 m) Q a0 S k w0 specs calls.length calls i)
    (hend : ∀ (vals : Nat → Value) (w : World), Keeps S w0 w → StreamOk w S (k + calls.length) → (∀ (i : Nat) (s : Spec), specs[i]? = some s → s.holds S w (vals i)) → Q .normal (putSome (ops.extract 0 m) vals (fun _ => true) (List.range m) a0) w) :
    ∀ (fuel : Nat) (l : Array Bool) (vals : Nat → Value) (w : World), l.size = m → Keeps S w0 w → StreamOk w S (k + calls.countP (fun i => l.getD i true)) → (∀ (i : Nat) (s : Spec), l.getD i true = true → specs[i]? = some s → s.holds S w (vals i)) → (l.toList.countP (fun b => !b) ≤ fuel) →
      (∀ i, i < m → ∃ o, (ops.extract 0 m)[i]? = some o ∧ ∀ e ∈ o.after, Region.binds .any e = true → e.on < i) →
      wpAny P .any (ops.extract 0 m) Q fuel l (putSome (ops.extract 0 m) vals (fun i => l.getD i true) (List.range m) a0) w := by
  simp only [genChk, Bool.and_eq_true, List.all_eq_true, List.mem_range, decide_eq_true_eq, Bool.or_eq_true, beq_iff_eq] at hc
  obtain ⟨⟨⟨⟨⟨hdst, hgd⟩, hmn⟩, h1n⟩, hnd⟩, hcm⟩ := hc
  have dsub : ∀ i t, dstOf (ops.extract 0 m) i = some t → dstOf ops i = some t ∧ i < m := by
    intro i t h
    unfold dstOf at *
    by_cases hi : i < m
    · rw [ext_get _ _ _ hi] at h
      exact ⟨h, hi⟩
    · rw [ext_get_no _ _ _ hi] at h; cases h
  have dne : ∀ i j, i ≠ j → ∀ t, dstOf (ops.extract 0 m) j = some t → dstOf (ops.extract 0 m) i ≠ some t := by
    intro i j hij t hj hi
    obtain ⟨hi1, hi2⟩ := dsub i t hi
    obtain ⟨hj1, hj2⟩ := dsub j t hj
    have := (hdst i (by omega) j (by omega)).resolve_left hij
    simp [hi1, hj1] at this
  have dlt : ∀ i t, dstOf (ops.extract 0 m) i = some t → t < a0.tmps.size := by
    intro i t hi
    obtain ⟨hi1, hi2⟩ := dsub i t hi
    have hj : ∃ j, j < ops.size ∧ i ≠ j := if h : i = 0 then ⟨1, by omega, by omega⟩ else ⟨0, by omega, h⟩
    obtain ⟨j, hj, hij⟩ := hj
    have := (hdst i (by omega) j hj).resolve_left hij
    simp [hi1] at this
    exact this.1
  have getl : ∀ (l : Array Bool) i, i < l.size → l.getD i true = true → l.getD i false = true := fun l i hi h => by rw [getD_two hi false true]; exact h
  intro fuel
  induction fuel with
  | zero =>
    intro l vals w hl hk hst hs hf hdown
    have hall : ∀ i, i < m → l.getD i true = true := by
      intro i hi
      rcases Bool.eq_false_or_eq_true (l.getD i true) with h | h
      · exact h
      · exfalso
        have : 0 < l.toList.countP (fun b => !b) := List.countP_pos_iff.2 ⟨false, by
          have hlt : i < l.size := by omega
          have : l[i] = false := by simpa [hlt] using h
          rw [← this]; simp, rfl⟩
        omega
    refine ⟨?_, ?_⟩
    · refine List.eq_nil_iff_forall_not_mem.2 fun i hi => ?_
      obtain ⟨h0, o, ho, _⟩ := mem_ready.1 hi
      have hlt : i < m := by have := (Array.getElem?_eq_some_iff.1 ho).1; simp at this; omega
      rw [hall i hlt] at h0; cases h0
    · have e1 : putSome (ops.extract 0 m) vals (fun i => l.getD i true) (List.range m) a0 = putSome (ops.extract 0 m) vals (fun _ => true) (List.range m) a0 := putSome_congr _ _ (fun i hi => ⟨hall i (List.mem_range.1 hi), fun _ => rfl⟩)
      rw [e1]
      refine hend vals w hk ?_ (fun i s h => hs i s (by
        by_cases hi : i < m
        · exact hall i hi
        · simp [show ¬ i < l.size by omega]) h)
      have : calls.countP (fun i => l.getD i true) = calls.length := List.countP_eq_length.2 (fun i hi => hall i (by simpa using hcm i hi))
      rw [this] at hst; exact hst
  | succ fuel ih =>
    intro l vals w hl hk hst hs hf hdown
    have dn := listed_of_none (ops := ops.extract 0 m) (m := m)
    refine ⟨fun h0 => ?_, fun i hi => ?_⟩
    · have hall : ∀ i, i < m → l.getD i true = true := by
        intro i
        induction i using Nat.strongRecOn with
        | _ i ihi =>
          intro hi
          rcases Bool.eq_false_or_eq_true (l.getD i true) with h | h
          · exact h
          · exfalso
            obtain ⟨o, ho, hd⟩ := hdown i hi
            have : i ∈ Region.ready .any (ops.extract 0 m) l := mem_ready.2 ⟨h, o, ho, fun e he hb => getl l _ (by have := hd e he hb; omega) (ihi e.on (hd e he hb) (by have := hd e he hb; omega))⟩
            rw [h0] at this; cases this
      have e1 : putSome (ops.extract 0 m) vals (fun i => l.getD i true) (List.range m) a0 = putSome (ops.extract 0 m) vals (fun _ => true) (List.range m) a0 := putSome_congr _ _ (fun i hi => ⟨hall i (List.mem_range.1 hi), fun _ => rfl⟩)
      rw [e1]
      refine hend vals w hk ?_ (fun i s h => hs i s (by
        by_cases hi : i < m
        · exact hall i hi
        · simp [show ¬ i < l.size by omega]) h)
      have : calls.countP (fun i => l.getD i true) = calls.length := List.countP_eq_length.2 (fun i hi => hall i (by simpa using hcm i hi))
      rw [this] at hst; exact hst
    · obtain ⟨hun, o, ho, hall⟩ := mem_ready.1 hi
      have him : i < m := by have := (Array.getElem?_eq_some_iff.1 ho).1; simp at this; omega
      have hilt : i < l.size := by omega
      obtain ⟨s, hsi⟩ : ∃ s, specs[i]? = some s := ⟨specs[i]'(by omega), by simp⟩
      have hguard : o.guard = none := by
        have hx := hgd i him
        have : ops[i]? = some o := by rw [ext_get _ _ _ him] at ho; exact ho
        simpa [this] using hx
      have hdo : dstOf (ops.extract 0 m) i = o.dst := by simp [dstOf, ho]
      unfold wpOp
      simp only [ho]
      rw [if_pos (by simp [Region.wanted, hguard])]
      refine Or.inl ?_
      have hcnt := countP_set calls hnd (fun j => l.getD j true) i hun
      refine hstep i him o s _ w (calls.countP fun j => l.getD j true) ho hsi hk hst ?_ ?_ ?_ _ ?_
      · rw [← hcnt]; exact List.countP_le_length
      · intro t ht
        exact putSome_eval_other _ _ (fun j _ => ht j)
      · intro e he hb t s' ht hs'
        have hon := hall e he hb
        have hlt : e.on < m := (dsub e.on t ht).2
        have hon' : l.getD e.on true = true := by rw [getD_two (by omega) true false]; exact hon
        rw [putSome_eval (i := e.on) _ _ List.nodup_range (List.mem_range.2 hlt) hon' ht (dlt _ _ ht) (fun j _ hj => fun h2 => dne e.on j (Ne.symm hj) t h2 ht)]
        exact hs e.on s' hon' hs'
      · intro v w' hv hkw hst'
        have e2 := putSome_set (ops := ops.extract 0 m) (vals := vals) (listed := fun j => l.getD j true) (i := i) v (List.range m) a0 List.nodup_range (List.mem_range.2 him) hun (fun j _ hj t ht => dne i j (Ne.symm hj) t ht)
        have e3 : (fun j => if j = i then true else l.getD j true) = fun j => (l.setIfInBounds i true).getD j true := by
          funext j
          by_cases hji : j = i
          · subst hji; simp [hilt]
          · simp only [hji, if_false]; rw [getD_set_ne true (Ne.symm hji)]
        rw [← hdo, ← e2, e3]
        refine ih _ _ w' (by simpa using hl) (hk.trans hkw) ?_ ?_ ?_ hdown
        · rw [← e3, hcnt]; exact hst'
        · intro j s' hj hs'
          by_cases hji : j = i
          · subst hji
            rw [hsi] at hs'; cases hs'
            simp only [if_true]; exact hv
          · simp only [hji, if_false]
            rw [getD_set_ne true (Ne.symm hji)] at hj
            exact (hs j s' hj hs').keeps hkw
        · have : (l.setIfInBounds i true).toList.countP (fun b => !b) + 1 = l.toList.countP (fun b => !b) := by
            have hli : l[i] = false := by simpa [hilt] using hun
            have hpos : 0 < l.toList.countP (fun b => !b) := List.countP_pos_iff.2 ⟨false, by rw [← hli]; simp, rfl⟩
            have := List.countP_set (p := fun b : Bool => !b) (l := l.toList) (i := i) (a := true) (by simpa using hilt)
            have e4 : l.toList[i]'(by simpa using hilt) = false := by simpa using hli
            rw [Array.toList_setIfInBounds, this, e4]
            rw [if_pos (by decide : (!false) = true), if_neg (by decide : ¬ (!true) = true)]
            omega
          omega

/-! ### The whole -/

/-- What is to be shown of an operation: it may look at what it waits for, and at what was there. -/
def GenOp (P : Program) (ops : Array Oper) (Q : Exit → Act → World → Prop) (a0 : Act) (S k : Nat) (w0 : World) (specs : List Spec) (calls : List Nat) (i : Nat) (o : Oper) (s : Spec) : Prop :=
  ∀ (a : Act) (w : World) (c : Nat), Keeps S w0 w → StreamOk w S (k + c) → c + (if calls.contains i then 1 else 0) ≤ calls.length →
    (∀ t, ((ops.extract 0 specs.length).all fun o => o.dst != some t) = true → a.eval (.tmp t) = a0.eval (.tmp t)) →
    (∀ (j : Nat) (t : Tmp) (s' : Spec), (o.after.any fun e => Region.binds .any e && e.on == j) = true → dstOf ops j = some t → specs[j]? = some s' → s'.holds S w (a.eval (.tmp t))) →
    ∀ K : Act → World → Prop, (∀ v w', s.holds S w' v → Keeps S w w' → StreamOk w' S (k + (c + if calls.contains i then 1 else 0)) → K (a.put o.dst v) w') → Oper.wp P o a w K (tailQ P ops Q specs.length)

def GenOps (P : Program) (ops : Array Oper) (Q : Exit → Act → World → Prop) (a0 : Act) (S k : Nat) (w0 : World) (specs : List Spec) (calls : List Nat) : Nat → List Oper → List Spec → Prop
  | i, o :: os, s :: ss => GenOp P ops Q a0 S k w0 specs calls i o s ∧ GenOps P ops Q a0 S k w0 specs calls (i + 1) os ss
  | _, _, _ => True

/-- For all values that the specs allow, put into the frame. -/
def ForVals (S : Nat) (w : World) (K : Act → Prop) : List (Option Tmp) → List Spec → Act → Prop
  | d :: ds, s :: ss, a => ∀ v, s.holds S w v → ForVals S w K ds ss (a.put d v)
  | _, _, a => K a

def downChk (ops : Array Oper) (m : Nat) : Bool := (List.range m).all fun i => ((ops[i]?).map fun o => o.after.all fun e => !Region.binds .any e || decide (e.on < i)).getD false

theorem genOps_at {a0 : Act} {S k : Nat} {w0 : World} {specs : List Spec} {calls : List Nat} : ∀ (i : Nat) (os : List Oper) (ss : List Spec), GenOps P ops Q a0 S k w0 specs calls i os ss → ∀ (j : Nat) (o : Oper) (s : Spec), os[j]? = some o → ss[j]? = some s → GenOp P ops Q a0 S k w0 specs calls (i + j) o s
  | i, o :: os, s :: ss, h, 0, _, _, ho, hs => by simp at ho hs; subst ho; subst hs; exact h.1
  | i, o :: os, s :: ss, h, j + 1, o', s', ho, hs => by
    have := genOps_at (i + 1) os ss h.2 j o' s' (by simpa using ho) (by simpa using hs)
    rw [show i + (j + 1) = i + 1 + j by omega]; exact this
  | i, [], _, _, j, _, _, ho, _ => by simp at ho
  | i, _ :: _, [], _, j, _, _, _, hs => by simp at hs

theorem forVals_all {S : Nat} {w : World} {K : Act → Prop} {vals : Nat → Value} {ops : Array Oper} : ∀ (ss : List Spec) (i : Nat) (a : Act), ForVals S w K ((List.range' i ss.length).map (dstOf ops)) ss a → (∀ (j : Nat) (s : Spec), ss[j]? = some s → s.holds S w (vals (i + j))) → K (putSome ops vals (fun _ => true) (List.range' i ss.length) a)
  | [], i, a, h, _ => h
  | s :: ss, i, a, h, hs => by
    have h1 : ForVals S w K ((List.range' (i + 1) ss.length).map (dstOf ops)) ss (a.put (dstOf ops i) (vals i)) := h (vals i) (hs 0 s rfl)
    have := forVals_all ss (i + 1) _ h1 (fun j s' hj => by have := hs (j + 1) s' (by simpa using hj); rwa [show i + (j + 1) = i + 1 + j by omega] at this)
    exact this

/-- **A region that draws its order, in which a stream hands out numbers**: shown for all orders at once; what comes behind the first operations goes in the text's order. -/
theorem region_gen {L : List Oper} {id : Nat} {a0 : Act} {w : World} (S k m : Nat) (specs : List Spec) (calls : List Nat) (ds : List (Option Tmp)) (hm : P.follows .mixedOrders = true) (hc : genChk L.toArray a0.tmps.size m calls = true) (ht : tailChk L.toArray m = true) (hd : downChk L.toArray m = true) (hlen : specs.length = m)
    (hds : (List.range m).map (dstOf L.toArray) = ds) (h0 : StreamOk w S k)
    (hstep : GenOps P L.toArray Q a0 S k w.drew specs calls 0 (L.take m) specs)
    (hend : ∀ w', Keeps S w.drew w' → StreamOk w' S (k + calls.length) → ForVals S w' (fun a => wpList P L.toArray Q (L.drop m) a w') ds specs a0) : (Code.region id L.toArray true).wp P Q a0 w := by
  subst hlen
  have hc0 := hc
  simp only [genChk, Bool.and_eq_true, List.all_eq_true, List.mem_range, decide_eq_true_eq] at hc0
  obtain ⟨⟨⟨⟨⟨_, hgd⟩, hmn⟩, h1n⟩, hnd⟩, hcm⟩ := hc0
  have hmn' : specs.length ≤ L.length := by simpa using hmn
  have hdown : ∀ i, i < specs.length → ∃ o, (L.toArray.extract 0 specs.length)[i]? = some o ∧ ∀ e ∈ o.after, Region.binds .any e = true → e.on < i := by
    intro i hi
    have h := List.all_eq_true.1 hd i (List.mem_range.2 hi)
    rw [ext_get _ _ _ hi]
    cases ho : L.toArray[i]? with
    | none => rw [ho] at h; cases h
    | some o =>
      rw [ho] at h
      simp only [Option.map_some, Option.getD_some] at h
      refine ⟨o, rfl, fun e he hb => ?_⟩
      have h1 := Array.all_eq_true_iff_forall_mem.1 h e he
      simpa [hb] using h1
  have tailNone : ∀ (k' : Nat) (o : Oper), specs.length ≤ k' → L.toArray[k']? = some o → o.guard = none := by
    intro k' o hk' ho
    have hlt := (Array.getElem?_eq_some_iff.1 ho).1
    have h := List.all_eq_true.1 ht k' (List.mem_range.2 hlt)
    simp only [Bool.or_eq_true, decide_eq_true_eq, Bool.and_eq_true] at h
    have h2 := (h.resolve_left (by omega)).2
    rw [ho] at h2
    simpa using h2
  have toTail : ∀ (l : List Oper), (∀ o ∈ l, o.guard = none) → ∀ a w, wpList P L.toArray Q l a w → tailQ.wpTail P Q l a w := by
    intro l
    induction l with
    | nil => intro _ a w h; exact h
    | cons o l ih =>
      intro hg a w h
      unfold wpList at h
      rw [if_pos (by simp [Region.wanted, hg o List.mem_cons_self])] at h
      exact h.imp (Oper.wp_mono (fun a w h => ih (fun o ho => hg o (List.mem_cons_of_mem _ ho)) a w h)) (fun h => h)
  refine wp_region_any hm ?_
  refine tail_any specs.length ht (L.length - specs.length) specs.length (by simp; omega) (Nat.le_refl _) a0 _ ?_
  have dEq : ∀ j, j < specs.length → dstOf (L.toArray.extract 0 specs.length) j = dstOf L.toArray j := fun j hj => by unfold dstOf; rw [ext_get _ _ _ hj]
  have dLt : ∀ j t, dstOf (L.toArray.extract 0 specs.length) j = some t → j < specs.length := fun j t h => by
    rcases Nat.lt_or_ge j specs.length with h' | h'
    · exact h'
    · unfold dstOf at h; rw [ext_get_no _ _ _ (by omega)] at h; cases h
  have g := gen_any (P := P) (ops := L.toArray) (Q := tailQ P L.toArray Q specs.length) (m := specs.length) (a0 := a0) (S := S) (k := k) (w0 := w.drew) (specs := specs) (calls := calls) hc rfl ?_ ?_ specs.length (Array.replicate specs.length false) (fun _ => undef) w.drew (by simp) (Keeps.refl _ _) ?_ ?_ ?_ hdown
  · have e0 : putSome (L.toArray.extract 0 specs.length) (fun _ => undef) (fun i => (Array.replicate specs.length false).getD i true) (List.range specs.length) a0 = a0 := by
      have : ∀ (l : List Nat), (∀ i ∈ l, i < specs.length) → ∀ a, putSome (L.toArray.extract 0 specs.length) (fun _ => undef) (fun i => (Array.replicate specs.length false).getD i true) l a = a := by
        intro l
        induction l with
        | nil => intro _ a; rfl
        | cons j l ih =>
          intro hl a
          have hj := hl j List.mem_cons_self
          have ih' := ih (fun i hi => hl i (List.mem_cons_of_mem _ hi))
          simp only [putSome, List.foldl_cons] at ih' ⊢
          rw [show (Array.replicate specs.length false).getD j true = false by simp [hj]]
          exact ih' a
      exact this _ (fun i hi => List.mem_range.1 hi) a0
    rw [e0] at g
    exact g
  · intro i hi o s a w' c ho hs hk hst hcc hfr hdp K hK
    have hoL : L[i]? = some o := by rw [ext_get _ _ _ hi] at ho; simpa using ho
    have st := genOps_at 0 _ _ hstep i o s (by rw [List.getElem?_take_of_lt hi]; exact hoL) hs
    rw [Nat.zero_add] at st
    refine st a w' c hk hst hcc (fun t ht => hfr t (fun j hj => ?_)) (fun j t s' hj ht hs' => ?_) K hK
    · unfold dstOf at hj
      cases hoj : (L.toArray.extract 0 specs.length)[j]? with
      | none => rw [hoj] at hj; cases hj
      | some oj =>
        rw [hoj] at hj
        have := Array.all_eq_true_iff_forall_mem.1 ht oj (Array.mem_of_getElem? hoj)
        simp at this hj
        exact this hj
    · obtain ⟨e, he, hb⟩ := Array.any_eq_true'.1 hj
      simp only [Bool.and_eq_true, beq_iff_eq] at hb
      obtain ⟨hb, rfl⟩ := hb
      have hlt : e.on < specs.length := (List.getElem?_eq_some_iff.1 hs').1
      exact hdp e he hb t s' (by rw [dEq _ hlt]; exact ht) hs'
  · intro vals w' hk hst hs
    have h := hend w' hk hst
    subst hds
    have e1 : putSome (L.toArray.extract 0 specs.length) vals (fun _ => true) (List.range specs.length) a0 = putSome L.toArray vals (fun _ => true) (List.range specs.length) a0 := by
      have : ∀ (l : List Nat), (∀ i ∈ l, i < specs.length) → ∀ a, putSome (L.toArray.extract 0 specs.length) vals (fun _ => true) l a = putSome L.toArray vals (fun _ => true) l a := by
        intro l
        induction l with
        | nil => intro _ a; rfl
        | cons j l ih =>
          intro hl a
          have ih' := ih (fun i hi => hl i (List.mem_cons_of_mem _ hi))
          simp only [putSome, List.foldl_cons] at ih' ⊢
          rw [dEq j (hl j List.mem_cons_self)]
          exact ih' _
      exact this _ (fun i hi => List.mem_range.1 hi) a0
    rw [e1]
    have h2 := forVals_all (S := S) (w := w') (vals := vals) (ops := L.toArray) (K := fun a => wpList P L.toArray Q (L.drop specs.length) a w') specs 0 a0 (by rw [← List.range_eq_range']; exact h) (fun j s hj => by rw [Nat.zero_add]; exact hs j s hj)
    rw [← List.range_eq_range'] at h2
    refine toTail _ (fun o ho => ?_) _ _ h2
    obtain ⟨j, hj⟩ := List.getElem?_of_mem ho
    rw [List.getElem?_drop] at hj
    exact tailNone _ o (Nat.le_add_right _ _) (by simpa using hj)
  · have : calls.countP (fun i => (Array.replicate specs.length false).getD i true) = 0 := List.countP_eq_zero.2 (fun i hi => by
      have := hcm i hi
      simp [this])
    rw [this]
    exact h0
  · intro i s h hs
    have hlt := (List.getElem?_eq_some_iff.1 hs).1
    simp [hlt] at h
  · exact Nat.le_trans List.countP_le_length (by simp)

theorem Keeps.grown0 {S : Nat} {a w w' : World} {row : Option Nat} (h : Keeps S a w) (hg : w.grownBy w' row) (hr : ∀ b, row = some b → a.heap.size ≤ b) : Keeps S a w' :=
  ⟨hg.os.trans h.os, hg.tape.trans h.tape, hg.output.trans h.output, Nat.le_trans h.size hg.size, fun k hk hn => (hg.block k (Nat.lt_of_lt_of_le hk h.size) (fun e => by have := hr k e.symm; omega)).trans (h.block k hk hn)⟩
theorem own_slice {w : World} {base : Nat} {e : TypeId} {size : Nat} {v : Value} {n : Nat} {xs : List Value} (h : w.ownsRow base e size v n xs) : ∃ a c, v = .slice a n c := by
  rcases h.2 with ⟨rfl, rfl⟩ | ⟨g, cap, cur, rfl, _⟩
  · exact ⟨none, 0, rfl⟩
  · exact ⟨_, _, rfl⟩
theorem addr_add0 (b j : Nat) : (⟨b, 0, none⟩ : Addr).add j = ⟨b, j, none⟩ := by unfold Addr.add; split <;> simp_all

/-! ### One operation -/
/-- A new block with such cells. -/
theorem gen_alloc {o : Oper} {a : Act} {w : World} {K : Act → World → Prop} {S k n : Nat} {p : List Value → Prop} (cs : Array Value) (ty : TypeId) (h : (execOp a.eval o).run P w = .ok (.value (.slice (some ⟨w.heap.size, 0, none⟩) n n)) (w.alloc (.cells cs ty))) (hp : p cs.toList) (hst : StreamOk w S k)
    (hK : ∀ v w', (Spec.arr n p).holds S w' v → Keeps S w w' → StreamOk w' S k → K (a.put o.dst v) w') : Oper.wp P o a w K Q := by
  unfold Oper.wp; rw [h]
  refine hK _ _ ⟨w.heap.size, cs.toList, rfl, hp, ?_, by simp, fun j u hj => ?_⟩ ((Keeps.refl S w).alloc _) (hst.below (ext_alloc (Below.refl _ _)))
  · have := hst.lt; omega
  · simpa using hj
/-- A call of a Go function, whose arguments are known. -/
theorem gen_call {o : Oper} {a : Act} {w : World} {K : Act → World → Prop} {R : Ending → World → Prop} (f : Nat) (vs : Array Value) (h : (execOp a.eval o).run P w = .ok (.enter f vs) w) (hc : Calls P f vs w R) (hR : ∀ e w', R e w' → ∃ v, e = .returned v ∧ K (a.put o.dst v) w') : Oper.wp P o a w K Q := by
  unfold Oper.wp; rw [h]
  refine Calls.mono hc fun e w' he => ?_
  obtain ⟨v, rfl, hk⟩ := hR e w' he
  exact hk
theorem gen_pure {o : Oper} {a : Act} {w : World} {K : Act → World → Prop} {v : Value} (h : (execOp a.eval o).run P w = .ok (.value v) w) (hK : K (a.put o.dst v) w) : Oper.wp P o a w K Q := by
  unfold Oper.wp; rw [h]; exact hK
end
end Go.Proofs.YtkdadbpajhdelaaGreatDoor

namespace Go.Proofs.YtkdadbpajhdelaaGreatDoor
open Go.RowKit

theorem calls_pick (S k : Nat) (v : Value) (vals : List Int) (p : Int → Prop) (w : World) (h : StreamOk w S k) (hk : k ≤ 1000000000) (ha : (Spec.arr vals.length (· = vals.map (Value.int .i64))).holds S w v) (h1 : 1 ≤ vals.length) (h2 : vals.length ≤ 1000) (hp : ∀ x ∈ vals, p x) :
    Calls Tryz.prog 62 #[.pointer (some ⟨S, 0, none⟩), v] w (PickPost S (k + 1) p w) := by
  obtain ⟨b, vs, rfl, rfl, hb, hl, hc⟩ := ha
  refine pick_any S k b vals.length vals.length vals p w h hk hl hb h1 h2 (fun i hi => ?_) (fun i hi => ?_)
  · exact hc i _ (by simp [hi])
  · rw [show vals.getD i _ = vals[i] by simp [hi]]; exact hp _ (List.getElem_mem hi)

theorem calls_some (S k : Nat) (v : Value) (vals : List (List UInt8)) (p : List UInt8 → Prop) (w : World) (h : StreamOk w S k) (hk : k ≤ 1000000000) (ha : (Spec.arr vals.length (· = vals.map (fun s => Value.string ⟨s.toArray⟩))).holds S w v) (h1 : 1 ≤ vals.length) (h2 : vals.length ≤ 1000) (hp : ∀ x ∈ vals, p x) :
    Calls Tryz.prog 9 #[.pointer (some ⟨S, 0, none⟩), v] w (SomePost S (k + 1) p w) := by
  obtain ⟨b, vs, rfl, rfl, hb, hl, hc⟩ := ha
  refine some_any S k b vals.length vals.length vals p w h hk hl hb h1 h2 (fun i hi => ?_) (fun i hi => ?_)
  · exact hc i _ (by simp [hi])
  · rw [show vals.getD i _ = vals[i] by simp [hi]]; exact hp _ (List.getElem_mem hi)

/-- A slot by its place. -/
theorem slot_of {a : Act} {t : Tmp} {v : Value} (h : a.eval (.tmp t) = v) : a.tmps[t]?.getD undef = v := by rw [← h]; simp [Act.eval]
end Go.Proofs.YtkdadbpajhdelaaGreatDoor

namespace Go.Proofs.YtkdadbpajhdelaaGreatDoor
open Go.RowKit

section
variable {P : Program} {ops : Array Oper} {Q : Exit → Act → World → Prop}

/-- What is to be shown of an operation: it may look at what it waits for, and at what was there. A call hands out at most W numbers. -/
def LateOp (P : Program) (ops : Array Oper) (Q : Exit → Act → World → Prop) (a0 : Act) (S k W : Nat) (w0 : World) (specs : List Spec) (calls : List Nat) (i : Nat) (o : Oper) (s : Spec) : Prop :=
  ∀ (a : Act) (w : World) (c : Nat), Keeps S w0 w → StreamOk w S (k + W * c) → c + (if calls.contains i then 1 else 0) ≤ calls.length →
    (∀ t, ((ops.extract 0 specs.length).all fun o => o.dst != some t) = true → a.eval (.tmp t) = a0.eval (.tmp t)) →
    (∀ (j : Nat) (t : Tmp) (s' : Spec), (o.after.any fun e => Region.binds .any e && e.on == j) = true → dstOf ops j = some t → specs[j]? = some s' → s'.holds S w (a.eval (.tmp t))) →
    ∀ K : Act → World → Prop, (∀ v w', s.holds S w' v → Keeps S w w' → StreamOk w' S (k + W * (c + if calls.contains i then 1 else 0)) → K (a.put o.dst v) w') → Oper.wp P o a w K Q
def LateOps (P : Program) (ops : Array Oper) (Q : Exit → Act → World → Prop) (a0 : Act) (S k W : Nat) (w0 : World) (specs : List Spec) (calls : List Nat) : Nat → List Oper → List Spec → Prop
  | i, o :: os, s :: ss => LateOp P ops Q a0 S k W w0 specs calls i o s ∧ LateOps P ops Q a0 S k W w0 specs calls (i + 1) os ss
  | _, _, _ => True
theorem lateOps_at {a0 : Act} {S k W : Nat} {w0 : World} {specs : List Spec} {calls : List Nat} : ∀ (i : Nat) (os : List Oper) (ss : List Spec), LateOps P ops Q a0 S k W w0 specs calls i os ss → ∀ (j : Nat) (o : Oper) (s : Spec), os[j]? = some o → ss[j]? = some s → LateOp P ops Q a0 S k W w0 specs calls (i + j) o s
  | i, o :: os, s :: ss, h, 0, _, _, ho, hs => by simp at ho hs; subst ho; subst hs; exact h.1
  | i, o :: os, s :: ss, h, j + 1, o', s', ho, hs => by
    have := lateOps_at (i + 1) os ss h.2 j o' s' (by simpa using ho) (by simpa using hs)
    rw [show i + (j + 1) = i + 1 + j by omega]; exact this
  | i, [], _, _, j, _, _, ho, _ => by simp at ho
  | i, _ :: _, [], _, j, _, _, _, hs => by simp at hs

/-- Operation m waits, through others, for all ahead of it but number d: each of those is waited for by one behind it, up to m, that is not d. -/
def lateChk (ops : Array Oper) (m d : Nat) : Bool :=
  ((List.range m).all fun i => i == d || (List.range (m + 1)).any fun k => decide (i < k) && k != d && ((ops[k]?).map fun o => o.after.any fun e => Region.binds .any e && e.on == i).getD false) && decide (d < m)

theorem late_listed {m d : Nat} (hc : lateChk ops m d = true) {l : Array Bool} (hl : l.size = m + 1) (hcl : ClosedL ops l) {om : Oper} (hom : ops[m]? = some om) (hall : ∀ e ∈ om.after, Region.binds .any e = true → l.getD e.on false = true) : ∀ i, i < m → i ≠ d → l.getD i true = true := by
  simp only [lateChk, Bool.and_eq_true, List.all_eq_true, List.any_eq_true, List.mem_range, decide_eq_true_eq, Bool.or_eq_true, beq_iff_eq, bne_iff_ne] at hc
  have main : ∀ n i, i < m → i ≠ d → m - i ≤ n → l.getD i false = true := by
    intro n
    induction n with
    | zero => intro i hi _ h; omega
    | succ n ih =>
      intro i hi hne h
      obtain ⟨k, hk, ⟨hik, hkd⟩, hk2⟩ := (hc.1 i hi).resolve_left hne
      cases ho : ops[k]? with
      | none => simp [ho] at hk2
      | some o =>
        simp only [ho, Option.map_some, Option.getD_some] at hk2
        obtain ⟨e, he, hb⟩ := Array.any_eq_true'.1 hk2
        simp only [Bool.and_eq_true, beq_iff_eq] at hb
        rcases Nat.lt_or_ge k m with hkm | hkm
        · rw [← hb.2]; exact hcl k o ho (ih k hkm hkd (by omega)) e he hb.1
        · obtain rfl : k = m := by omega
          rw [hom] at ho; cases ho
          rw [← hb.2]; exact hall e he hb.1
  intro i hi hne
  rw [getD_two (by omega) true false]
  exact main (m - i) i hi hne (Nat.le_refl _)

/-- Operation m waits, through others, for all ahead of it. -/
def lateAll (ops : Array Oper) (m : Nat) : Bool :=
  (List.range m).all fun i => (List.range (m + 1)).any fun k => decide (i < k) && ((ops[k]?).map fun o => o.after.any fun e => Region.binds .any e && e.on == i).getD false
theorem allW_listed {m : Nat} (hc : lateAll ops m = true) {l : Array Bool} (hl : l.size = m + 1) (hcl : ClosedL ops l) {om : Oper} (hom : ops[m]? = some om) (hall : ∀ e ∈ om.after, Region.binds .any e = true → l.getD e.on false = true) : ∀ i, i < m → l.getD i true = true := by
  simp only [lateAll, Bool.and_eq_true, List.all_eq_true, List.any_eq_true, List.mem_range, decide_eq_true_eq] at hc
  have main : ∀ n i, i < m → m - i ≤ n → l.getD i false = true := by
    intro n
    induction n with
    | zero => intro i hi h; omega
    | succ n ih =>
      intro i hi h
      obtain ⟨k, hk, hik, hk2⟩ := hc i hi
      cases ho : ops[k]? with
      | none => simp [ho] at hk2
      | some o =>
        simp only [ho, Option.map_some, Option.getD_some] at hk2
        obtain ⟨e, he, hb⟩ := Array.any_eq_true'.1 hk2
        simp only [Bool.and_eq_true, beq_iff_eq] at hb
        rcases Nat.lt_or_ge k m with hkm | hkm
        · rw [← hb.2]; exact hcl k o ho (ih k hkm (by omega)) e he hb.1
        · obtain rfl : k = m := by omega
          rw [hom] at ho; cases ho
          rw [← hb.2]; exact hall e he hb.1
  intro i hi
  rw [getD_two (by omega) true false]
  exact main (m - i) i hi (Nat.le_refl _)

theorem gen_late {m d W : Nat} {a0 : Act} {S k : Nat} {w0 : World} {specs : List Spec} {calls : List Nat} {st od : Oper} (hsz : ops.size = m + 1) (hc : genChk ops a0.tmps.size m calls = true) (hlen : specs.length = m) (hst : ops[m]? = some st) (hsg : st.guard = none) (hod : ops[d]? = some od) (hlate : lateChk ops m d = true) (hdc : d ∉ calls)
    (hdown : ∀ i, i < m + 1 → ∃ o, ops[i]? = some o ∧ ∀ e ∈ o.after, Region.binds .any e = true → e.on < i)
    (hstep : ∀ i o s, i < m → ops[i]? = some o → specs[i]? = some s → LateOp P ops Q a0 S k W w0 specs calls i o s)
    (hA : ∀ (vals : Nat → Value) (w : World), Keeps S w0 w → StreamOk w S (k + W * calls.length) → (∀ (i : Nat) (s : Spec), specs[i]? = some s → s.holds S w (vals i)) → lastQ P st Q .normal (putSome ops vals (fun _ => true) (List.range m) a0) w)
    (hB : lateAll ops m = false → ∀ (vals : Nat → Value) (w : World), Keeps S w0 w → StreamOk w S (k + W * calls.length) → (∀ (i : Nat) (s : Spec), i ≠ d → specs[i]? = some s → s.holds S w (vals i)) → lastQ P st (lastQ P od Q) .normal (putSome ops vals (fun i => i != d) (List.range m) a0) w) :
    ∀ (fuel : Nat) (l : Array Bool) (vals : Nat → Value) (w : World), l.size = m + 1 → l.getD m true = false → ClosedL ops l → Keeps S w0 w → StreamOk w S (k + W * calls.countP (fun i => l.getD i true)) → (∀ (i : Nat) (s : Spec), l.getD i true = true → specs[i]? = some s → s.holds S w (vals i)) → (l.toList.countP (fun b => !b) ≤ fuel) →
      wpAny P .any ops Q fuel l (putSome ops vals (fun i => l.getD i true) (List.range m) a0) w := by
  simp only [genChk, Bool.and_eq_true, List.all_eq_true, List.mem_range, decide_eq_true_eq, Bool.or_eq_true, beq_iff_eq] at hc
  obtain ⟨⟨⟨⟨⟨hdst, hgd⟩, hmn⟩, h1n⟩, hnd⟩, hcm⟩ := hc
  have hdm : d < m := by
    simp only [lateChk, Bool.and_eq_true, decide_eq_true_eq] at hlate
    exact hlate.2
  have dlt' : ∀ i t, dstOf ops i = some t → i < ops.size := by
    intro i t h
    rcases Nat.lt_or_ge i ops.size with h' | h'
    · exact h'
    · unfold dstOf at h; rw [Array.getElem?_eq_none h'] at h; cases h
  have dne : ∀ i j, i ≠ j → ∀ t, dstOf ops j = some t → dstOf ops i ≠ some t := by
    intro i j hij t hj hi
    have := (hdst i (dlt' i t hi) j (dlt' j t hj)).resolve_left hij
    simp [hi, hj] at this
  have dlt : ∀ i t, dstOf ops i = some t → t < a0.tmps.size := by
    intro i t hi
    have hj : ∃ j, j < ops.size ∧ i ≠ j := if h : i = 0 then ⟨1, by omega, by omega⟩ else ⟨0, by omega, h⟩
    obtain ⟨j, hj, hij⟩ := hj
    have := (hdst i (dlt' i t hi) j hj).resolve_left hij
    simp [hi] at this
    exact this.1
  have cntAll : ∀ l : Array Bool, (∀ i, i < m → i ≠ d → l.getD i true = true) → calls.countP (fun i => l.getD i true) = calls.length := fun l h => List.countP_eq_length.2 (fun i hi => h i (by simpa using hcm i hi) (fun e => hdc (e ▸ hi)))
  intro fuel
  induction fuel with
  | zero =>
    intro l vals w hl hlm hcl hk hstm hs hf
    exfalso
    have : 0 < l.toList.countP (fun b => !b) := List.countP_pos_iff.2 ⟨false, by
      have hlt : m < l.size := by omega
      have : l[m] = false := by simpa [hlt] using hlm
      rw [← this]; simp, rfl⟩
    omega
  | succ fuel ih =>
    intro l vals w hl hlm hcl hk hstm hs hf
    have cntSet : ∀ i, i < l.size → l.getD i true = false → (l.setIfInBounds i true).toList.countP (fun b => !b) + 1 = l.toList.countP (fun b => !b) := by
      intro i hilt hun
      have hli : l[i] = false := by simpa [hilt] using hun
      have hpos : 0 < l.toList.countP (fun b => !b) := List.countP_pos_iff.2 ⟨false, by rw [← hli]; simp, rfl⟩
      have := List.countP_set (p := fun b : Bool => !b) (l := l.toList) (i := i) (a := true) (by simpa using hilt)
      have e4 : l.toList[i]'(by simpa using hilt) = false := by simpa using hli
      rw [Array.toList_setIfInBounds, this, e4]
      rw [if_pos (by decide : (!false) = true), if_neg (by decide : ¬ (!true) = true)]
      omega
    refine ⟨fun h0 => ?_, fun i hi => ?_⟩
    · exfalso
      have hall : ∀ i, i < m + 1 → l.getD i true = true := by
        intro i
        induction i using Nat.strongRecOn with
        | _ i ihi =>
          intro hi
          rcases Bool.eq_false_or_eq_true (l.getD i true) with h | h
          · exact h
          · exfalso
            obtain ⟨o, ho, hd⟩ := hdown i hi
            have : i ∈ Region.ready .any ops l := mem_ready.2 ⟨h, o, ho, fun e he hb => by rw [getD_two (by have := hd e he hb; omega) false true]; exact ihi e.on (hd e he hb) (by have := hd e he hb; omega)⟩
            rw [h0] at this; cases this
      rw [hall m (by omega)] at hlm; cases hlm
    · obtain ⟨hun, o, ho, hall⟩ := mem_ready.1 hi
      have hile : i ≤ m := by have := (Array.getElem?_eq_some_iff.1 ho).1; omega
      by_cases him : i = m
      · subst him
        rw [hst] at ho; cases ho
        have hothers := late_listed hlate hl hcl hst hall
        unfold wpOp
        simp only [hst]
        rw [if_pos (by simp [Region.wanted, hsg])]
        rw [cntAll l hothers] at hstm
        by_cases hdl : l.getD d true = true
        · have e1 : putSome ops vals (fun j => l.getD j true) (List.range i) a0 = putSome ops vals (fun _ => true) (List.range i) a0 := putSome_congr _ _ (fun j hj => ⟨by
            by_cases hjd : j = d
            · rw [hjd]; exact hdl
            · exact hothers j (List.mem_range.1 hj) hjd, fun _ => rfl⟩)
          rw [e1]
          refine (hA vals w hk hstm (fun j s h => hs j s ?_ h)).imp (Oper.wp_mono (fun a' w' h' => wpAny_done (ready_all hsz fun j hj => ?_) h' fuel)) id
          · by_cases hjd : j = d
            · rw [hjd]; exact hdl
            · exact hothers j (by have := (List.getElem?_eq_some_iff.1 h).1; omega) hjd
          · by_cases hji : j = i
            · subst hji; simp [hl]
            · rw [getD_set_ne true (Ne.symm hji)]
              by_cases hjd : j = d
              · rw [hjd]; exact hdl
              · exact hothers j (by omega) hjd
        · have hdf : l.getD d true = false := by simpa using hdl
          have hla : lateAll ops i = false := by
            rcases Bool.eq_false_or_eq_true (lateAll ops i) with h | h
            · exact absurd (allW_listed h hl hcl hst hall d hdm) (by rw [hdf]; decide)
            · exact h
          have e1 : putSome ops vals (fun j => l.getD j true) (List.range i) a0 = putSome ops vals (fun j => j != d) (List.range i) a0 := putSome_congr _ _ (fun j hj => ⟨by
            by_cases hjd : j = d
            · rw [hjd, hdf]; simp
            · rw [hothers j (List.mem_range.1 hj) hjd]; simp [hjd], fun _ => rfl⟩)
          rw [e1]
          have hf1 : 1 ≤ fuel := by
            have h1 := cntSet d (by omega) hdf
            have h2 : 0 < (l.setIfInBounds d true).toList.countP (fun b => !b) := List.countP_pos_iff.2 ⟨false, by
              have hlt : i < (l.setIfInBounds d true).size := by simp; omega
              have : (l.setIfInBounds d true)[i] = false := by
                have h3 : (l.setIfInBounds d true).getD i true = false := by rw [getD_set_ne true (by omega)]; exact hlm
                rw [Array.getD_eq_getD_getElem?, Array.getElem?_eq_getElem hlt] at h3
                exact h3
              rw [← this]; exact Array.getElem_mem_toList _, rfl⟩
            omega
          obtain ⟨fuel', rfl⟩ : ∃ f, fuel = f + 1 := ⟨fuel - 1, by omega⟩
          have hg : od.guard = none := by
            have hx := hgd d hdm
            simpa [hod] using hx
          have hset : ∀ j, j < i + 1 → j ≠ d → (l.setIfInBounds i true).getD j true = true := by
            intro j hj hjd
            by_cases hji : j = i
            · subst hji; simp [hl]
            · rw [getD_set_ne true (Ne.symm hji)]; exact hothers j (by omega) hjd
          rcases hB hla vals w hk hstm (fun j s hjd h => hs j s (hothers j (by have := (List.getElem?_eq_some_iff.1 h).1; omega) hjd) h) with hq | hq
          · refine Or.inl ?_
            have conv : Oper.wp P st (putSome ops vals (fun j => j != d) (List.range i) a0) w (fun a' w' => lastQ P od Q .normal a' w') Q := by
              unfold Oper.wp at *
              generalize (execOp (putSome ops vals (fun j => j != d) (List.range i) a0).eval st).run P w = r at *
              cases r with
              | ok n w' =>
                cases n <;> simp only [Oper.upon] at hq ⊢ <;>
                  first
                    | exact hq
                    | exact Calls.mono hq (fun e w'' he => by cases e <;> exact he)
                    | exact Rows.mono hq (fun _ _ he => he)
              | halt x w' => cases x <;> simp only [Oper.upon] at hq ⊢ <;> exact hq
            refine Oper.wp_mono (fun a' w' h' => ?_) conv
            refine ⟨fun h0 => ?_, fun j hj => ?_⟩
            · exfalso
              obtain ⟨o2, ho2, hd2⟩ := hdown d (by omega)
              have : d ∈ Region.ready .any ops (l.setIfInBounds i true) := mem_ready.2 ⟨by rw [getD_set_ne true (by omega)]; exact hdf, o2, ho2, fun e he hb => by
                have := hd2 e he hb
                rw [getD_two (by simp; omega) false true]
                exact hset _ (by omega) (by omega)⟩
              rw [h0] at this; cases this
            · obtain ⟨hun2, o2, ho2, _⟩ := mem_ready.1 hj
              have hjle : j < i + 1 := by have := (Array.getElem?_eq_some_iff.1 ho2).1; omega
              obtain rfl : j = d := by
                apply Classical.byContradiction
                intro hjd
                rw [hset j hjle hjd] at hun2; cases hun2
              unfold wpOp
              simp only [hod]
              rw [if_pos (by simp [Region.wanted, hg])]
              refine h'.imp (Oper.wp_mono (fun a'' w'' h'' => wpAny_done (ready_all hsz fun q hq => ?_) h'' fuel')) id
              by_cases hqd : q = j
              · subst hqd; simp [show q < l.size by omega]
              · rw [getD_set_ne true (Ne.symm hqd)]; exact hset q hq hqd
          · exact Or.inr ⟨hq.1, by
              obtain ⟨a1, w1, h2⟩ := hq.2
              exact ⟨a1, w1, lastQ_other h2 (by simp)⟩⟩
      · have him' : i < m := by omega
        have hilt : i < l.size := by omega
        obtain ⟨s, hsi⟩ : ∃ s, specs[i]? = some s := ⟨specs[i]'(by omega), by simp⟩
        have hguard : o.guard = none := by
          have hx := hgd i him'
          simpa [ho] using hx
        have hdo : dstOf ops i = o.dst := by simp [dstOf, ho]
        unfold wpOp
        simp only [ho]
        rw [if_pos (by simp [Region.wanted, hguard])]
        refine Or.inl ?_
        have hcnt := countP_set calls hnd (fun j => l.getD j true) i hun
        refine hstep i o s him' ho hsi _ w (calls.countP fun j => l.getD j true) hk hstm ?_ ?_ ?_ _ ?_
        · rw [← hcnt]; exact List.countP_le_length
        · intro t ht
          refine putSome_eval_other _ _ (fun j hj => ?_)
          intro hjt
          have hjm := List.mem_range.1 hj
          unfold dstOf at hjt
          cases hoj : ops[j]? with
          | none => rw [hoj] at hjt; cases hjt
          | some oj =>
            rw [hoj] at hjt
            have h9 : (ops.extract 0 specs.length)[j]? = some oj := by rw [ext_get _ _ _ (by omega)]; exact hoj
            have := Array.all_eq_true_iff_forall_mem.1 ht oj (Array.mem_of_getElem? h9)
            simp at this hjt
            exact this hjt
        · intro j t s' hj ht hs'
          obtain ⟨e, he, hb⟩ := Array.any_eq_true'.1 hj
          simp only [Bool.and_eq_true, beq_iff_eq] at hb
          obtain ⟨hb, rfl⟩ := hb
          have hlt : e.on < m := by have := (List.getElem?_eq_some_iff.1 hs').1; omega
          have hon' : l.getD e.on true = true := by rw [getD_two (by omega) true false]; exact hall e he hb
          rw [putSome_eval (i := e.on) _ _ List.nodup_range (List.mem_range.2 hlt) hon' ht (dlt _ _ ht) (fun j _ hj => fun h2 => dne e.on j (Ne.symm hj) t h2 ht)]
          exact hs e.on s' hon' hs'
        · intro v w' hv hkw hst'
          have e2 := putSome_set (ops := ops) (vals := vals) (listed := fun j => l.getD j true) (i := i) v (List.range m) a0 List.nodup_range (List.mem_range.2 him') hun (fun j _ hj t ht => dne i j (Ne.symm hj) t ht)
          have e3 : (fun j => if j = i then true else l.getD j true) = fun j => (l.setIfInBounds i true).getD j true := by
            funext j
            by_cases hji : j = i
            · subst hji; simp [hilt]
            · simp only [hji, if_false]; rw [getD_set_ne true (Ne.symm hji)]
          rw [← hdo, ← e2, e3]
          refine ih _ _ w' (by simpa using hl) (by rw [getD_set_ne true him]; exact hlm) (hcl.set hi) (hk.trans hkw) ?_ ?_ ?_
          · rw [← e3, hcnt]; exact hst'
          · intro j s' hj hs'
            by_cases hji : j = i
            · subst hji
              rw [hsi] at hs'; cases hs'
              simp only [if_true]; exact hv
            · simp only [hji, if_false]
              rw [getD_set_ne true (Ne.symm hji)] at hj
              exact (hs j s' hj hs').keeps hkw
          · have := cntSet i hilt hun
            omega

theorem tailQ_wp {k : Nat} {o : Oper} {a : Act} {w : World} {K : Act → World → Prop} (h : Oper.wp P o a w K Q) : Oper.wp P o a w K (tailQ P ops Q k) := by
  unfold Oper.wp at *
  generalize (execOp a.eval o).run P w = r at *
  cases r with
  | ok n w' =>
    cases n <;> simp only [Oper.upon] at h ⊢ <;>
      first
        | exact h
        | exact Calls.mono h (fun e w'' he => by cases e <;> exact he)
        | exact Rows.mono h (fun _ _ he => he)
  | halt x w' => cases x <;> simp only [Oper.upon] at h ⊢ <;> exact h

theorem toTail_of {L : List Oper} : ∀ (l : List Oper), (∀ o ∈ l, o.guard = none) → ∀ a w, wpList P L.toArray Q l a w → tailQ.wpTail P Q l a w := by
  intro l
  induction l with
  | nil => intro _ a w h; exact h
  | cons o l ih =>
    intro hg a w h
    unfold wpList at h
    rw [if_pos (by simp [Region.wanted, hg o List.mem_cons_self])] at h
    exact h.imp (Oper.wp_mono (fun a w h => ih (fun o ho => hg o (List.mem_cons_of_mem _ ho)) a w h)) (fun h => h)

theorem forVals_skip {S : Nat} {w : World} {K : Act → Prop} {vals : Nat → Value} {ops : Array Oper} {d : Nat} : ∀ (ss : List Spec) (i : Nat) (a : Act), ForVals S w K (((List.range' i ss.length).map (dstOf ops)).eraseIdx (d - i)) (ss.eraseIdx (d - i)) a → i ≤ d → d < i + ss.length → (∀ (j : Nat) (s : Spec), i + j ≠ d → ss[j]? = some s → s.holds S w (vals (i + j))) → K (putSome ops vals (fun j => j != d) (List.range' i ss.length) a)
  | [], i, a, h, _, h2, _ => by simp at h2; omega
  | s :: ss, i, a, h, h1, h2, hs => by
    by_cases hid : i = d
    · subst hid
      simp only [Nat.sub_self, List.length_cons, List.range'_succ, List.map_cons, List.eraseIdx_cons_zero] at h
      have := forVals_all (vals := vals) ss (i + 1) a h (fun j s' hj => by have := hs (j + 1) s' (by omega) (by simpa using hj); rwa [show i + (j + 1) = i + 1 + j by omega] at this)
      simp only [putSome, List.length_cons, List.range'_succ, List.foldl_cons, bne_self_eq_false, Bool.false_eq_true, if_false] at this ⊢
      have e : ∀ (l : List Nat) (a : Act), (∀ j ∈ l, j ≠ i) → List.foldl (fun a j => if (j != i) = true then a.put (dstOf ops j) (vals j) else a) a l = List.foldl (fun a j => a.put (dstOf ops j) (vals j)) a l := by
        intro l
        induction l with
        | nil => intro a _; rfl
        | cons x xs ih =>
          intro a hx
          have hxi := hx x (by simp)
          have hb : (x != i) = true := by simpa using hxi
          simp only [List.foldl_cons, hb, if_true]
          exact ih _ (fun j hj => hx j (by simp [hj]))
      rw [e _ _ (fun j hj => by have := List.mem_range'_1.1 hj; omega)]
      simpa using this
    · have hsub : d - i = (d - (i + 1)) + 1 := by omega
      rw [hsub] at h
      simp only [List.length_cons, List.range'_succ, List.map_cons, List.eraseIdx_cons_succ] at h
      have h1' : ForVals S w K (((List.range' (i + 1) ss.length).map (dstOf ops)).eraseIdx (d - (i + 1))) (ss.eraseIdx (d - (i + 1))) (a.put (dstOf ops i) (vals i)) := h (vals i) (hs 0 s (by omega) rfl)
      have := forVals_skip ss (i + 1) _ h1' (by omega) (by simp at h2; omega) (fun j s' hj hj2 => by have := hs (j + 1) s' (by omega) (by simpa using hj2); rwa [show i + (j + 1) = i + 1 + j by omega] at this)
      simp only [putSome, List.length_cons, List.range'_succ, List.foldl_cons, bne_iff_ne, ne_eq, hid, not_false_eq_true, if_true] at this ⊢
      exact this

/-- **A region that draws its order**: shown for all orders at once; operation m comes behind all of the first m but, it may be, number d. -/
theorem region_lateC {L : List Oper} {id : Nat} {a0 : Act} {w : World} (S k W m d : Nat) (specs : List Spec) (calls : List Nat) (ds : List (Option Tmp)) {st od : Oper} (hm : P.follows .mixedOrders = true) (hc : genChk L.toArray a0.tmps.size m calls = true) (hc2 : ((L.toArray.extract 0 (m + 1)).size == m + 1) = true) (ht : tailChk L.toArray (m + 1) = true) (hd : downChk L.toArray (m + 1) = true) (hlate : lateChk (L.toArray.extract 0 (m + 1)) m d = true) (hlen : specs.length = m)
    (hds : (List.range m).map (dstOf L.toArray) = ds) (hst : L[m]? = some st) (hod : L[d]? = some od) (hsg : (st.guard.isNone && od.guard.isNone && decide (d ∉ calls)) = true) (h0 : StreamOk w S k)
    (hstep : LateOps P L.toArray (tailQ P L.toArray Q (m + 1)) a0 S k W w.drew specs calls 0 (L.take m) specs)
    (hA : ∀ w', Keeps S w.drew w' → StreamOk w' S (k + W * calls.length) → ForVals S w' (fun a => wpList P L.toArray Q (st :: L.drop (m + 1)) a w') ds specs a0)
    (hB : lateAll (L.toArray.extract 0 (m + 1)) m = false → ∀ w', Keeps S w.drew w' → StreamOk w' S (k + W * calls.length) → ForVals S w' (fun a => wpList P L.toArray Q (st :: od :: L.drop (m + 1)) a w') (ds.eraseIdx d) (specs.eraseIdx d) a0) : (Code.region id L.toArray true).wp P Q a0 w := by
  subst hlen
  simp only [Bool.and_eq_true, Option.isNone_iff_eq_none, decide_eq_true_eq] at hsg
  obtain ⟨⟨hsg, hog⟩, hdc⟩ := hsg
  have hsz : (L.toArray.extract 0 (specs.length + 1)).size = specs.length + 1 := by simpa using hc2
  have hmL : specs.length + 1 ≤ L.length := by simp at hsz; omega
  have hdm : d < specs.length := by
    simp only [lateChk, Bool.and_eq_true, decide_eq_true_eq] at hlate
    exact hlate.2
  have tailNone : ∀ o ∈ L.drop (specs.length + 1), o.guard = none := by
    intro o ho
    obtain ⟨j, hj⟩ := List.getElem?_of_mem ho
    rw [List.getElem?_drop] at hj
    have hlt := (List.getElem?_eq_some_iff.1 hj).1
    have h := List.all_eq_true.1 ht (specs.length + 1 + j) (List.mem_range.2 (by simpa using hlt))
    simp only [Bool.or_eq_true, decide_eq_true_eq, Bool.and_eq_true] at h
    have h2 := (h.resolve_left (by omega)).2
    rw [show L.toArray[specs.length + 1 + j]? = some o by simpa using hj] at h2
    simpa using h2
  have hdown : ∀ i, i < specs.length + 1 → ∃ o, (L.toArray.extract 0 (specs.length + 1))[i]? = some o ∧ ∀ e ∈ o.after, Region.binds .any e = true → e.on < i := by
    intro i hi
    have h := List.all_eq_true.1 hd i (List.mem_range.2 hi)
    rw [ext_get _ _ _ hi]
    cases ho : L.toArray[i]? with
    | none => rw [ho] at h; cases h
    | some o =>
      rw [ho] at h
      simp only [Option.map_some, Option.getD_some] at h
      refine ⟨o, rfl, fun e he hb => ?_⟩
      have h1 := Array.all_eq_true_iff_forall_mem.1 h e he
      simpa [hb] using h1
  have dEq : ∀ j, j < specs.length → dstOf (L.toArray.extract 0 (specs.length + 1)) j = dstOf L.toArray j := fun j hj => by unfold dstOf; rw [ext_get _ _ _ (by omega)]
  have pEq : ∀ (vals : Nat → Value) (f : Nat → Bool) (l : List Nat), (∀ j ∈ l, j < specs.length) → ∀ a, putSome (L.toArray.extract 0 (specs.length + 1)) vals f l a = putSome L.toArray vals f l a := by
    intro vals f l
    induction l with
    | nil => intro _ a; rfl
    | cons j l ih =>
      intro hl a
      have ih' := ih (fun i hi => hl i (List.mem_cons_of_mem _ hi))
      simp only [putSome, List.foldl_cons] at ih' ⊢
      rw [dEq j (hl j List.mem_cons_self)]
      exact ih' _
  have hc' : genChk (L.toArray.extract 0 (specs.length + 1)) a0.tmps.size specs.length calls = true := by
    simp only [genChk, Bool.and_eq_true, List.all_eq_true, List.mem_range, decide_eq_true_eq, Bool.or_eq_true, beq_iff_eq] at hc ⊢
    obtain ⟨⟨⟨⟨⟨hdst, hgd⟩, hmn⟩, h1n⟩, hnd⟩, hcm⟩ := hc
    refine ⟨⟨⟨⟨⟨fun i hi j hj => ?_, fun i hi => ?_⟩, by omega⟩, by omega⟩, hnd⟩, hcm⟩
    · rw [hsz] at hi hj
      have := hdst i (by simp; omega) j (by simp; omega)
      have ei : dstOf (L.toArray.extract 0 (specs.length + 1)) i = dstOf L.toArray i := by unfold dstOf; rw [ext_get _ _ _ hi]
      have ej : dstOf (L.toArray.extract 0 (specs.length + 1)) j = dstOf L.toArray j := by unfold dstOf; rw [ext_get _ _ _ hj]
      rw [ei, ej]; exact this
    · rw [ext_get _ _ _ (by omega)]; exact hgd i hi
  refine wp_region_any hm ?_
  refine tail_any (specs.length + 1) ht (L.length - (specs.length + 1)) (specs.length + 1) (by simp; omega) (Nat.le_refl _) a0 _ ?_
  have g := gen_late (P := P) (ops := L.toArray.extract 0 (specs.length + 1)) (Q := tailQ P L.toArray Q (specs.length + 1)) (m := specs.length) (d := d) (W := W) (a0 := a0) (S := S) (k := k) (w0 := w.drew) (specs := specs) (calls := calls) (st := st) (od := od) hsz hc' rfl (by rw [ext_get _ _ _ (by omega)]; simpa using hst) hsg (by rw [ext_get _ _ _ (by omega)]; simpa using hod) hlate hdc hdown ?_ ?_ ?_ (specs.length + 1) (Array.replicate (specs.length + 1) false) (fun _ => undef) w.drew (by simp) (by simp) ?_ (Keeps.refl _ _) ?_ ?_ ?_
  · have e0 : ∀ (l : List Nat), (∀ i ∈ l, i < specs.length) → ∀ a, putSome (L.toArray.extract 0 (specs.length + 1)) (fun _ => undef) (fun i => (Array.replicate (specs.length + 1) false).getD i true) l a = a := by
      intro l
      induction l with
      | nil => intro _ a; rfl
      | cons j l ih =>
        intro hl a
        have hj := hl j List.mem_cons_self
        have ih' := ih (fun i hi => hl i (List.mem_cons_of_mem _ hi))
        simp only [putSome, List.foldl_cons] at ih' ⊢
        rw [show (Array.replicate (specs.length + 1) false).getD j true = false by simp [show j < specs.length + 1 by omega]]
        exact ih' a
    rw [e0 _ (fun i hi => List.mem_range.1 hi) a0] at g
    exact g
  · intro i o s hi ho hs a w' c hk hst2 hcc hfr hdp K hK
    have hoL : L[i]? = some o := by rw [ext_get _ _ _ (by omega)] at ho; simpa using ho
    have st2 := lateOps_at 0 _ _ hstep i o s (by rw [List.getElem?_take_of_lt hi]; exact hoL) hs
    rw [Nat.zero_add] at st2
    refine st2 a w' c hk hst2 hcc (fun t ht => hfr t ?_) (fun j t s' hj ht hs' => hdp j t s' hj (by rw [dEq j (List.getElem?_eq_some_iff.1 hs').1]; exact ht) hs') K hK
    rw [Array.extract_extract] 
    simpa [Nat.min_eq_left (show specs.length ≤ specs.length + 1 by omega)] using ht
  · intro vals w' hk hst2 hs
    rw [pEq vals _ _ (fun j hj => List.mem_range.1 hj)]
    have h := hA w' hk hst2
    subst hds
    have h2 := forVals_all (S := S) (w := w') (vals := vals) (ops := L.toArray) (K := fun a => wpList P L.toArray Q (st :: L.drop (specs.length + 1)) a w') specs 0 a0 (by rw [← List.range_eq_range']; exact h) (fun j s hj => by rw [Nat.zero_add]; exact hs j s hj)
    rw [← List.range_eq_range'] at h2
    have h3 := toTail_of (st :: L.drop (specs.length + 1)) (fun o ho => by
      rcases List.mem_cons.1 ho with rfl | ho
      · exact hsg
      · exact tailNone o ho) _ _ h2
    exact h3.imp (fun h => tailQ_wp h) (fun h => h)
  · intro hla vals w' hk hst2 hs
    rw [pEq vals _ _ (fun j hj => List.mem_range.1 hj)]
    have h := hB hla w' hk hst2
    subst hds
    have h2 := forVals_skip (S := S) (w := w') (vals := vals) (ops := L.toArray) (d := d) (K := fun a => wpList P L.toArray Q (st :: od :: L.drop (specs.length + 1)) a w') specs 0 a0 (by rw [← List.range_eq_range']; exact h) (Nat.zero_le _) (by omega) (fun j s hne hj => by rw [Nat.zero_add] at hne ⊢; exact hs j s hne hj)
    rw [← List.range_eq_range'] at h2
    have h3 := toTail_of (st :: od :: L.drop (specs.length + 1)) (fun o ho => by
      rcases List.mem_cons.1 ho with rfl | ho
      · exact hsg
      · rcases List.mem_cons.1 ho with rfl | ho
        · exact hog
        · exact tailNone o ho) _ _ h2
    refine h3.imp (fun h => ?_) (fun h => h)
    have h4 := Oper.wp_mono (K' := fun a' w' => lastQ P od (tailQ P L.toArray Q (specs.length + 1)) .normal a' w') (fun a w h => h.imp (fun h => tailQ_wp h) (fun h => h)) h
    unfold Oper.wp at *
    generalize (execOp (putSome L.toArray vals (fun i => i != d) (List.range specs.length) a0).eval st).run P w' = r at *
    cases r with
    | ok n w' =>
      cases n <;> simp only [Oper.upon] at h4 ⊢ <;>
        first
          | exact h4
          | exact Calls.mono h4 (fun e w'' he => by cases e <;> exact he)
          | exact Rows.mono h4 (fun _ _ he => he)
    | halt x w' => cases x <;> simp only [Oper.upon] at h4 ⊢ <;> exact h4
  · intro i o _ hl
    exfalso
    by_cases h' : i < specs.length + 1
    · simp [h'] at hl
    · simp [h'] at hl
  · have : calls.countP (fun i => (Array.replicate (specs.length + 1) false).getD i true) = 0 := List.countP_eq_zero.2 (fun i hi => by
      have h5 := hc
      simp only [genChk, Bool.and_eq_true, List.all_eq_true, decide_eq_true_eq] at h5
      have := h5.2 i hi
      simp [show i < specs.length + 1 by omega])
    rw [this, Nat.mul_zero]
    exact h0
  · intro i s h hs
    have hlt := (List.getElem?_eq_some_iff.1 hs).1
    simp [show i < specs.length + 1 by omega] at h
  · exact Nat.le_trans List.countP_le_length (by simp)
theorem region_late {L : List Oper} {id : Nat} {a0 : Act} {w : World} (S k W m d : Nat) (specs : List Spec) (calls : List Nat) (ds : List (Option Tmp)) {st od : Oper} (hm : P.follows .mixedOrders = true) (hc : genChk L.toArray a0.tmps.size m calls = true) (hc2 : ((L.toArray.extract 0 (m + 1)).size == m + 1) = true) (ht : tailChk L.toArray (m + 1) = true) (hd : downChk L.toArray (m + 1) = true) (hlate : lateChk (L.toArray.extract 0 (m + 1)) m d = true) (hlen : specs.length = m)
    (hds : (List.range m).map (dstOf L.toArray) = ds) (hst : L[m]? = some st) (hod : L[d]? = some od) (hsg : (st.guard.isNone && od.guard.isNone && decide (d ∉ calls)) = true) (h0 : StreamOk w S k)
    (hstep : LateOps P L.toArray (tailQ P L.toArray Q (m + 1)) a0 S k W w.drew specs calls 0 (L.take m) specs)
    (hA : ∀ w', Keeps S w.drew w' → StreamOk w' S (k + W * calls.length) → ForVals S w' (fun a => wpList P L.toArray Q (st :: L.drop (m + 1)) a w') ds specs a0)
    (hB : ∀ w', Keeps S w.drew w' → StreamOk w' S (k + W * calls.length) → ForVals S w' (fun a => wpList P L.toArray Q (st :: od :: L.drop (m + 1)) a w') (ds.eraseIdx d) (specs.eraseIdx d) a0) : (Code.region id L.toArray true).wp P Q a0 w :=
  region_lateC S k W m d specs calls ds hm hc hc2 ht hd hlate hlen hds hst hod hsg h0 hstep hA (fun _ => hB)
/-- The same where operation m waits, through others, for all ahead of it (d: any one that is no call): one end goal. -/
theorem region_all {L : List Oper} {id : Nat} {a0 : Act} {w : World} (S k W m d : Nat) (specs : List Spec) (calls : List Nat) (ds : List (Option Tmp)) {st od : Oper} (hm : P.follows .mixedOrders = true) (hc : genChk L.toArray a0.tmps.size m calls = true) (hc2 : ((L.toArray.extract 0 (m + 1)).size == m + 1) = true) (ht : tailChk L.toArray (m + 1) = true) (hd : downChk L.toArray (m + 1) = true) (hlate : (lateAll (L.toArray.extract 0 (m + 1)) m && lateChk (L.toArray.extract 0 (m + 1)) m d) = true) (hlen : specs.length = m)
    (hds : (List.range m).map (dstOf L.toArray) = ds) (hst : L[m]? = some st) (hod : L[d]? = some od) (hsg : (st.guard.isNone && od.guard.isNone && decide (d ∉ calls)) = true) (h0 : StreamOk w S k)
    (hstep : LateOps P L.toArray (tailQ P L.toArray Q (m + 1)) a0 S k W w.drew specs calls 0 (L.take m) specs)
    (hA : ∀ w', Keeps S w.drew w' → StreamOk w' S (k + W * calls.length) → ForVals S w' (fun a => wpList P L.toArray Q (st :: L.drop (m + 1)) a w') ds specs a0) : (Code.region id L.toArray true).wp P Q a0 w := by
  rw [Bool.and_eq_true] at hlate
  exact region_lateC S k W m d specs calls ds hm hc hc2 ht hd hlate.2 hlen hds hst hod hsg h0 hstep hA (fun h => by rw [hlate.1] at h; cases h)
theorem heap_alloc_new (w : World) (o : Obj) : (w.alloc o).heap[w.heap.size]? = some o := by
  show (w.heap.push o)[w.heap.size]? = some o
  simp
/-- A new block behind a pointer. -/
theorem gen_box {o : Oper} {a : Act} {w : World} {K : Act → World → Prop} {S k : Nat} {p : World → Value → Prop} (cs : Array Value) (ty : TypeId) (h : (execOp a.eval o).run P w = .ok (.value (.pointer (some ⟨w.heap.size, 0, none⟩))) (w.alloc (.cells cs ty))) (hp : ∀ w', Keeps S (w.alloc (.cells cs ty)) w' → p w' (.pointer (some ⟨w.heap.size, 0, none⟩))) (hst : StreamOk w S k)
    (hK : ∀ v w', (Spec.mem p).holds S w' v → Keeps S w w' → StreamOk w' S k → K (a.put o.dst v) w') : Oper.wp P o a w K Q := by
  unfold Oper.wp; rw [h]
  exact hK _ _ hp ((Keeps.refl S w).alloc _) (hst.below (ext_alloc (Below.refl _ _)))
/-- What was there before, asked on a list (quick to reckon). -/
theorem fr_list {ops : Array Oper} {n : Nat} {R : Tmp → Prop} (h : ∀ t, ((ops.extract 0 n).all fun o => o.dst != some t) = true → R t) (t : Tmp) (hl : ((ops.toList.take n).all fun o => o.dst != some t) = true) : R t := by
  refine h t ?_
  rw [← Array.all_toList, Array.toList_extract, List.extract_eq_take_drop]
  simpa using hl
end
end Go.Proofs.YtkdadbpajhdelaaGreatDoor
