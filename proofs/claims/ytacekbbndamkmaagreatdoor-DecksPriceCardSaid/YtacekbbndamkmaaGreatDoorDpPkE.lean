/- What is proved here: lemmas and contracts for the statement, put together out of smaller texts (CarrTwo, DkpWrd, DkpLns, DkpStp, CarrDraw, RegionEnd). No condition beyond those stated. -/
import Derived.Test.YtacekbbndamkmaaGreatDoorDpPkC
import Derived.Test.YtacekbbndamkmaaGreatDoorDpPkD
import Derived.Test.YtacekbbndamkmaaGreatDoorDpPkB
import Derived.Maps.AppendAt
import Derived.Deep.DeepCutAuto
import Derived.Test.YtacekbbndamkmaaGreatDoorDpPkA
set_option linter.unusedVariables false
set_option linter.unusedSimpArgs false
namespace Go.Proofs.YtacekbbndamkmaaGreatDoor
open Go.RowKit

theorem gb_of_below {w w' : World} {row : Option Nat} (h : Below w.heap.size w w') : w.grownBy w' row := ⟨h.os, h.tape, h.output, h.size, fun k hk _ => h.block k hk⟩
theorem gb_below {w w1 w2 : World} {row : Option Nat} (h : w.grownBy w1 row) (hb : Below w1.heap.size w1 w2) : w.grownBy w2 row :=
  ⟨hb.os.trans h.os, hb.tape.trans h.tape, hb.output.trans h.output, Nat.le_trans h.size hb.size, fun k hk hn => (hb.block k (Nat.lt_of_lt_of_le hk h.size)).trans (h.block k hk hn)⟩
theorem gb_trans {w w1 w2 : World} {row : Option Nat} (h : w.grownBy w1 row) (hb : w1.grownBy w2 row) : w.grownBy w2 row :=
  ⟨hb.os.trans h.os, hb.tape.trans h.tape, hb.output.trans h.output, Nat.le_trans h.size hb.size, fun k hk hn => (hb.block k (Nat.lt_of_lt_of_le hk h.size) hn).trans (h.block k hk hn)⟩
theorem gb_to_below {w w' : World} {row : Option Nat} {base : Nat} (h : w.grownBy w' row) (hb : base ≤ w.heap.size) (hr : ∀ b, row = some b → base ≤ b) : Below base w w' :=
  ⟨h.os, h.tape, h.output, h.size, fun k hk => h.block k (by omega) fun e => by have := hr k e.symm; omega⟩
theorem gb_alloc {w w' : World} {o : Obj} {row : Option Nat} (h : (w.alloc o).grownBy w' row) : w.grownBy w' row := gb_trans (gb_of_below (ext_alloc (Below.refl _ _))) h
theorem own_gb {w w' : World} {row : Option Nat} {base e size : Nat} {v : Value} {n : Nat} {xs : List Value} (h : w.ownsRow base e size v n xs) (hg : w.grownBy w' row) (hd : ∀ b, v.ownBlock = some b → row ≠ some b) : w'.ownsRow base e size v n xs := by
  refine ⟨h.1, h.2.imp id ?_⟩
  rintro ⟨g, cap, cur, rfl, h1, h2, h3⟩
  exact ⟨g, cap, cur, rfl, h1, (hg.block g (Array.getElem?_eq_some_iff.1 h2).1 (fun e => hd g rfl e.symm)).trans h2, h3⟩
/-- Rows of different elements lie in different blocks; a row is no box of another kind. -/
theorem own_types {w : World} {base base' e e' size size' : Nat} {v v' : Value} {n n' : Nat} {xs xs' : List Value} (h : w.ownsRow base e size v n xs) (h2 : w.ownsRow base' e' size' v' n' xs') (hne : e ≠ e') : ∀ b, v.ownBlock = some b → v'.ownBlock ≠ some b := by
  intro b hb hb'
  rcases h.2 with ⟨rfl, _⟩ | ⟨g, cap, cur, rfl, _, hg, _⟩
  · cases hb
  rcases h2.2 with ⟨rfl, _⟩ | ⟨g', cap', cur', rfl, _, hg', _⟩
  · cases hb'
  injection hb with hb
  injection hb' with hb'
  simp only at hb hb'
  subst hb; subst hb'
  rw [hg] at hg'
  injection hg' with hg'
  injection hg' with _ h9
  exact hne h9
theorem own_blk {w : World} {base e size : Nat} {v : Value} {n : Nat} {xs : List Value} (h : w.ownsRow base e size v n xs) {X : Nat} {cs : List Value} {ty : TypeId} (hX : Blk w X cs ty) (hne : e ≠ ty) : v.ownBlock ≠ some X := by
  intro hb
  rcases h.2 with ⟨rfl, _⟩ | ⟨g, cap, cur, rfl, _, hg, _⟩
  · cases hb
  injection hb with hb
  simp only at hb
  subst hb
  rw [hX.at_] at hg
  injection hg with hg
  injection hg with _ h9
  exact hne h9.symm
theorem own_before {w : World} {base e size : Nat} {v : Value} {n : Nat} {xs : List Value} (h : w.ownsRow base e size v n xs) {X : Nat} (hX : w.heap.size ≤ X) : v.ownBlock ≠ some X := fun hb => by
  have := (h.lt X hb).2
  omega
/-- Cells written above a beginning of a row. -/
theorem setCells_gb {w : World} (g : Nat) : ∀ (L : List Value) (o : Nat), w.grownBy (w.setCells g o L) (some g) := by
  intro L
  induction L generalizing w with
  | nil => intro o; exact gb_of_below (Below.refl _ _)
  | cons v L ih =>
    intro o
    refine gb_trans ?_ (ih (w := w.setCell ⟨g, o, none⟩ v) (o + 1))
    refine ⟨rfl, rfl, rfl, by simp [World.setCell], fun k hk hn => Below.heap_setCell _ _ _ _ (fun e => hn (by rw [e]))⟩
theorem own_above {base e size g n cap : Nat} : ∀ (L : List Value) (w : World) (xs : List Value) (o m : Nat), w.ownsRow base e size (.slice (some ⟨g, 0, none⟩) n cap) n xs → m ≤ o → ∃ ys, (w.setCells g o L).ownsRow base e size (.slice (some ⟨g, 0, none⟩) n cap) n ys ∧ ys.take m = xs.take m
  | [], w, xs, o, m, h, _ => ⟨xs, h, rfl⟩
  | v :: L, w, xs, o, m, h, hm => by
    obtain ⟨ys, h1, h2⟩ := own_above L (w.setCell ⟨g, o, none⟩ v) (xs.set o v) (o + 1) m (h.stored o v).1 (by omega)
    exact ⟨ys, h1, by rw [h2, List.take_set_of_le hm]⟩
theorem own_cutK {w : World} {base B cap n m k : Nat} {e : TypeId} {xs : List Value} (h : w.ownsRow base e k (.slice (some ⟨B, 0, none⟩) n cap) n xs) (hm : m ≤ n) : w.ownsRow base e k (.slice (some ⟨B, 0, none⟩) m cap) m (xs.take (m * k)) := by
  have h1 := h.1
  have hk : m * k ≤ n * k := Nat.mul_le_mul_right k hm
  rcases h.2 with ⟨h0, _⟩ | ⟨g, cap', cur, h0, hb, hg, hn, hc, hs, ht⟩
  · cases h0
  · injection h0 with e1 _ e3
    injection e1 with e1
    injection e1 with e1
    subst e1 e3
    refine ⟨by rw [List.length_take]; omega, .inr ⟨B, cap, cur, rfl, hb, hg, by omega, hc, hs, ?_⟩⟩
    rw [← ht, List.take_take, Nat.min_eq_left hk]
theorem flat_take {α : Type} (f : α → List Value) (k : Nat) (hk : ∀ x, (f x).length = k) : ∀ (l : List α) (m : Nat), m ≤ l.length → ((l.map f).flatten).take (m * k) = ((l.take m).map f).flatten
  | l, 0, _ => by simp
  | [], m + 1, h => by simp at h
  | x :: l, m + 1, h => by
    rw [List.map_cons, List.flatten_cons, List.take_succ_cons, List.map_cons, List.flatten_cons]
    rw [show (m + 1) * k = (f x).length + m * k by rw [hk, Nat.add_mul]; omega, List.take_append]
    rw [List.take_of_length_le (by omega), Nat.add_sub_cancel_left, flat_take f k hk l m (by simpa using h)]
theorem run_clear_any (w : World) (t e : TypeId) (z : Value) (ht : Tryz.prog.underlying t = some (.slice e)) (hv : ∀ w, (zeroValue e).run Tryz.prog w = .ok z w) (hz : 0 < z.cells.size) (h1 : ∀ i : Nat, Value.oneCell' (z.cells[i]!) = true) (b o n c : Nat) (hn : 0 < n)
    (hc : ∀ j, j < n * z.cells.size → (w.cell? ⟨b, o + j, none⟩).isSome = true) (hf : ∀ j, j < n * z.cells.size → w.frozen? ⟨b, o + j, none⟩ = false) :
    ∃ L, ∀ ty : TypeId, (Builtin.clear_ #[t] ty #[.slice (some ⟨b, o, none⟩) n c]).run Tryz.prog w = .ok (.tuple #[]) (w.setCells b o L) := by
  refine ⟨(Builtin.zeroCells z.cells n).toList, fun ty => ?_⟩
  have hl : (Builtin.zeroCells z.cells n).size = n * z.cells.size := by simp [Builtin.zeroCells]
  have hst := run_storeCells_cells (P := Tryz.prog) b o (Builtin.zeroCells z.cells n).toList 0 w (by rw [Array.length_toList, hl]; simpa using hc) (by rw [Array.length_toList, hl]; simpa using hf) (by
    intro v hv'
    obtain ⟨i, hi, rfl⟩ := List.getElem_of_mem hv'
    simp only [Builtin.zeroCells, Array.getElem_toList, Array.getElem_map]
    exact h1 _)
  simp only [Nat.add_zero] at hst
  obtain ⟨m, rfl⟩ : ∃ m, n = m + 1 := ⟨n - 1, by omega⟩
  simp [Builtin.clear_, run_underlying ht, hv, hst]
theorem wpList_doneT {P : Program} {ops : Array Oper} {rest : List Oper} {o : Oper} {a : Act} {w w' : World} {Q : Exit → Act → World → Prop} (hg : o.guard = none) (h : (execOp a.eval o).run P w = .ok .skip w') (hK : wpList P ops Q rest (a.put o.dst undef) w') : wpList P ops Q (o :: rest) a w :=
  wpList_plain hg fun K hK' => wp_skip h (hK' _ _ hK)
end Go.Proofs.YtacekbbndamkmaaGreatDoor

set_option linter.unusedVariables false
set_option linter.unusedSimpArgs false
namespace Go.Proofs.YtacekbbndamkmaaGreatDoor
open Go.RowKit

theorem Tryz.infoIntD : (Tryz.prog.info? 3).map (fun i => (i.zero, i.size, i.bytes)) = some (some (.int .i64 0), 1, 8) := by kernel_rfl
/-- What of the library lies ahead of block S. -/
structure LibsW (S : Nat) (w : World) : Prop where
  tab : TabW S w
  max_ : ∃ m : Int, w.cell? ⟨0, 0, none⟩ = some (.int .i64 m)
  lt : 0 < S
theorem LibsW.block {S : Nat} {w w' : World} (h : LibsW S w) (h1 : w'.heap[1]? = w.heap[1]?) (h2 : w'.heap[0]? = w.heap[0]?) : LibsW S w' := by
  obtain ⟨m, hm⟩ := h.max_
  refine ⟨tab_block h.tab h1, ⟨m, ?_⟩, h.lt⟩
  rw [← hm]
  unfold World.cell?
  rw [h2]
theorem LibsW.keeps {S : Nat} {w w' : World} (h : LibsW S w) (hk : Keeps S w w') (hS : S < w.heap.size) : LibsW S w' :=
  h.block (hk.block _ (Nat.lt_trans h.tab.2 hS) (Nat.ne_of_lt h.tab.2)) (hk.block _ (Nat.lt_trans h.lt hS) (Nat.ne_of_lt h.lt))
theorem LibsW.below {S B : Nat} {w w' : World} (h : LibsW S w) (hb : Below B w w') (hS : S ≤ B) : LibsW S w' :=
  h.block (hb.block _ (Nat.lt_of_lt_of_le h.tab.2 hS)) (hb.block _ (Nat.lt_of_lt_of_le h.lt hS))
/-- The words of a line. -/
def wordsL (s : List UInt8) : List (List UInt8) := (Lib.splitB ⟨#[32]⟩ 0 (Lib.countB ⟨s.toArray⟩ ⟨#[32]⟩) ⟨s.toArray⟩).map (·.data.toList)
theorem wordsL_len (s : List UInt8) : (wordsL s).length = Lib.countB ⟨s.toArray⟩ ⟨#[32]⟩ + 1 := by
  unfold wordsL
  rw [List.length_map]
  exact Lib.splitB_all ⟨#[32]⟩ (by decide) 0 _ ⟨s.toArray⟩ rfl
theorem wordsL_few (s : List UInt8) : (wordsL s).length ≤ s.length + 1 := by
  have hle := Lib.countB_le ⟨#[32]⟩ (by decide) (⟨s.toArray⟩ : ByteArray).size ⟨s.toArray⟩ (Nat.le_refl _)
  rw [size_l] at hle
  rw [wordsL_len]
  omega
theorem splitK_le (sep : List UInt8) : ∀ (k : Nat) (s : List UInt8), ∀ x ∈ Lib.splitK sep 0 k s, x.length ≤ s.length
  | 0, s, x, h => by
    unfold Lib.splitK at h
    rw [List.mem_singleton.1 h]
    exact Nat.le_refl _
  | k + 1, s, x, h => by
    unfold Lib.splitK at h
    split at h
    · rw [List.mem_singleton.1 h]
      exact Nat.le_refl _
    · rcases List.mem_cons.1 h with h | h
      · rw [h, List.length_take]; omega
      · have := splitK_le sep k _ x h
        rw [List.length_drop] at this
        omega
theorem wordsL_le (s : List UInt8) (i : Nat) : ((wordsL s).getD i []).length ≤ s.length := by
  by_cases hi : i < (wordsL s).length
  · have e : wordsL s = Lib.splitK [32] 0 (Lib.countB ⟨s.toArray⟩ ⟨#[32]⟩) s := Lib.splitB_data ⟨#[32]⟩ 0 _ ⟨s.toArray⟩
    have hm : (wordsL s).getD i [] ∈ wordsL s := mem_getD [] hi
    generalize (wordsL s).getD i [] = x at hm
    rw [e] at hm
    exact splitK_le [32] _ s x hm
  · rw [List.getD_eq_getElem?_getD, List.getElem?_eq_none (by omega)]
    simp
theorem words_cells (s : List UInt8) : (Lib.splitB ⟨#[32]⟩ 0 (Lib.countB ⟨s.toArray⟩ ⟨#[32]⟩) ⟨s.toArray⟩).map Value.string = (wordsL s).map encS := by
  unfold wordsL
  rw [List.map_map]
  refine List.map_congr_left fun b _ => ?_
  show Value.string b = .string ⟨b.data.toList.toArray⟩
  rw [Array.toArray_toList]
theorem splitBl_any (s : List UInt8) (hs : s.length ≤ 1000000) (S : Nat) (w : World) (hL : LibsW S w) : Calls Tryz.prog 78 #[.string ⟨s.toArray⟩, .string ⟨#[32]⟩] w fun e w' => e = .returned (.slice (some ⟨w.heap.size, 0, none⟩) (wordsL s).length (wordsL s).length) ∧ w'.ownsRow w.heap.size 9 1 (.slice (some ⟨w.heap.size, 0, none⟩) (wordsL s).length (wordsL s).length) (wordsL s).length ((wordsL s).map encS) ∧ Below w.heap.size w w' := by
  obtain ⟨m, hm⟩ := hL.max_
  refine (Tryz.strings_SplitT ⟨s.toArray⟩ ⟨#[32]⟩ m w (by rw [size_l]; omega) hm (by decide)).mono ?_
  rintro e w' ⟨rfl, rfl⟩
  rw [wordsL_len, words_cells]
  refine ⟨rfl, ?_, ext_alloc (Below.refl _ _)⟩
  have hle := Lib.countB_le ⟨#[32]⟩ (by decide) (⟨s.toArray⟩ : ByteArray).size ⟨s.toArray⟩ (Nat.le_refl _)
  rw [size_l] at hle
  have := World.ownsRow_lit (base := w.heap.size) (e := 9) (size := 1) w ((wordsL s).map encS).toArray (Lib.countB ⟨s.toArray⟩ ⟨#[32]⟩ + 1) (Nat.le_refl _) (by simp only [maxLen]; omega) (by rw [Nat.mul_one, List.size_toArray, List.length_map, wordsL_len])
  simpa using this
def fullW (xs : List (List UInt8)) : Bool := xs.all fun x => !x.isEmpty
theorem fullW_true {xs : List (List UInt8)} (h : ∀ i, i < xs.length → xs.getD i [] ≠ []) : fullW xs = true := by
  unfold fullW
  rw [List.all_eq_true]
  intro x hx
  obtain ⟨i, hi, rfl⟩ := List.getElem_of_mem hx
  have h1 := h i hi
  rw [List.getD_eq_getElem?_getD, List.getElem?_eq_getElem hi] at h1
  simpa using h1
theorem fullW_false {xs : List (List UInt8)} {i : Nat} (hi : i < xs.length) (h : xs.getD i [] = []) : fullW xs = false := by
  cases hf : fullW xs with
  | false => rfl
  | true =>
    unfold fullW at hf
    have h1 := List.all_eq_true.1 hf (xs.getD i []) (mem_getD [] hi)
    rw [h] at h1
    cases h1
/-- What Words answers. -/
def WordsPost (xs : List (List UInt8)) (w : World) (e : Ending) (w' : World) : Prop := (fullW xs = true → ∃ g : Nat, e = .returned (.tuple #[.slice (some ⟨g, 0, none⟩) xs.length xs.length, .bool true]) ∧ w'.ownsRow w.heap.size 9 1 (.slice (some ⟨g, 0, none⟩) xs.length xs.length) xs.length (xs.map encS)) ∧ (fullW xs = false → e = .returned (.tuple #[.slice none 0 0, .bool false])) ∧ Below w.heap.size w w'
set_option maxRecDepth 100000 in
set_option maxHeartbeats 4000000 in
theorem wordsBl_any (s : List UInt8) (hs : s.length ≤ 1000000) (S : Nat) (w : World) (hL : LibsW S w) : Calls Tryz.prog 103 #[.string ⟨s.toArray⟩] w (WordsPost (wordsL s) w) := by
  have HSP := Lib.hid (splitBl_any s hs S w hL)
  have hwl : ∀ i, ((wordsL s).getD i []).length ≤ 1000000 := fun i => Nat.le_trans (wordsL_le s i) hs
  have HWL := Lib.hid hwl
  have hxn := wordsL_few s
  clear hwl hL
  generalize wordsL s = xs at HSP HWL hxn ⊢
  go_enter Tryz.func103, Tryz.ntmps103
  as_aux_lemma =>
    go_wp2_with fail
    refine HSP.out.mono ?_
    rintro e w1 ⟨rfl, ho, hb⟩
    have HO := Lib.hid ho
    have HB := Lib.hid hb
    clear ho hb HSP
    have HWP : Hid (fullW xs = true → ∀ W, Below w1.heap.size w1 W → WordsPost xs w (.returned (.tuple #[.slice (some ⟨w.heap.size, 0, none⟩) xs.length xs.length, .bool true])) W) := fun h W hW => ⟨(fun _ => ⟨_, rfl, own_keep HO.out hW⟩), (fun h9 => (by rw [h] at h9; cases h9)), ext_trans HB.out hW⟩
    generalize w.heap.size = g at HO HWP ⊢
    as_aux_lemma =>
      go_wp2_with fail
      go_loopw [11] (fun it wr => ∃ i : Nat, i ≤ xs.length ∧ it = .int .i64 i ∧ Hid (∀ j, j < i → xs.getD j [] ≠ []) ∧ Hid (Below w1.heap.size w1 wr)) (fun it _ => xs.length - (intOf it).toNat)
      case atStart => exact ⟨0, Nat.zero_le _, rfl, (fun j h => by omega), Below.refl _ _⟩
      case round =>
        obtain ⟨i, hin, rfl, HN, HW⟩ := hrel
        by_cases hlt : i < xs.length
        case neg =>
          have hnn : ¬ (i : Int) < (xs.length : Int) := by omega
          have hf : fullW xs = true := fullW_true fun j hj => HN.out j (by omega)
          have HE : Hid (WordsPost xs w (.returned (.tuple #[.slice (some ⟨g, 0, none⟩) xs.length xs.length, .bool true])) wr) := HWP.out hf wr HW.out
          as_aux_lemma =>
            go_wp2_with fail
            go_ret2
            exact HE.out
        have hlti : (i : Int) < (xs.length : Int) := by omega
        have c0 : wr.cell? ⟨g, i, none⟩ = some (.string ⟨(xs.getD i []).toArray⟩) := by
          rw [(own_keep HO.out HW.out).cellAt i (by omega)]
          simp [encS, List.getD_eq_getElem?_getD, hlt]
        have hxl := HWL.out i
        have HFF : Hid (xs.getD i [] = [] → fullW xs = false) := fullW_false hlt
        have HNX : Hid (xs.getD i [] ≠ [] → ∀ j, j < i + 1 → xs.getD j [] ≠ []) := fun h j hj => by
          rcases Nat.lt_succ_iff_lt_or_eq.1 hj with h9 | rfl
          · exact HN.out j h9
          · exact h
        generalize xs.getD i [] = x at c0 hxl HFF HNX
        cases x with
        | nil =>
          have HE : Hid (WordsPost xs w (.returned (.tuple #[.slice none 0 0, .bool false])) wr) := ⟨(fun h => (by rw [HFF.out rfl] at h; cases h)), (fun _ => rfl), ext_trans HB.out HW.out⟩
          as_aux_lemma =>
            go_wp2_with fail
            go_ret2
            exact HE.out
        | cons y x =>
          have HN2 := Lib.hid (HNX.out (by simp))
          clear HNX HFF HN
          as_aux_lemma =>
            go_wp2_with fail
            go_roundw
            case rel => exact ⟨i + 1, by omega, by go_num, HN2.out, HW.out⟩
            case measure => simp [intOf]; omega
theorem bl_dkw0 (e : Operand → Value) (he : ∀ v, e (.const v) = v) (o : Oper) (w : World) (i0 : Nat) (z0 : Int) (ho : o.op = .buildSlice 22 1 #[(0, .tmp i0)]) (h0 : e (.tmp i0) = .int .i64 z0) :
   (execOp e o).run Tryz.prog w = .ok (.value (.slice (some ⟨w.heap.size, 0, none⟩) 1 1)) (w.alloc (.cells #[.int .i64 z0] 3)) := by
  unfold execOp
  rw [ho]
  simp only [List.map_toArray, List.map_cons, List.map_nil, h0]
  kernel_rfl
/-- Strings that lie in a row. -/
structure StrAt (w : World) (g o : Nat) (xs : List (List UInt8)) : Prop where
  lt : g < w.heap.size
  cell : ∀ i, i < xs.length → w.cell? ⟨g, o + i, none⟩ = some (.string ⟨(xs.getD i []).toArray⟩)
theorem StrAt.below {w w' : World} {g o : Nat} {xs : List (List UInt8)} (h : StrAt w g o xs) (hb : Below w.heap.size w w') : StrAt w' g o xs :=
  ⟨Nat.lt_of_lt_of_le h.lt hb.size, fun i hi => (hb.cell (p := ⟨g, o + i, none⟩) h.lt).trans (h.cell i hi)⟩
theorem StrAt.of_own {w : World} {base g c : Nat} {n : Nat} {xs : List (List UInt8)} (h : w.ownsRow base 9 1 (.slice (some ⟨g, 0, none⟩) n c) n (xs.map encS)) (o : Nat) : StrAt w g o (xs.drop o) ∨ xs.drop o = [] := by
  have hl : xs.length = n := by have := h.1; simpa using this
  by_cases ho : o < xs.length
  · left
    refine ⟨(h.lt g rfl).2, fun i hi => ?_⟩
    rw [List.length_drop] at hi
    rw [h.cellAt (o + i) (by omega)]
    simp [encS, List.getD_eq_getElem?_getD, List.getElem?_drop, show o + i < xs.length by omega]
  · exact Or.inr (List.drop_eq_nil_of_le (by omega))
def allNum (xs : List (List UInt8)) : Bool := xs.all numOk
theorem allNum_true {xs : List (List UInt8)} (h : ∀ i, i < xs.length → numOk (xs.getD i []) = true) : allNum xs = true := by
  unfold allNum
  rw [List.all_eq_true]
  intro x hx
  obtain ⟨i, hi, rfl⟩ := List.getElem_of_mem hx
  have h1 := h i hi
  rwa [List.getD_eq_getElem?_getD, List.getElem?_eq_getElem hi] at h1
theorem allNum_false {xs : List (List UInt8)} {i : Nat} (hi : i < xs.length) (h : numOk (xs.getD i []) = false) : allNum xs = false := by
  cases hf : allNum xs with
  | false => rfl
  | true =>
    unfold allNum at hf
    have h1 := List.all_eq_true.1 hf (xs.getD i []) (mem_getD [] hi)
    rw [h] at h1
    cases h1
def numsV (xs : List (List UInt8)) : List Value := xs.map fun x => .int .i64 (numZ x)
/-- What Numbers answers. -/
def NumsPost (xs : List (List UInt8)) (w : World) (e : Ending) (w' : World) : Prop := (allNum xs = true → ∃ v, e = .returned (.tuple #[v, .bool true]) ∧ w'.ownsRow w.heap.size 3 1 v xs.length (numsV xs)) ∧ (allNum xs = false → e = .returned (.tuple #[.slice none 0 0, .bool false])) ∧ Below w.heap.size w w'
set_option maxRecDepth 100000 in
set_option maxHeartbeats 4000000 in
theorem numbers12_any (xs : List (List UInt8)) (w : World) (g o c : Nat) (hn : xs.length ≤ 1000000) (hx : 0 < xs.length → StrAt w g o xs) (hl : ∀ i, (xs.getD i []).length ≤ 1000000) : Calls Tryz.prog 104 #[.slice (some ⟨g, o, none⟩) xs.length c, .int .i64 12] w (NumsPost xs w) := by
  obtain ⟨i0, hi, hz0, hz1, hz2⟩ := info_parts Tryz.infoIntD
  have HX := Lib.hid hx
  have HL := Lib.hid hl
  clear hx hl
  go_enter Tryz.func104, Tryz.ntmps104
  as_aux_lemma =>
    go_wp2_with fail
    go_loopw [6, 13] (fun vo it wr => ∃ i : Nat, i ≤ xs.length ∧ it = .int .i64 i ∧ Hid (∀ j, j < i → numOk (xs.getD j []) = true) ∧ Hid (wr.ownsRow w.heap.size 3 1 vo i (numsV (xs.take i))) ∧ Hid (Below w.heap.size w wr)) (fun _ it _ => xs.length - (intOf it).toNat)
    case atStart => exact ⟨0, Nat.zero_le _, rfl, (fun j h => by omega), World.ownsRow_nil _ _ _ _, Below.refl _ _⟩
    case round =>
      obtain ⟨i, hin, rfl, HN, HO, HB⟩ := hrel
      obtain ⟨vo, rfl⟩ : ∃ x : Value, x = u6 := ⟨_, rfl⟩
      by_cases hlt : i < xs.length
      case neg =>
        have hii : i = xs.length := by omega
        have hnn : ¬ (i : Int) < (xs.length : Int) := by omega
        have hf : allNum xs = true := allNum_true fun j hj => HN.out j (by omega)
        have HE : Hid (NumsPost xs w (.returned (.tuple #[vo, .bool true])) wr) := by
          have h9 := HO.out
          rw [hii, List.take_length] at h9
          exact ⟨(fun _ => ⟨vo, rfl, h9⟩), (fun h => (by rw [hf] at h; cases h)), HB.out⟩
        clear HN HO HB hf
        as_aux_lemma =>
          go_wp2_with fail
          go_ret2
          exact HE.out
      have hlti : (i : Int) < (xs.length : Int) := by omega
      have hxw := (HX.out (by omega)).below HB.out
      have c0 := hxw.cell i hlt
      have HNB := Lib.hid (fun W : World => number12_any (xs.getD i []) W (HL.out i))
      have HFF : Hid (numOk (xs.getD i []) = false → allNum xs = false) := allNum_false hlt
      have HNX : Hid (numOk (xs.getD i []) = true → ∀ j, j < i + 1 → numOk (xs.getD j []) = true) := fun h j hj => by
        rcases Nat.lt_succ_iff_lt_or_eq.1 hj with h9 | rfl
        · exact HN.out j h9
        · exact h
      have HST : Hid (numsV (xs.take (i + 1)) = numsV (xs.take i) ++ [.int .i64 (numZ (xs.getD i []))]) := by
        show _ = _
        unfold numsV
        rw [List.take_add_one, List.getElem?_eq_getElem hlt, List.map_append]
        simp [List.getD_eq_getElem?_getD, hlt]
      clear hxw HN
      generalize xs.getD i [] = x at c0 HNB HFF HNX HST
      have HNB2 : Hid (∀ W, Calls Tryz.prog 105 #[.string ⟨x.toArray⟩, .int .i64 12] W fun e w' => e = .returned (.tuple #[.int .i64 (if numOk x = true then numZ x else 0), .bool (numOk x)]) ∧ Below W.heap.size W w') := fun W => HNB.out W
      clear HNB
      generalize numZ x = z at HNB2 HST
      cases hnx : numOk x with
      | false =>
        rw [hnx] at HNB2
        have HNB3 : Hid (∀ W, Calls Tryz.prog 105 #[.string ⟨x.toArray⟩, .int .i64 12] W fun e w' => e = .returned (.tuple #[.int .i64 0, .bool false]) ∧ Below W.heap.size W w') := HNB2.out
        have HF := Lib.hid (HFF.out hnx)
        clear HFF HNX HST HNB2 hnx
        as_aux_lemma =>
          go_wp2_with fail
          refine (HNB3.out wr).mono ?_
          rintro e w2 ⟨rfl, hb2⟩
          have HE : Hid (NumsPost xs w (.returned (.tuple #[.slice none 0 0, .bool false])) w2) := ⟨(fun h => (by rw [HF.out] at h; cases h)), (fun _ => rfl), ext_trans HB.out hb2⟩
          clear hb2 HO HB HF
          as_aux_lemma =>
            go_wp2_with fail
            go_ret2
            exact HE.out
      | true =>
        rw [hnx] at HNB2
        have HNB3 : Hid (∀ W, Calls Tryz.prog 105 #[.string ⟨x.toArray⟩, .int .i64 12] W fun e w' => e = .returned (.tuple #[.int .i64 z, .bool true]) ∧ Below W.heap.size W w') := HNB2.out
        have HN2 := Lib.hid (HNX.out hnx)
        clear HFF HNX HNB2 hnx
        as_aux_lemma =>
          go_wp2_with fail
          refine (HNB3.out wr).mono ?_
          rintro e w2 ⟨rfl, hb2⟩
          have HB2 := Lib.hid (ext_trans HB.out hb2)
          have hoz := own_keep HO.out hb2
          obtain ⟨oa, oc, rfl⟩ := own_shape hoz
          have hrow : w.heap.size ≤ w2.heap.size := HB2.out.size
          have HOA : Hid (World.ownsRow (w2.alloc (.cells #[.int .i64 z] 3)) w.heap.size 3 1 (.slice oa i oc) i (numsV (xs.take i))) := World.ownsRow.alloc hoz (.cells #[.int .i64 z] 3)
          have HNA : Hid (Blk (w2.alloc (.cells #[.int .i64 z] 3)) w2.heap.size [.int .i64 z] 3) := Blk.new w2 [.int .i64 z] 3
          have hvw : ∀ b, (Value.slice oa i oc).ownBlock = some b → w.heap.size ≤ b := fun b e => (hoz.lt b e).1
          clear hoz hb2 HO HB HNB3
          as_aux_lemma =>
            go_wp2_with (first | (refine wpList_val rfl (bl_dkw0 _ (fun _ => rfl) _ _ 26 z rfl rfl) ?_) | (at_builtin; go_loud (refine wpList_append_own_at _ rfl (.tmp 25) (.tmp 27) 22 rfl w.heap.size 3 i0 _ 1 8 Tryz.underlying22 hi hz0 hz1 hz2 rfl (by omega) (.slice oa i oc) i _ rfl HOA.out ⟨w2.heap.size, 0, none⟩ 1 1 [.int .i64 z] rfl rfl (fun j u hj => by rw [add0]; exact HNA.out.cell j hj) (by simp [Value.oneCell']) (by simp only [maxLen]; omega) (by omega) (by simp; omega) ?_); intro v12 w12 hown12 hgr12 _ hat12; have HQ1 := Lib.hid hown12; have HQ2 := Lib.hid hgr12; clear hown12 hgr12 hat12 HOA HNA; refine Hid.out ?_))
            refine Lib.hid ?_
            have HO12 : Hid (w12.ownsRow w.heap.size 3 1 v12 (i + 1) (numsV (xs.take (i + 1)))) := by
              show World.ownsRow _ _ _ _ _ _ _
              rw [HST.out]
              exact HQ1.out
            have HB12 : Hid (Below w.heap.size w w12) := HB2.out.trans (upto_grown HQ2.out hrow hvw)
            clear HQ1 HQ2 HB2 HST
            as_aux_lemma =>
              go_wp2_with fail
              go_roundw
              case rel => exact ⟨i + 1, by omega, by go_num, HN2.out, HO12.out, HB12.out⟩
              case measure => simp [intOf]; omega
end Go.Proofs.YtacekbbndamkmaaGreatDoor

set_option linter.unusedVariables false
set_option linter.unusedSimpArgs false
namespace Go.Proofs.YtacekbbndamkmaaGreatDoor
open Go.RowKit

/-- What the lines of a text come to: the state, the number of the line that was wrong, whether none was. -/
inductive LinesTo {σ : Type} (step : σ → List UInt8 → σ × Bool) : σ → List UInt8 → Nat → σ × Nat × Bool → Prop
  | done (st : σ) (i : Nat) : LinesTo step st [] i (st, 0, true)
  | open_ (st : σ) (t : List UInt8) (i : Nat) (h : t ≠ []) (h1 : (Lib.cut t [10]).2.2 = false) : LinesTo step st t i (st, i, false)
  | stop (st : σ) (t : List UInt8) (i : Nat) (h : t ≠ []) (h1 : (Lib.cut t [10]).2.2 = true) (h2 : (step st (Lib.cut t [10]).1).2 = false) : LinesTo step st t i ((step st (Lib.cut t [10]).1).1, i, false)
  | next (st : σ) (t : List UInt8) (i : Nat) (res : σ × Nat × Bool) (h : t ≠ []) (h1 : (Lib.cut t [10]).2.2 = true) (h2 : (step st (Lib.cut t [10]).1).2 = true) (h3 : LinesTo step (step st (Lib.cut t [10]).1).1 (Lib.cut t [10]).2.1 (i + 1) res) : LinesTo step st t i res
theorem lines_same {σ : Type} {step : σ → List UInt8 → σ × Bool} {st : σ} {t : List UInt8} {i : Nat} {r1 r2 : σ × Nat × Bool} (h : LinesTo step st t i r1) : LinesTo step st t i r2 → r1 = r2 := by
  induction h with
  | done st i =>
    intro h2
    cases h2 with
    | done => rfl
    | open_ _ _ _ h _ => exact absurd rfl h
    | stop _ _ _ h _ _ => exact absurd rfl h
    | next _ _ _ _ h _ _ _ => exact absurd rfl h
  | open_ st t i h h1 =>
    intro h2
    cases h2 with
    | done => exact absurd rfl h
    | open_ => rfl
    | stop _ _ _ _ q _ => rw [h1] at q; cases q
    | next _ _ _ _ _ q _ _ => rw [h1] at q; cases q
  | stop st t i h h1 h3 =>
    intro h2
    cases h2 with
    | done => exact absurd rfl h
    | open_ _ _ _ _ q => rw [h1] at q; cases q
    | stop => rfl
    | next _ _ _ _ _ _ q _ => rw [h3] at q; cases q
  | next st t i res h h1 h3 h4 ih =>
    intro h2
    cases h2 with
    | done => exact absurd rfl h
    | open_ _ _ _ _ q => rw [h1] at q; cases q
    | stop _ _ _ _ _ q => rw [h3] at q; cases q
    | next _ _ _ _ _ _ _ q => exact ih q
theorem cutNl_len {t : List UInt8} (h : (Lib.cut t [10]).2.2 = true) : (Lib.cut t [10]).1.length + 1 + (Lib.cut t [10]).2.1.length = t.length := by
  unfold Lib.cut at h ⊢
  split
  · rename_i h0
    have hr := Lib.index_room t [10] h0
    simp only [List.length_take, List.length_drop, List.length_singleton] at hr ⊢
    omega
  · rename_i h0
    rw [if_neg h0] at h
    cases h
theorem cutNl_any (t : List UInt8) (ht : t.length ≤ 1000000) (S : Nat) (w : World) (hL : LibsW S w) : Calls Tryz.prog 102 #[.string ⟨t.toArray⟩, .string ⟨#[10]⟩] w fun e w' => e = .returned (.tuple #[.string ⟨(Lib.cut t [10]).1.toArray⟩, .string ⟨(Lib.cut t [10]).2.1.toArray⟩, .bool (Lib.cut t [10]).2.2]) ∧ Below w.heap.size w w' := by
  obtain ⟨m, hm⟩ := hL.max_
  refine (Tryz.strings_CutT ⟨t.toArray⟩ ⟨#[10]⟩ m w (by rw [size_l]; omega) hm).mono ?_
  rintro e w' ⟨rfl, n, rfl⟩
  exact ⟨rfl, ext_drewN (Below.refl _ _)⟩
def strLen : Value → Nat
  | .string s => s.size
  | _ => 0
set_option maxRecDepth 100000 in
set_option maxHeartbeats 8000000 in
theorem linesC_any {σ : Type} (step : σ → List UInt8 → σ × Bool) (R : σ → World → Prop) (Q : σ → Nat → Prop) (S B T : Nat) (hcall : ∀ st m line W, R st W → Q st m → m + line.length ≤ 100000 → LibsW S W → B ≤ W.heap.size → Calls Tryz.prog 75 #[.pointer (some ⟨T, 0, none⟩), .string ⟨line.toArray⟩] W fun e W' => e = .returned (.bool (step st line).2) ∧ ((step st line).2 = true → R (step st line).1 W') ∧ Below B W W')
    (hR : ∀ st W W', R st W → Below W.heap.size W W' → R st W') (hQ : ∀ st m line, Q st m → m + line.length ≤ 100000 → (step st line).2 = true → Q (step st line).1 (m + line.length + 1)) (t0 : List UInt8) (ht0 : t0.length ≤ 100000) (st0 : σ) (w : World) (h0 : R st0 w) (hq0 : Q st0 0) (hL : LibsW S w) (hSB : S ≤ B) (hB : B ≤ w.heap.size) :
    Calls Tryz.prog 74 #[.string ⟨t0.toArray⟩, .func (.func 75) #[.pointer (some ⟨T, 0, none⟩)] #[]] w fun e w' => ∃ st k b, LinesTo step st0 t0 0 (st, k, b) ∧ e = .returned (.tuple #[.int .i64 (k : Nat), .bool b]) ∧ (b = true → R st w') ∧ (b = true → ∃ m, m ≤ t0.length ∧ Q st m) ∧ Below B w w' := by
  have HC := Lib.hid hcall
  have HR := Lib.hid hR
  have HQ := Lib.hid hQ
  have H0 := Lib.hid h0
  have HQ0 := Lib.hid hq0
  have HL := Lib.hid hL
  clear hcall hR hQ h0 hq0 hL
  have HEND : Hid (∀ st k b W, LinesTo step st0 t0 0 (st, k, b) → (b = true → R st W) → (b = true → ∃ m, m ≤ t0.length ∧ Q st m) → Below B w W → (fun e w' => ∃ st k b, LinesTo step st0 t0 0 (st, k, b) ∧ e = Ending.returned (.tuple #[.int .i64 (k : Nat), .bool b]) ∧ (b = true → R st w') ∧ (b = true → ∃ m, m ≤ t0.length ∧ Q st m) ∧ Below B w w') (.returned (.tuple #[.int .i64 (k : Nat), .bool b])) W) := fun st k b W h1 h2 h3 h4 => ⟨st, k, b, h1, rfl, h2, h3, h4⟩
  generalize (fun e w' => ∃ st k b, LinesTo step st0 t0 0 (st, k, b) ∧ e = Ending.returned (.tuple #[.int .i64 (k : Nat), .bool b]) ∧ (b = true → R st w') ∧ (b = true → ∃ m, m ≤ t0.length ∧ Q st m) ∧ Below B w w') = PP at HEND ⊢
  go_enter Tryz.func74, Tryz.ntmps74
  as_aux_lemma =>
    go_wp2_with fail
    go_loopw [0, 6] (fun vt it wr => ∃ (i m : Nat) (st : σ) (t : List UInt8), it = .int .i64 i ∧ vt = .string ⟨t.toArray⟩ ∧ i ≤ m ∧ m + t.length ≤ t0.length ∧ Hid (∀ res, LinesTo step st t i res → LinesTo step st0 t0 0 res) ∧ Hid (R st wr) ∧ Hid (Q st m) ∧ Hid (Below B w wr)) (fun vt _ _ => strLen vt)
    case atStart => exact ⟨0, 0, st0, t0, rfl, rfl, Nat.le_refl _, by omega, (fun _ h => h), H0.out, HQ0.out, Below.refl _ _⟩
    case round =>
      clear H0 HQ0
      obtain ⟨i, m, st, t, rfl, rfl, him, hmt, HTO, HS, HQM, HB⟩ := hrel
      cases t with
      | nil =>
        have HE := Lib.hid (HEND.out st 0 true wr (HTO.out _ (.done st i)) (fun _ => HS.out) (fun _ => ⟨m, by omega, HQM.out⟩) HB.out)
        clear HTO HS HQM HB HC HR HQ HEND
        as_aux_lemma =>
          go_wp2_with fail
          first | exact HE.out | (go_ret2; exact HE.out)
      | cons x t =>
        have HNE : Hid ((x :: t) ≠ []) := List.cons_ne_nil x t
        have hlen : t.length + 1 ≤ t0.length := by simp only [List.length_cons] at hmt; omega
        have hmt2 : m + (t.length + 1) ≤ t0.length := by simpa using hmt
        have HCU := Lib.hid (cutNl_any (x :: t) (by simp only [List.length_cons]; omega) S wr (HL.out.below HB.out hSB))
        have HCL : Hid ((Lib.cut (x :: t) [10]).2.2 = true → (Lib.cut (x :: t) [10]).1.length + 1 + (Lib.cut (x :: t) [10]).2.1.length = t.length + 1) := fun h => by rw [cutNl_len h]; rfl
        have HOP : Hid ((Lib.cut (x :: t) [10]).2.2 = false → LinesTo step st0 t0 0 (st, i, false)) := fun h => HTO.out _ (.open_ st _ i HNE.out h)
        have HST : Hid ((Lib.cut (x :: t) [10]).2.2 = true → (step st (Lib.cut (x :: t) [10]).1).2 = false → LinesTo step st0 t0 0 ((step st (Lib.cut (x :: t) [10]).1).1, i, false)) := fun h h2 => HTO.out _ (.stop st _ i HNE.out h h2)
        have HNX : Hid ((Lib.cut (x :: t) [10]).2.2 = true → (step st (Lib.cut (x :: t) [10]).1).2 = true → ∀ res, LinesTo step (step st (Lib.cut (x :: t) [10]).1).1 (Lib.cut (x :: t) [10]).2.1 (i + 1) res → LinesTo step st0 t0 0 res) := fun h h2 res h3 => HTO.out _ (.next st _ i res HNE.out h h2 h3)
        clear HTO HNE hmt
        generalize Lib.cut (x :: t) [10] = cu at HCU HCL HOP HST HNX
        obtain ⟨ln, rest, en⟩ := cu
        simp only at HCU HCL HOP HST HNX
        as_aux_lemma =>
          go_wp2_with fail
          refine HCU.out.mono ?_
          rintro e w1 ⟨rfl, hb1⟩
          have HS1 := Lib.hid (HR.out _ _ _ HS.out hb1)
          have hBr : B ≤ wr.heap.size := Nat.le_trans hB HB.out.size
          have HB1 : Hid (Below B w w1) := HB.out.trans (hb1.mono hBr)
          have hB1 : B ≤ w1.heap.size := Nat.le_trans hB HB1.out.size
          clear hb1 HS HB HCU
          cases en with
          | false =>
            have HE := Lib.hid (HEND.out st i false w1 (HOP.out rfl) (fun h => by cases h) (fun h => by cases h) HB1.out)
            clear HOP HST HNX HCL HS1 HB1 HQM HC HR HQ HEND
            as_aux_lemma =>
              go_wp2_with fail
              first | exact HE.out | (go_ret2; exact HE.out)
          | true =>
            have hcl := HCL.out rfl
            have HST2 := Lib.hid (HST.out rfl)
            have HNX2 := Lib.hid (HNX.out rfl)
            have HCC := Lib.hid (HC.out st m ln w1 HS1.out HQM.out (by omega) (HL.out.below HB1.out hSB) hB1)
            have HQ2 := Lib.hid (HQ.out st m ln HQM.out (by omega))
            clear HOP HST HNX HCL HS1 HQM
            generalize step st ln = sp at HST2 HNX2 HCC HQ2
            obtain ⟨st2, ok⟩ := sp
            simp only at HST2 HNX2 HCC HQ2
            as_aux_lemma =>
              go_wp2_with fail
              refine HCC.out.mono ?_
              rintro e w2 ⟨rfl, hs2, hb2⟩
              have HS2 := Lib.hid hs2
              have HB2 : Hid (Below B w w2) := HB1.out.trans hb2
              clear hs2 hb2 HB1 HCC
              cases ok with
              | false =>
                have HE := Lib.hid (HEND.out st2 i false w2 (HST2.out rfl) (fun h => by cases h) (fun h => by cases h) HB2.out)
                clear HST2 HNX2 HQ2 HS2 HB2 HC HR HQ HEND
                as_aux_lemma =>
                  go_wp2_with fail
                  first | exact HE.out | (go_ret2; exact HE.out)
              | true =>
                have HTO := Lib.hid (HNX2.out rfl)
                have HQ3 := Lib.hid (HQ2.out rfl)
                have HS3 := Lib.hid (HS2.out rfl)
                clear HST2 HNX2 HQ2
                as_aux_lemma =>
                  go_wp2_with fail
                  go_roundw
                  case rel => exact ⟨i + 1, m + ln.length + 1, st2, rest, by go_num, rfl, by omega, by omega, HTO.out, HS3.out, HQ3.out, HB2.out⟩
                  case measure => simp [strLen, ByteArray.size]; omega
set_option maxRecDepth 100000 in
set_option maxHeartbeats 8000000 in
theorem linesR_any {σ : Type} (step : σ → List UInt8 → σ × Bool) (R : σ → World → Prop) (Q : σ → Nat → Prop) (S B F D : Nat) (hcall : ∀ st m line W, R st W → Q st m → m + line.length ≤ 100000 → LibsW S W → B ≤ W.heap.size → Calls Tryz.prog 77 #[.string ⟨line.toArray⟩, .pointer (some ⟨F, 0, none⟩), .pointer (some ⟨D, 0, none⟩)] W fun e W' => e = .returned (.bool (step st line).2) ∧ ((step st line).2 = true → R (step st line).1 W') ∧ Below B W W')
    (hR : ∀ st W W', R st W → Below W.heap.size W W' → R st W') (hQ : ∀ st m line, Q st m → m + line.length ≤ 100000 → (step st line).2 = true → Q (step st line).1 (m + line.length + 1)) (t0 : List UInt8) (ht0 : t0.length ≤ 100000) (st0 : σ) (w : World) (h0 : R st0 w) (hq0 : Q st0 0) (hL : LibsW S w) (hSB : S ≤ B) (hB : B ≤ w.heap.size) :
    Calls Tryz.prog 76 #[.string ⟨t0.toArray⟩, .func (.func 77) #[] #[.pointer (some ⟨F, 0, none⟩), .pointer (some ⟨D, 0, none⟩)]] w fun e w' => ∃ st k b, LinesTo step st0 t0 0 (st, k, b) ∧ e = .returned (.tuple #[.int .i64 (k : Nat), .bool b]) ∧ (b = true → R st w') ∧ (b = true → ∃ m, m ≤ t0.length ∧ Q st m) ∧ Below B w w' := by
  have HC := Lib.hid hcall
  have HR := Lib.hid hR
  have HQ := Lib.hid hQ
  have H0 := Lib.hid h0
  have HQ0 := Lib.hid hq0
  have HL := Lib.hid hL
  clear hcall hR hQ h0 hq0 hL
  have HEND : Hid (∀ st k b W, LinesTo step st0 t0 0 (st, k, b) → (b = true → R st W) → (b = true → ∃ m, m ≤ t0.length ∧ Q st m) → Below B w W → (fun e w' => ∃ st k b, LinesTo step st0 t0 0 (st, k, b) ∧ e = Ending.returned (.tuple #[.int .i64 (k : Nat), .bool b]) ∧ (b = true → R st w') ∧ (b = true → ∃ m, m ≤ t0.length ∧ Q st m) ∧ Below B w w') (.returned (.tuple #[.int .i64 (k : Nat), .bool b])) W) := fun st k b W h1 h2 h3 h4 => ⟨st, k, b, h1, rfl, h2, h3, h4⟩
  generalize (fun e w' => ∃ st k b, LinesTo step st0 t0 0 (st, k, b) ∧ e = Ending.returned (.tuple #[.int .i64 (k : Nat), .bool b]) ∧ (b = true → R st w') ∧ (b = true → ∃ m, m ≤ t0.length ∧ Q st m) ∧ Below B w w') = PP at HEND ⊢
  go_enter Tryz.func76, Tryz.ntmps76
  as_aux_lemma =>
    go_wp2_with fail
    go_loopw [0, 6] (fun vt it wr => ∃ (i m : Nat) (st : σ) (t : List UInt8), it = .int .i64 i ∧ vt = .string ⟨t.toArray⟩ ∧ i ≤ m ∧ m + t.length ≤ t0.length ∧ Hid (∀ res, LinesTo step st t i res → LinesTo step st0 t0 0 res) ∧ Hid (R st wr) ∧ Hid (Q st m) ∧ Hid (Below B w wr)) (fun vt _ _ => strLen vt)
    case atStart => exact ⟨0, 0, st0, t0, rfl, rfl, Nat.le_refl _, by omega, (fun _ h => h), H0.out, HQ0.out, Below.refl _ _⟩
    case round =>
      clear H0 HQ0
      obtain ⟨i, m, st, t, rfl, rfl, him, hmt, HTO, HS, HQM, HB⟩ := hrel
      cases t with
      | nil =>
        have HE := Lib.hid (HEND.out st 0 true wr (HTO.out _ (.done st i)) (fun _ => HS.out) (fun _ => ⟨m, by omega, HQM.out⟩) HB.out)
        clear HTO HS HQM HB HC HR HQ HEND
        as_aux_lemma =>
          go_wp2_with fail
          first | exact HE.out | (go_ret2; exact HE.out)
      | cons x t =>
        have HNE : Hid ((x :: t) ≠ []) := List.cons_ne_nil x t
        have hlen : t.length + 1 ≤ t0.length := by simp only [List.length_cons] at hmt; omega
        have hmt2 : m + (t.length + 1) ≤ t0.length := by simpa using hmt
        have HCU := Lib.hid (cutNl_any (x :: t) (by simp only [List.length_cons]; omega) S wr (HL.out.below HB.out hSB))
        have HCL : Hid ((Lib.cut (x :: t) [10]).2.2 = true → (Lib.cut (x :: t) [10]).1.length + 1 + (Lib.cut (x :: t) [10]).2.1.length = t.length + 1) := fun h => by rw [cutNl_len h]; rfl
        have HOP : Hid ((Lib.cut (x :: t) [10]).2.2 = false → LinesTo step st0 t0 0 (st, i, false)) := fun h => HTO.out _ (.open_ st _ i HNE.out h)
        have HST : Hid ((Lib.cut (x :: t) [10]).2.2 = true → (step st (Lib.cut (x :: t) [10]).1).2 = false → LinesTo step st0 t0 0 ((step st (Lib.cut (x :: t) [10]).1).1, i, false)) := fun h h2 => HTO.out _ (.stop st _ i HNE.out h h2)
        have HNX : Hid ((Lib.cut (x :: t) [10]).2.2 = true → (step st (Lib.cut (x :: t) [10]).1).2 = true → ∀ res, LinesTo step (step st (Lib.cut (x :: t) [10]).1).1 (Lib.cut (x :: t) [10]).2.1 (i + 1) res → LinesTo step st0 t0 0 res) := fun h h2 res h3 => HTO.out _ (.next st _ i res HNE.out h h2 h3)
        clear HTO HNE hmt
        generalize Lib.cut (x :: t) [10] = cu at HCU HCL HOP HST HNX
        obtain ⟨ln, rest, en⟩ := cu
        simp only at HCU HCL HOP HST HNX
        as_aux_lemma =>
          go_wp2_with fail
          refine HCU.out.mono ?_
          rintro e w1 ⟨rfl, hb1⟩
          have HS1 := Lib.hid (HR.out _ _ _ HS.out hb1)
          have hBr : B ≤ wr.heap.size := Nat.le_trans hB HB.out.size
          have HB1 : Hid (Below B w w1) := HB.out.trans (hb1.mono hBr)
          have hB1 : B ≤ w1.heap.size := Nat.le_trans hB HB1.out.size
          clear hb1 HS HB HCU
          cases en with
          | false =>
            have HE := Lib.hid (HEND.out st i false w1 (HOP.out rfl) (fun h => by cases h) (fun h => by cases h) HB1.out)
            clear HOP HST HNX HCL HS1 HB1 HQM HC HR HQ HEND
            as_aux_lemma =>
              go_wp2_with fail
              first | exact HE.out | (go_ret2; exact HE.out)
          | true =>
            have hcl := HCL.out rfl
            have HST2 := Lib.hid (HST.out rfl)
            have HNX2 := Lib.hid (HNX.out rfl)
            have HCC := Lib.hid (HC.out st m ln w1 HS1.out HQM.out (by omega) (HL.out.below HB1.out hSB) hB1)
            have HQ2 := Lib.hid (HQ.out st m ln HQM.out (by omega))
            clear HOP HST HNX HCL HS1 HQM
            generalize step st ln = sp at HST2 HNX2 HCC HQ2
            obtain ⟨st2, ok⟩ := sp
            simp only at HST2 HNX2 HCC HQ2
            as_aux_lemma =>
              go_wp2_with fail
              refine HCC.out.mono ?_
              rintro e w2 ⟨rfl, hs2, hb2⟩
              have HS2 := Lib.hid hs2
              have HB2 : Hid (Below B w w2) := HB1.out.trans hb2
              clear hs2 hb2 HB1 HCC
              cases ok with
              | false =>
                have HE := Lib.hid (HEND.out st2 i false w2 (HST2.out rfl) (fun h => by cases h) (fun h => by cases h) HB2.out)
                clear HST2 HNX2 HQ2 HS2 HB2 HC HR HQ HEND
                as_aux_lemma =>
                  go_wp2_with fail
                  first | exact HE.out | (go_ret2; exact HE.out)
              | true =>
                have HTO := Lib.hid (HNX2.out rfl)
                have HQ3 := Lib.hid (HQ2.out rfl)
                have HS3 := Lib.hid (HS2.out rfl)
                clear HST2 HNX2 HQ2
                as_aux_lemma =>
                  go_wp2_with fail
                  go_roundw
                  case rel => exact ⟨i + 1, m + ln.length + 1, st2, rest, by go_num, rfl, by omega, by omega, HTO.out, HS3.out, HQ3.out, HB2.out⟩
                  case measure => simp [strLen, ByteArray.size]; omega
end Go.Proofs.YtacekbbndamkmaaGreatDoor

set_option linter.unusedVariables false
set_option linter.unusedSimpArgs false
namespace Go.Proofs.YtacekbbndamkmaaGreatDoor
open Go.RowKit

/-- What is read so far: a deck, whether it has begun; or a line was wrong. -/
structure TkS where
  f : Int
  s : Int
  l : Int
  p : Int
  rs : List Rate
  begun : Bool
  bad : Bool
def badT : TkS := ⟨0, 0, 0, 0, [], false, true⟩
def startT : TkS := ⟨0, 0, 0, 0, [], false, false⟩
def wDeck : List UInt8 := [100, 101, 99, 107]
def wRate : List UInt8 := [114, 97, 116, 101]
def wClosed : List UInt8 := [99, 108, 111, 115, 101, 100]
def undashL (x : List UInt8) : List UInt8 := if x = [45] then [] else x
def rateX (xs : List (List UInt8)) : Rate := if xs.getD 2 [] = wClosed then ⟨undashL (xs.getD 1 []), 0, true⟩ else ⟨undashL (xs.getD 1 []), numZ (xs.getD 2 []), false⟩
def headB (xs : List (List UInt8)) : Bool := decide (xs.getD 0 [] = wDeck) && (decide (xs.length = 5) && allNum (xs.drop 1))
def lineB (xs : List (List UInt8)) : Bool := decide (xs.getD 0 [] = wRate) && (decide (xs.length = 3) && (decide (xs.getD 2 [] = wClosed) || numOk (xs.getD 2 [])))
def takeX (st : TkS) (xs : List (List UInt8)) : TkS × Bool :=
  if fullW xs = false then (badT, false)
  else if st.begun = false then (if headB xs = true then (⟨numZ (xs.getD 1 []), numZ (xs.getD 2 []), numZ (xs.getD 3 []), numZ (xs.getD 4 []), [], true, false⟩, true) else (badT, false))
  else if lineB xs = true then (⟨st.f, st.s, st.l, st.p, st.rs ++ [rateX xs], true, false⟩, true) else (badT, false)
def takeS (st : TkS) (line : List UInt8) : TkS × Bool := if st.bad = true then (badT, false) else takeX st (wordsL line)
abbrev Int2 (z : Int) : Prop := -2000000000000 ≤ z ∧ z ≤ 2000000000000
/-- What is known of it when so many bytes have been read. -/
structure TkQ (st : TkS) (m : Nat) : Prop where
  few : st.rs.length * 5 ≤ m
  each : ∀ r ∈ st.rs, r.p.length ≤ 100000 ∧ Int2 r.price
  nums : Int2 st.f ∧ Int2 st.s ∧ Int2 st.l ∧ Int2 st.p
theorem takeQ_start : TkQ startT 0 := ⟨by decide, (fun r h => (by cases h)), by decide⟩
theorem numOk_int {s : List UInt8} (h : numOk s = true) : Int2 (numZ s) := by
  unfold numOk at h
  simp only [Bool.and_eq_true] at h
  have := (numZ_raw h.1).2
  exact ⟨by omega, by omega⟩
theorem allNum_at {xs : List (List UInt8)} (h : allNum xs = true) {i : Nat} (hi : i < xs.length) : numOk (xs.getD i []) = true := List.all_eq_true.1 h _ (mem_getD [] hi)
theorem drop_getD (xs : List (List UInt8)) (i : Nat) : (xs.drop 1).getD i [] = xs.getD (i + 1) [] := by
  rw [List.getD_eq_getElem?_getD, List.getElem?_drop, List.getD_eq_getElem?_getD, Nat.add_comm]
theorem takeQ_step (st : TkS) (m : Nat) (line : List UInt8) (hq : TkQ st m) (hm : m + line.length ≤ 100000) (ho : (takeS st line).2 = true) : TkQ (takeS st line).1 (m + line.length + 1) := by
  unfold takeS at ho ⊢
  by_cases hb : st.bad = true
  · rw [if_pos hb] at ho; cases ho
  rw [if_neg hb] at ho ⊢
  unfold takeX at ho ⊢
  by_cases h1 : fullW (wordsL line) = false
  · rw [if_pos h1] at ho; cases ho
  rw [if_neg h1] at ho ⊢
  by_cases h2 : st.begun = false
  · rw [if_pos h2] at ho ⊢
    by_cases h3 : headB (wordsL line) = true
    · rw [if_pos h3]
      unfold headB at h3
      simp only [Bool.and_eq_true, decide_eq_true_eq] at h3
      obtain ⟨_, hl, ha⟩ := h3
      have hk : ∀ i, i < 4 → Int2 (numZ ((wordsL line).getD (i + 1) [])) := fun i hi => by
        rw [← drop_getD]
        exact numOk_int (allNum_at ha (by rw [List.length_drop]; omega))
      exact ⟨by show 0 * 5 ≤ _; omega, fun r h => (by cases h), hk 0 (by omega), hk 1 (by omega), hk 2 (by omega), hk 3 (by omega)⟩
    · rw [if_neg h3] at ho; cases ho
  · rw [if_neg h2] at ho ⊢
    by_cases h3 : lineB (wordsL line) = true
    · rw [if_pos h3]
      unfold lineB at h3
      simp only [Bool.and_eq_true, Bool.or_eq_true, decide_eq_true_eq] at h3
      obtain ⟨h0, hl, ha⟩ := h3
      have hl0 := wordsL_le line 0
      rw [h0] at hl0
      have hl4 : wRate.length = 4 := rfl
      have hl1 := wordsL_le line 1
      have hud : (undashL ((wordsL line).getD 1 [])).length ≤ 100000 := by
        unfold undashL
        split
        · exact Nat.zero_le _
        · omega
      refine ⟨?_, fun r hr => ?_, hq.nums⟩
      · show (st.rs ++ [rateX (wordsL line)]).length * 5 ≤ _
        rw [List.length_append, List.length_singleton]
        have := hq.few
        omega
      · rcases List.mem_append.1 hr with h | h
        · exact hq.each r h
        · rw [List.mem_singleton.1 h]
          unfold rateX
          split
          · exact ⟨hud, show Int2 0 by decide⟩
          · rename_i h9
            exact ⟨hud, numOk_int (ha.resolve_left h9)⟩
    · rw [if_neg h3] at ho; cases ho
end Go.Proofs.YtacekbbndamkmaaGreatDoor

set_option linter.unusedVariables false
set_option linter.unusedSimpArgs false
namespace Go.Proofs.YtacekbbndamkmaaGreatDoor
open Go.RowKit

def all13 : List (List UInt8) := [[], [49], [49, 50], [49, 50, 48], [52], [52, 57], [52, 57, 49], [52, 57, 51], [52, 57, 51, 48], [52, 57, 51, 48, 49], [52, 57, 52], [53, 53], [53, 53, 49]]
def all12 : List (List UInt8) := [[52], [52, 57], [52, 57, 48], [52, 57, 49], [52, 57, 50], [52, 57, 51], [52, 57, 52], [52, 57, 53], [52, 57, 54], [52, 57, 55], [52, 57, 56], [52, 57, 57]]
theorem all13_short (i : Nat) : (all13.getD i []).length ≤ 100 := by
  by_cases h : i < 13
  · have : ∀ j : Fin 13, (all13.getD j.val []).length ≤ 100 := by decide
    exact this ⟨i, h⟩
  · rw [List.getD_eq_getElem?_getD, List.getElem?_eq_none (by show 13 ≤ i; omega)]; exact Nat.zero_le _
theorem all12_short (i : Nat) : (all12.getD i []).length ≤ 100 := by
  by_cases h : i < 12
  · have : ∀ j : Fin 12, (all12.getD j.val []).length ≤ 100 := by decide
    exact this ⟨i, h⟩
  · rw [List.getD_eq_getElem?_getD, List.getElem?_eq_none (by show 12 ≤ i; omega)]; exact Nat.zero_le _
/-- What lies in memory while a deck is made: the place of the result, the deck's box, the names. -/
structure RD (S F D A n : Nat) (names : List (List UInt8)) (f s l st : Int) (v : Value) (w : World) : Prop where
  room : Room w F 5
  box : DBox w D f s l st v
  nam : Names w A n names
theorem RD.keeps {S F D A n : Nat} {names : List (List UInt8)} {f s l st : Int} {v : Value} {w w' : World} (h : RD S F D A n names f s l st v w) (hk : Keeps S w w') (h1 : F ≠ S) (h2 : D ≠ S) (h3 : A ≠ S) : RD S F D A n names f s l st v w' :=
  ⟨h.room.keeps hk h1, h.box.keeps hk h2, h.nam.keeps hk h3⟩
theorem RD.grown {S F D A n : Nat} {names : List (List UInt8)} {f s l st : Int} {v : Value} {w w' : World} {row : Option Nat} (h : RD S F D A n names f s l st v w) (hg : w.grownBy w' row) (h1 : row ≠ some F) (h2 : row ≠ some D) (h3 : row ≠ some A) : RD S F D A n names f s l st v w' :=
  ⟨h.room.grown hg h1, h.box.grown hg h2, h.nam.grown hg h3⟩
theorem RD.far {S F D A n : Nat} {names : List (List UInt8)} {f s l st : Int} {v : Value} {w : World} (h : RD S F D A n names f s l st v w) {B o : Nat} (hD : B ≠ D) (hA : B ≠ A) (u : Value) : RD S F D A n names f s l st v (w.setCell ⟨B, o, none⟩ u) :=
  ⟨h.room.set B o u, h.box.far hD u, h.nam.set hA u⟩
theorem RD.setv {S F D A n : Nat} {names : List (List UInt8)} {f s l st : Int} {v : Value} {w : World} (h : RD S F D A n names f s l st v w) (hA : D ≠ A) (u : Value) : RD S F D A n names f s l st u (w.setCell ⟨D, 4, none⟩ u) :=
  ⟨h.room.set D 4 u, h.box.s4 u, h.nam.set hA u⟩

set_option maxRecDepth 100000 in
set_option maxHeartbeats 4000000 in
theorem rightDeck_any (S k : Nat) (w : World) (h : StreamOk w S k) (hk : k ≤ 1000000) (f : Int) (hf : -2000000000000 ≤ f ∧ f ≤ 2000000000000) : Calls Tryz.prog 36 #[.pointer (some ⟨S, 0, none⟩), .int .i64 f] w (RDeckPost S (k + 43) w) := by
  obtain ⟨i1, hi1, hy0, hy1, hy2⟩ := info_parts Tryz.infoRate
  have HS := Lib.hid h
  have hSl := h.lt
  clear h
  go_enter Tryz.func36, Tryz.ntmps36
  go_upto_region 1 with (fail)
  have HF0 : Hid (Room (w.alloc (.cells #[.int .i64 0, .int .i64 0, .int .i64 0, .int .i64 0, .slice none 0 0] 28)) w.heap.size 5) := ⟨by simp, box_th (heap_new _ _)⟩
  have HS0 : Hid (StreamOk (w.alloc (.cells #[.int .i64 0, .int .i64 0, .int .i64 0, .int .i64 0, .slice none 0 0] 28)) S k) := HS.out.below (ext_alloc (Below.refl _ _))
  have HK0 : Hid (Keeps S w (w.alloc (.cells #[.int .i64 0, .int .i64 0, .int .i64 0, .int .i64 0, .slice none 0 0] 28))) := (Keeps.refl _ _).alloc _
  generalize w.alloc (.cells #[.int .i64 0, .int .i64 0, .int .i64 0, .int .i64 0, .slice none 0 0] 28) = w0 at HF0 HS0 HK0 ⊢
  obtain ⟨F, hF⟩ : ∃ F, F = w.heap.size := ⟨_, rfl⟩
  rw [← hF] at HF0 ⊢
  have hFS : F ≠ S := by omega
  have hSF : S + 1 ≤ F := by omega
  have HFW := Lib.hid hF
  clear hF HS
  as_aux_lemma =>
    go_wp2_with (first | (refine wpList_val rfl (bs_i4 _ (fun _ => rfl) _ _ _ _ _ _ rfl) ?_))
    refine (pick_lit S k [0, 0, 5, 100] (fun x => 0 ≤ x ∧ x ≤ 100) _ _ _ HS0.out (by omega) rfl rfl (by decide) (by decide) (by decide)).mono ?_
    rintro e w1 ⟨ps, rfl, ⟨ps0, ps1⟩, hst1, hk1⟩
    have HS1 := Lib.hid hst1
    have HK1 := Lib.hid (HK0.out.trans hk1)
    have HF1 := Lib.hid (HF0.out.keeps hk1 hFS)
    clear hst1 hk1 HS0 HK0 HF0
    as_aux_lemma =>
      go_wp2_with (first | (refine wpList_val rfl (bs_i3 _ (fun _ => rfl) _ _ _ _ _ rfl) ?_))
      refine (pick_lit S (k + 1) [0, 30000, 60000] (fun x => 0 ≤ x ∧ x ≤ 60000) _ _ _ HS1.out (by omega) rfl rfl (by decide) (by decide) (by decide)).mono ?_
      rintro e w2 ⟨pl, rfl, ⟨pl0, pl1⟩, hst2, hk2⟩
      have HS2 := Lib.hid hst2
      have HK2 := Lib.hid (HK1.out.trans hk2)
      have HF2 := Lib.hid (HF1.out.keeps hk2 hFS)
      clear hst2 hk2 HS1 HK1 HF1
      as_aux_lemma =>
        go_wp2_with (first | (refine wpList_val rfl (bs_i3 _ (fun _ => rfl) _ _ _ _ _ rfl) ?_))
        refine (pick_lit S (k + 1 + 1) [1, 1000, 60000] (fun x => 1 ≤ x ∧ x ≤ 60000) _ _ _ HS2.out (by omega) rfl rfl (by decide) (by decide) (by decide)).mono ?_
        rintro e w3 ⟨pt, rfl, ⟨pt0, pt1⟩, hst3, hk3⟩
        have HS3 := Lib.hid hst3
        have HK3 := Lib.hid (HK2.out.trans hk3)
        have HF3 := Lib.hid (HF2.out.keeps hk3 hFS)
        clear hst3 hk3 HS2 HK2 HF2
        as_aux_lemma =>
          go_upto_region 2 with (fail)
          have HD4 : Hid (DBox (w3.alloc (.cells #[.int .i64 f, .int .i64 ps, .int .i64 pl, .int .i64 pt, .slice none 0 0] 28)) w3.heap.size f ps pl pt (.slice none 0 0)) := ⟨by simp, by go_simp, by go_simp, by go_simp, by go_simp, by go_simp, fun j => by go_simp⟩
          have HF4 : Hid (Room (w3.alloc (.cells #[.int .i64 f, .int .i64 ps, .int .i64 pl, .int .i64 pt, .slice none 0 0] 28)) F 5) := HF3.out.below (ext_alloc (Below.refl _ _))
          have HS4 : Hid (StreamOk (w3.alloc (.cells #[.int .i64 f, .int .i64 ps, .int .i64 pl, .int .i64 pt, .slice none 0 0] 28)) S (k + 3)) := HS3.out.below (ext_alloc (Below.refl _ _))
          have HK4 : Hid (Keeps S w (w3.alloc (.cells #[.int .i64 f, .int .i64 ps, .int .i64 pl, .int .i64 pt, .slice none 0 0] 28))) := HK3.out.alloc _
          have hS3 := HS3.out.lt
          have hw3 := HK3.out.size
          have hF3 := HF3.out.lt
          generalize w3.alloc (.cells #[.int .i64 f, .int .i64 ps, .int .i64 pl, .int .i64 pt, .slice none 0 0] 28) = w4 at HD4 HF4 HS4 HK4 ⊢
          obtain ⟨D, hD⟩ : ∃ D, D = w3.heap.size := ⟨_, rfl⟩
          rw [← hD] at HD4 ⊢
          have hDS : D ≠ S := by omega
          have hFD : F ≠ D := by omega
          have hDw : w.heap.size ≤ D := by omega
          clear hD hw3 hF3 hS3 HK3 HF3 HS3
          as_aux_lemma =>
            go_wp2_with (first | (refine wpList_val rfl (bs_s13 _ (fun _ => rfl) _ _ _ _ _ _ _ _ _ _ _ _ _ _ _ rfl) ?_))
            have hS4 := HS4.out.lt
            have HN5 : Hid (Names (w4.alloc (.cells #[.string ⟨#[]⟩, .string ⟨#[49]⟩, .string ⟨#[49, 50]⟩, .string ⟨#[49, 50, 48]⟩, .string ⟨#[52]⟩, .string ⟨#[52, 57]⟩, .string ⟨#[52, 57, 49]⟩, .string ⟨#[52, 57, 51]⟩, .string ⟨#[52, 57, 51, 48]⟩, .string ⟨#[52, 57, 51, 48, 49]⟩, .string ⟨#[52, 57, 52]⟩, .string ⟨#[53, 53]⟩, .string ⟨#[53, 53, 49]⟩] 9)) w4.heap.size 13 all13) := names_new w4 all13 _ rfl _ rfl
            have HK45 : Hid (Keeps S w4 (w4.alloc (.cells #[.string ⟨#[]⟩, .string ⟨#[49]⟩, .string ⟨#[49, 50]⟩, .string ⟨#[49, 50, 48]⟩, .string ⟨#[52]⟩, .string ⟨#[52, 57]⟩, .string ⟨#[52, 57, 49]⟩, .string ⟨#[52, 57, 51]⟩, .string ⟨#[52, 57, 51, 48]⟩, .string ⟨#[52, 57, 51, 48, 49]⟩, .string ⟨#[52, 57, 52]⟩, .string ⟨#[53, 53]⟩, .string ⟨#[53, 53, 49]⟩] 9))) := (Keeps.refl _ _).alloc _
            have HS5 : Hid (StreamOk (w4.alloc (.cells #[.string ⟨#[]⟩, .string ⟨#[49]⟩, .string ⟨#[49, 50]⟩, .string ⟨#[49, 50, 48]⟩, .string ⟨#[52]⟩, .string ⟨#[52, 57]⟩, .string ⟨#[52, 57, 49]⟩, .string ⟨#[52, 57, 51]⟩, .string ⟨#[52, 57, 51, 48]⟩, .string ⟨#[52, 57, 51, 48, 49]⟩, .string ⟨#[52, 57, 52]⟩, .string ⟨#[53, 53]⟩, .string ⟨#[53, 53, 49]⟩] 9)) S (k + 3)) := HS4.out.below (ext_alloc (Below.refl _ _))
            generalize w4.alloc (.cells #[.string ⟨#[]⟩, .string ⟨#[49]⟩, .string ⟨#[49, 50]⟩, .string ⟨#[49, 50, 48]⟩, .string ⟨#[52]⟩, .string ⟨#[52, 57]⟩, .string ⟨#[52, 57, 49]⟩, .string ⟨#[52, 57, 51]⟩, .string ⟨#[52, 57, 51, 48]⟩, .string ⟨#[52, 57, 51, 48, 49]⟩, .string ⟨#[52, 57, 52]⟩, .string ⟨#[53, 53]⟩, .string ⟨#[53, 53, 49]⟩] 9) = w5 at HN5 HK45 HS5 ⊢
            have hD4 := HD4.out.lt
            have hF4 := HF4.out.lt
            obtain ⟨A, hA⟩ : ∃ A, A = w4.heap.size := ⟨_, rfl⟩
            rw [← hA] at HN5 ⊢
            have hAS : A ≠ S := by omega
            have hAD : D ≠ A := by omega
            have hAF : A ≠ F := by omega
            have HRD5 : Hid (RD S F D A 13 all13 f ps pl pt (.slice none 0 0) w5) := ⟨HF4.out.keeps HK45.out hFS, HD4.out.keeps HK45.out hDS, HN5.out⟩
            have HK5 := Lib.hid (HK4.out.trans HK45.out)
            have hAw : w.heap.size ≤ A := by omega
            clear hA hS4 hD4 hF4 HN5 HK45 HS4 HD4 HF4 HK4
            refine (flip_any S (k + 3) 4 _ HS5.out (by omega) (by decide) (by decide)).mono ?_
            rintro e w6 ⟨fl, rfl, hst6, hk6⟩
            have HS6 := Lib.hid hst6
            have HK6 := Lib.hid (HK5.out.trans hk6)
            have HR6 := Lib.hid (HRD5.out.keeps hk6 hFS hDS hAS)
            clear hst6 hk6 HS5 HK5 HRD5
            as_aux_lemma =>
              go_upto_if 23 with (fail)
              go_cut [6] (fun v wx => ∃ (B n : Nat) (names : List (List UInt8)), v = .slice (some ⟨B, 0, none⟩) n n ∧ n ≤ 13 ∧ B ≠ S ∧ D ≠ B ∧ B ≠ F ∧ w.heap.size ≤ B ∧ Hid (∀ i, (names.getD i []).length ≤ 100) ∧ Hid (RD S F D B n names f ps pl pt (.slice none 0 0) wx) ∧ Hid (StreamOk wx S (k + 4)) ∧ Hid (Keeps S w wx))
              case first =>
                cases fl
                · skip
                  as_aux_lemma =>
                    go_wp2_with fail
                    go_meet
                    exact ⟨A, 13, all13, rfl, by omega, hAS, hAD, hAF, hAw, all13_short, HR6.out, HS6.out, HK6.out⟩
                · skip
                  as_aux_lemma =>
                    go_wp2_with (first | (refine wpList_val rfl (bs_s12 _ (fun _ => rfl) _ _ _ _ _ _ _ _ _ _ _ _ _ _ rfl) ?_))
                    have HN7 : Hid (Names (w6.alloc (.cells #[.string ⟨#[52]⟩, .string ⟨#[52, 57]⟩, .string ⟨#[52, 57, 48]⟩, .string ⟨#[52, 57, 49]⟩, .string ⟨#[52, 57, 50]⟩, .string ⟨#[52, 57, 51]⟩, .string ⟨#[52, 57, 52]⟩, .string ⟨#[52, 57, 53]⟩, .string ⟨#[52, 57, 54]⟩, .string ⟨#[52, 57, 55]⟩, .string ⟨#[52, 57, 56]⟩, .string ⟨#[52, 57, 57]⟩] 9)) w6.heap.size 12 all12) := names_new w6 all12 _ rfl _ rfl
                    have HK67 : Hid (Keeps S w6 (w6.alloc (.cells #[.string ⟨#[52]⟩, .string ⟨#[52, 57]⟩, .string ⟨#[52, 57, 48]⟩, .string ⟨#[52, 57, 49]⟩, .string ⟨#[52, 57, 50]⟩, .string ⟨#[52, 57, 51]⟩, .string ⟨#[52, 57, 52]⟩, .string ⟨#[52, 57, 53]⟩, .string ⟨#[52, 57, 54]⟩, .string ⟨#[52, 57, 55]⟩, .string ⟨#[52, 57, 56]⟩, .string ⟨#[52, 57, 57]⟩] 9))) := (Keeps.refl _ _).alloc _
                    have HS7 : Hid (StreamOk (w6.alloc (.cells #[.string ⟨#[52]⟩, .string ⟨#[52, 57]⟩, .string ⟨#[52, 57, 48]⟩, .string ⟨#[52, 57, 49]⟩, .string ⟨#[52, 57, 50]⟩, .string ⟨#[52, 57, 51]⟩, .string ⟨#[52, 57, 52]⟩, .string ⟨#[52, 57, 53]⟩, .string ⟨#[52, 57, 54]⟩, .string ⟨#[52, 57, 55]⟩, .string ⟨#[52, 57, 56]⟩, .string ⟨#[52, 57, 57]⟩] 9)) S (k + 4)) := HS6.out.below (ext_alloc (Below.refl _ _))
                    have hS6 := HS6.out.lt
                    have hD6 := HR6.out.box.lt
                    have hF6 := HR6.out.room.lt
                    have hw6 := HK6.out.size
                    generalize w6.alloc (.cells #[.string ⟨#[52]⟩, .string ⟨#[52, 57]⟩, .string ⟨#[52, 57, 48]⟩, .string ⟨#[52, 57, 49]⟩, .string ⟨#[52, 57, 50]⟩, .string ⟨#[52, 57, 51]⟩, .string ⟨#[52, 57, 52]⟩, .string ⟨#[52, 57, 53]⟩, .string ⟨#[52, 57, 54]⟩, .string ⟨#[52, 57, 55]⟩, .string ⟨#[52, 57, 56]⟩, .string ⟨#[52, 57, 57]⟩] 9) = w7 at HN7 HK67 HS7 ⊢
                    have HR7 : Hid (RD S F D w6.heap.size 12 all12 f ps pl pt (.slice none 0 0) w7) := ⟨HR6.out.room.keeps HK67.out hFS, HR6.out.box.keeps HK67.out hDS, HN7.out⟩
                    go_meet
                    exact ⟨w6.heap.size, 12, all12, rfl, by omega, by omega, by omega, by omega, by omega, all12_short, HR7.out, HS7.out, HK6.out.trans HK67.out⟩
              case rest =>
                clear HS6 HK6 HR6 hAS hAD hAF hAw
                obtain ⟨B, n, names, rfl, hn, hBS, hDB, hBF, hBw, HSH, HR7, HS7, HK7⟩ := hcut
                skip
                as_aux_lemma =>
                  go_wp2_with fail
                  have hSc := HS7.out.lt
                  have hFc := HR7.out.room.lt
                  have hDc := HR7.out.box.lt
                  have hBc := HR7.out.nam.lt
                  obtain ⟨WB, hWB⟩ : ∃ x, x = wc.heap.size := ⟨_, rfl⟩
                  have hwW : w.heap.size ≤ WB := by rw [hWB]; exact HK7.out.size
                  rw [← hWB] at hSc hFc hDc hBc
                  have hWc : WB ≤ wc.heap.size := Nat.le_of_eq hWB
                  clear hWB
                  go_loopw [27] (fun it wr => ∃ (i : Nat) (v : Value) (rates : List Rate), i ≤ n ∧ it = .int .i64 i ∧ rates.length ≤ i ∧ Hid (RatesIn rates) ∧ Hid (wr.ownsRow WB 51 3 v rates.length ((rates.map Rate.cells).flatten)) ∧ WB ≤ wr.heap.size ∧ Hid (RD S F D B n names f ps pl pt v wr) ∧ Hid (StreamOk wr S (k + 4 + 3 * i)) ∧ Hid (Keeps S w wr)) (fun it _ => n - (intOf it).toNat)
                  case atStart => exact ⟨0, .slice none 0 0, [], Nat.zero_le _, rfl, Nat.le_refl _, (fun r hr => by cases hr), World.ownsRow_nil _ _ _ _, hWc, HR7.out, HS7.out, HK7.out⟩
                  case round =>
                    clear HR7 HS7 HK7
                    obtain ⟨i, v, rates, hi, rfl, hrl, HRI, HOW, hWr, HR, HSr, HKr⟩ := hrel
                    by_cases hlt : i < n
                    · have c0 := HR.out.nam.at_ i hlt
                      have hpl := HSH.out i
                      generalize names.getD i [] = nm at c0 hpl
                      as_aux_lemma =>
                        go_wp2_with fail
                        refine (flip_any S (k + 4 + 3 * i) 3 _ HSr.out (by omega) (by decide) (by decide)).mono ?_
                        rintro e w8 ⟨f1, rfl, hst8, hk8⟩
                        have HS8 := Lib.hid hst8
                        have HK8 := Lib.hid (HKr.out.trans hk8)
                        have HR8 := Lib.hid (HR.out.keeps hk8 hFS hDS hBS)
                        have HO8 := Lib.hid (own_keeps HOW.out hk8 hSc)
                        have hW8 : WB ≤ w8.heap.size := Nat.le_trans hWr hk8.size
                        clear hst8 hk8 HSr HKr HR HOW c0 hWr
                        cases f1
                        case true =>
                          skip
                          as_aux_lemma =>
                            go_wp2_with fail
                            go_roundw
                            case rel => exact ⟨i + 1, v, rates, by omega, by go_num, by omega, HRI.out, HO8.out, hW8, HR8.out, HS8.out.mono (by omega), HK8.out⟩
                            case measure => simp [intOf]; omega
                        skip
                        as_aux_lemma =>
                          go_wp2_with (first | (refine wpList_val rfl (bs_i5 _ (fun _ => rfl) _ _ _ _ _ _ _ rfl) ?_))
                          refine (pick_lit S (k + 4 + 3 * i + 1) [0, 50, 100, 100, 1000] (fun x => 0 ≤ x ∧ x ≤ 1000) _ _ _ HS8.out (by omega) rfl rfl (by decide) (by decide) (by decide)).mono ?_
                          rintro e w9 ⟨pr, rfl, ⟨pr0, pr1⟩, hst9, hk9⟩
                          have HS9 := Lib.hid hst9
                          have HK9 := Lib.hid (HK8.out.trans hk9)
                          have HR9 := Lib.hid (HR8.out.keeps hk9 hFS hDS hBS)
                          have HO9 := Lib.hid (own_keeps HO8.out hk9 hSc)
                          have hW9 : WB ≤ w9.heap.size := Nat.le_trans hW8 hk9.size
                          clear hst9 hk9 HS8 HK8 HR8 HO8 hW8
                          as_aux_lemma =>
                            go_upto_region 10 with (fail)
                            have HS10 : Hid (StreamOk (w9.alloc (.cells #[.string ⟨nm.toArray⟩, .int .i64 pr, .bool false] 51)) S (k + 4 + 3 * i + 2)) := HS9.out.below (ext_alloc (Below.refl _ _))
                            have hk10 : Keeps S w9 (w9.alloc (.cells #[.string ⟨nm.toArray⟩, .int .i64 pr, .bool false] 51)) := (Keeps.refl _ _).alloc _
                            have HK10 := Lib.hid (HK9.out.trans hk10)
                            have HR10 := Lib.hid (HR9.out.keeps hk10 hFS hDS hBS)
                            have HO10 := Lib.hid (own_keeps HO9.out hk10 hSc)
                            obtain ⟨a0, a1, a2⟩ : (w9.alloc (.cells #[.string ⟨nm.toArray⟩, .int .i64 pr, .bool false] 51)).cell? ⟨w9.heap.size, 0, none⟩ = some (.string ⟨nm.toArray⟩) ∧ (w9.alloc (.cells #[.string ⟨nm.toArray⟩, .int .i64 pr, .bool false] 51)).cell? ⟨w9.heap.size, 1, none⟩ = some (.int .i64 pr) ∧ (w9.alloc (.cells #[.string ⟨nm.toArray⟩, .int .i64 pr, .bool false] 51)).cell? ⟨w9.heap.size, 2, none⟩ = some (.bool false) := ⟨by go_simp, by go_simp, by go_simp⟩
                            have af : ∀ j, (w9.alloc (.cells #[.string ⟨nm.toArray⟩, .int .i64 pr, .bool false] 51)).frozen? ⟨w9.heap.size, j, none⟩ = false := fun j => by go_simp
                            have hRl : w9.heap.size < (w9.alloc (.cells #[.string ⟨nm.toArray⟩, .int .i64 pr, .bool false] 51)).heap.size := by simp
                            have hRD : w9.heap.size ≠ D := by have := HR9.out.box.lt; omega
                            have hRB : w9.heap.size ≠ B := by have := HR9.out.nam.lt; omega
                            have hRS : w9.heap.size ≠ S := by have := HS9.out.lt; omega
                            have hRv : v.ownBlock ≠ some w9.heap.size := fun e => by have := (HO9.out.lt _ e).2; omega
                            have hRw : w.heap.size ≤ w9.heap.size := HK9.out.size
                            generalize w9.alloc (.cells #[.string ⟨nm.toArray⟩, .int .i64 pr, .bool false] 51) = w10 at HS10 hk10 HK10 HR10 HO10 a0 a1 a2 af hRl ⊢
                            have hW10 : WB ≤ w10.heap.size := Nat.le_trans hW9 hk10.size
                            generalize w9.heap.size = R at a0 a1 a2 af hRl hRD hRB hRS hRv hRw ⊢
                            clear hk10 HS9 HK9 HR9 HO9 hW9
                            as_aux_lemma =>
                              go_wp2_with fail
                              refine (flip_any S (k + 4 + 3 * i + 2) 6 _ HS10.out (by omega) (by decide) (by decide)).mono ?_
                              rintro e w11 ⟨f2, rfl, hst11, hk11⟩
                              have HS11 := Lib.hid hst11
                              have HK11 := Lib.hid (HK10.out.trans hk11)
                              have HR11 := Lib.hid (HR10.out.keeps hk11 hFS hDS hBS)
                              have HO11 := Lib.hid (own_keeps HO10.out hk11 hSc)
                              have e0 := (hk11.cell (p := ⟨R, 0, none⟩) hRl hRS).trans a0
                              have e1 := (hk11.cell (p := ⟨R, 1, none⟩) hRl hRS).trans a1
                              have e2 := (hk11.cell (p := ⟨R, 2, none⟩) hRl hRS).trans a2
                              have ef : ∀ j, w11.frozen? ⟨R, j, none⟩ = false := fun j => (hk11.frozen (p := ⟨R, j, none⟩) hRl hRS).trans (af j)
                              have hW11 : WB ≤ w11.heap.size := Nat.le_trans hW10 hk11.size
                              have hR11 : R < w11.heap.size := Nat.lt_of_lt_of_le hRl hk11.size
                              clear hst11 hk11 HS10 HK10 HR10 HO10 hW10 a0 a1 a2 af hRl
                              cases f2
                              · skip
                                as_aux_lemma =>
                                  go_upto_region 12 with (fail)
                                  obtain ⟨wX, rfl⟩ : ∃ wX : World, wX = w11 := ⟨_, rfl⟩
                                  have HSX := HS11
                                  have HKX := HK11
                                  have HRX := HR11
                                  have HOX := HO11
                                  clear HS11 HK11 HR11 HO11
                                  obtain ⟨hDl, z0, z1, z2, z3, z4, zf⟩ := HRX.out.box
                                  have hk12 : Keeps S wX (wX.alloc (.cells #[.string ⟨nm.toArray⟩, .int .i64 pr, .bool false] 51)) := (Keeps.refl _ _).alloc _
                                  have HOA := Lib.hid (HOX.out.alloc (.cells #[.string ⟨nm.toArray⟩, .int .i64 pr, .bool false] 51))
                                  have HRA := Lib.hid (HRX.out.keeps hk12 hFS hDS hBS)
                                  have hvF : v.ownBlock ≠ some F := fun e => by have := (HOX.out.lt _ e).1; omega
                                  have hvD : v.ownBlock ≠ some D := fun e => by have := (HOX.out.lt _ e).1; omega
                                  have hvB : v.ownBlock ≠ some B := fun e => by have := (HOX.out.lt _ e).1; omega
                                  have hvS : ∀ b, v.ownBlock = some b → WB ≤ b := fun b e => (HOX.out.lt _ e).1
                                  clear hk12
                                  as_aux_lemma =>
                                    go_wp2_with (first | (refine wpList_val rfl (bs_r1 _ _ _ 45 ⟨nm.toArray⟩ pr false rfl rfl) ?_) | (at_builtin; refine wpList_append_own_at _ rfl (.tmp 44) (.tmp 46) 26 rfl WB 51 i1 _ 3 32 Tryz.underlying26 hi1 hy0 hy1 hy2 rfl (by omega) v rates.length _ rfl HOA.out ⟨wX.heap.size, 0, none⟩ 1 1 [.string ⟨nm.toArray⟩, .int .i64 pr, .bool false] rfl rfl (fun j u hj => by rw [add0]; match j, hj with | 0, hj => simp at hj; subst hj; go_simp | 1, hj => simp at hj; subst hj; go_simp | 2, hj => simp at hj; subst hj; go_simp) (by simp [Value.oneCell']) (by simp only [maxLen]; omega) (by omega) (by simp; omega) ?_; intro v12 w12 hown12 hgr12 _ _; have HR12 := Lib.hid (HRA.out.grown hgr12 hvF hvD hvB); obtain ⟨a12, c12, rfl⟩ := own_shape hown12; clear z0 z1 z2 z3 z4 zf; obtain ⟨hDm, z0, z1, z2, z3, z4, zf⟩ := HR12.out.box))
                                    have HK12 : Hid (Keeps S w w12) := HKX.out.grown hgr12 (fun b e => Nat.le_trans hwW (hvS b e))
                                    have HS12 : Hid (StreamOk w12 S (k + 4 + 3 * i + 3)) := HSX.out.upto (upto_grown hgr12 (by omega) (fun b e => by have := hvS b e; omega))
                                    have hW12 : WB ≤ w12.heap.size := by have := hgr12.size; simp at this; omega
                                    have HO12 : Hid (w12.ownsRow WB 51 3 (.slice a12 (rates.length + 1) c12) (rates ++ [Rate.mk nm pr false]).length (((rates ++ [Rate.mk nm pr false]).map Rate.cells).flatten)) := by
                                      show World.ownsRow _ _ _ _ _ _ _
                                      rw [rcells_snoc, List.length_append]
                                      exact hown12
                                    have hv12 : (Value.slice a12 (rates.length + 1) c12).ownBlock ≠ some D := fun e => by have := (HO12.out.lt _ e).1; omega
                                    go_roundw
                                    case rel => exact ⟨i + 1, .slice a12 (rates.length + 1) c12, rates ++ [Rate.mk nm pr false], by omega, by go_num, by rw [List.length_append, List.length_singleton]; omega, rates_snoc HRI.out hpl (by show -2000000000000 ≤ (pr : Int); omega) (by show (pr : Int) ≤ 2000000000000; omega), own_set HO12.out hv12, by simpa using hW12, HR12.out.setv hDB _, (HS12.out.mono (by omega)).upto ((Below.refl (S + 1) w12).setCell (p := ⟨D, 4, none⟩) (by show S + 1 ≤ D; omega) _), HK12.out.setCell_new (p := ⟨D, 4, none⟩) hDw _⟩
                                    case measure => simp [intOf]; omega
                              · have HSY : Hid (StreamOk ((w11.setCell ⟨R, 1, none⟩ (.int .i64 0)).setCell ⟨R, 2, none⟩ (.bool true)) S (k + 4 + 3 * i + 3)) := HS11.out.upto (((Below.refl (S + 1) w11).setCell (p := ⟨R, 1, none⟩) (by show S + 1 ≤ R; omega) _).setCell (p := ⟨R, 2, none⟩) (by show S + 1 ≤ R; omega) _)
                                have HKY : Hid (Keeps S w ((w11.setCell ⟨R, 1, none⟩ (.int .i64 0)).setCell ⟨R, 2, none⟩ (.bool true))) := (HK11.out.setCell_new (p := ⟨R, 1, none⟩) hRw _).setCell_new (p := ⟨R, 2, none⟩) hRw _
                                have HRY : Hid (RD S F D B n names f ps pl pt v ((w11.setCell ⟨R, 1, none⟩ (.int .i64 0)).setCell ⟨R, 2, none⟩ (.bool true))) := (HR11.out.far hRD hRB _).far hRD hRB _
                                have HOY : Hid (((w11.setCell ⟨R, 1, none⟩ (.int .i64 0)).setCell ⟨R, 2, none⟩ (.bool true)).ownsRow WB 51 3 v rates.length ((rates.map Rate.cells).flatten)) := own_set (own_set HO11.out hRv) hRv
                                have g0 : ((w11.setCell ⟨R, 1, none⟩ (.int .i64 0)).setCell ⟨R, 2, none⟩ (.bool true)).cell? ⟨R, 0, none⟩ = some (.string ⟨nm.toArray⟩) := by go_simp
                                have g1 : ((w11.setCell ⟨R, 1, none⟩ (.int .i64 0)).setCell ⟨R, 2, none⟩ (.bool true)).cell? ⟨R, 1, none⟩ = some (.int .i64 0) := by go_simp
                                have g2 : ((w11.setCell ⟨R, 1, none⟩ (.int .i64 0)).setCell ⟨R, 2, none⟩ (.bool true)).cell? ⟨R, 2, none⟩ = some (.bool true) := by go_simp
                                have hWX : WB ≤ ((w11.setCell ⟨R, 1, none⟩ (.int .i64 0)).setCell ⟨R, 2, none⟩ (.bool true)).heap.size := by simpa using hW11
                                have hRX : R < ((w11.setCell ⟨R, 1, none⟩ (.int .i64 0)).setCell ⟨R, 2, none⟩ (.bool true)).heap.size := by simpa using hR11
                                skip
                                as_aux_lemma =>
                                  go_upto_region 12 with (fail)
                                  clear HS11 HK11 HR11 HO11 e0 e1 e2 ef hW11 hR11
                                  generalize (w11.setCell ⟨R, 1, none⟩ (.int .i64 0)).setCell ⟨R, 2, none⟩ (.bool true) = wX at HSY HKY HRY HOY g0 g1 g2 hWX hRX ⊢
                                  have HSX := HSY
                                  have HKX := HKY
                                  have HRX := HRY
                                  have HOX := HOY
                                  have e0 := g0
                                  have e1 := g1
                                  have e2 := g2
                                  clear HSY HKY HRY HOY g0 g1 g2
                                  obtain ⟨hDl, z0, z1, z2, z3, z4, zf⟩ := HRX.out.box
                                  have hk12 : Keeps S wX (wX.alloc (.cells #[.string ⟨nm.toArray⟩, .int .i64 0, .bool true] 51)) := (Keeps.refl _ _).alloc _
                                  have HOA := Lib.hid (HOX.out.alloc (.cells #[.string ⟨nm.toArray⟩, .int .i64 0, .bool true] 51))
                                  have HRA := Lib.hid (HRX.out.keeps hk12 hFS hDS hBS)
                                  have hvF : v.ownBlock ≠ some F := fun e => by have := (HOX.out.lt _ e).1; omega
                                  have hvD : v.ownBlock ≠ some D := fun e => by have := (HOX.out.lt _ e).1; omega
                                  have hvB : v.ownBlock ≠ some B := fun e => by have := (HOX.out.lt _ e).1; omega
                                  have hvS : ∀ b, v.ownBlock = some b → WB ≤ b := fun b e => (HOX.out.lt _ e).1
                                  clear hk12
                                  as_aux_lemma =>
                                    go_wp2_with (first | (refine wpList_val rfl (bs_r1 _ _ _ 45 ⟨nm.toArray⟩ 0 true rfl rfl) ?_) | (at_builtin; refine wpList_append_own_at _ rfl (.tmp 44) (.tmp 46) 26 rfl WB 51 i1 _ 3 32 Tryz.underlying26 hi1 hy0 hy1 hy2 rfl (by omega) v rates.length _ rfl HOA.out ⟨wX.heap.size, 0, none⟩ 1 1 [.string ⟨nm.toArray⟩, .int .i64 0, .bool true] rfl rfl (fun j u hj => by rw [add0]; match j, hj with | 0, hj => simp at hj; subst hj; go_simp | 1, hj => simp at hj; subst hj; go_simp | 2, hj => simp at hj; subst hj; go_simp) (by simp [Value.oneCell']) (by simp only [maxLen]; omega) (by omega) (by simp; omega) ?_; intro v12 w12 hown12 hgr12 _ _; have HR12 := Lib.hid (HRA.out.grown hgr12 hvF hvD hvB); obtain ⟨a12, c12, rfl⟩ := own_shape hown12; clear z0 z1 z2 z3 z4 zf; obtain ⟨hDm, z0, z1, z2, z3, z4, zf⟩ := HR12.out.box))
                                    have HK12 : Hid (Keeps S w w12) := HKX.out.grown hgr12 (fun b e => Nat.le_trans hwW (hvS b e))
                                    have HS12 : Hid (StreamOk w12 S (k + 4 + 3 * i + 3)) := HSX.out.upto (upto_grown hgr12 (by omega) (fun b e => by have := hvS b e; omega))
                                    have hW12 : WB ≤ w12.heap.size := by have := hgr12.size; simp at this; omega
                                    have HO12 : Hid (w12.ownsRow WB 51 3 (.slice a12 (rates.length + 1) c12) (rates ++ [Rate.mk nm 0 true]).length (((rates ++ [Rate.mk nm 0 true]).map Rate.cells).flatten)) := by
                                      show World.ownsRow _ _ _ _ _ _ _
                                      rw [rcells_snoc, List.length_append]
                                      exact hown12
                                    have hv12 : (Value.slice a12 (rates.length + 1) c12).ownBlock ≠ some D := fun e => by have := (HO12.out.lt _ e).1; omega
                                    go_roundw
                                    case rel => exact ⟨i + 1, .slice a12 (rates.length + 1) c12, rates ++ [Rate.mk nm 0 true], by omega, by go_num, by rw [List.length_append, List.length_singleton]; omega, rates_snoc HRI.out hpl (by show -2000000000000 ≤ (0 : Int); omega) (by show (0 : Int) ≤ 2000000000000; omega), own_set HO12.out hv12, by simpa using hW12, HR12.out.setv hDB _, (HS12.out.mono (by omega)).upto ((Below.refl (S + 1) w12).setCell (p := ⟨D, 4, none⟩) (by show S + 1 ≤ D; omega) _), HK12.out.setCell_new (p := ⟨D, 4, none⟩) hDw _⟩
                                    case measure => simp [intOf]; omega
                    · obtain rfl : i = n := by omega
                      obtain ⟨ra, rc, rfl⟩ := own_shape HOW.out
                      obtain ⟨hDl, z0, z1, z2, z3, z4, zf⟩ := HR.out.box
                      have HTH := Lib.hid HR.out.room.th
                      have HC9 := Lib.hid (World.rangeAt_setCells_same wr F 0 [.int .i64 f, .int .i64 ps, .int .i64 pl, .int .i64 pt, .slice ra rates.length rc] HTH.out)
                      have HS9 : Hid (StreamOk (wr.setCells F 0 [.int .i64 f, .int .i64 ps, .int .i64 pl, .int .i64 pt, .slice ra rates.length rc]) S (k + 43)) := (HSr.out.mono (by omega)).upto (below_setCells hSF _ _ _)
                      have HK9 : Hid (Keeps S w (wr.setCells F 0 [.int .i64 f, .int .i64 ps, .int .i64 pl, .int .i64 pt, .slice ra rates.length rc])) := keeps_setCells (Nat.le_of_eq HFW.out.symm) _ _ _ HKr.out
                      have hvF : (Value.slice ra rates.length rc).ownBlock ≠ some F := fun e => by have := (HOW.out.lt _ e).1; omega
                      have HO9 : Hid ((wr.setCells F 0 [.int .i64 f, .int .i64 ps, .int .i64 pl, .int .i64 pt, .slice ra rates.length rc]).ownsRow WB 51 3 (.slice ra rates.length rc) rates.length ((rates.map Rate.cells).flatten)) := own_set (own_set (own_set (own_set (own_set HOW.out hvF) hvF) hvF) hvF) hvF
                      clear HR HOW HSr HKr HSH
                      as_aux_lemma =>
                        go_wp2_with (refine wpList_store_mid rfl 28 (.tmp 4) (.tmp 50) rfl F 0 #[.int .i64 f, .int .i64 ps, .int .i64 pl, .int .i64 pt, .slice ra rates.length rc] rfl rfl HTH.out Tryz.deckSize (by simp [Value.oneCell']) ?_; generalize World.setCells wr F 0 _ = W9 at HC9 HS9 HK9 HO9 ⊢)
                        refine bodyPost_ret (?_ : _ = Result.ok (.agg #[.int .i64 f, .int .i64 ps, .int .i64 pl, .int .i64 pt, .slice ra rates.length rc]) _) rfl ?_
                        · exact results_cell1 (t := 4) (by rfl) _ _ _ Tryz.isAgg28 Tryz.sizeOf28 (by rfl) [.int .i64 f, .int .i64 ps, .int .i64 pl, .int .i64 pt, .slice ra rates.length rc] rfl (fun j v hj => by have := HC9.out j v hj; rw [Nat.zero_add] at this; exact this)
                        exact ⟨⟨f, ps, pl, pt, ra, rates.length, rc, rates⟩, rfl, ⟨own_le HO9.out hwW, ⟨by show rates.length ≤ 50; omega, HRI.out⟩, hf, (show -2000000000000 ≤ ps ∧ ps ≤ 2000000000000 from ⟨by omega, by omega⟩), (show -2000000000000 ≤ pl ∧ pl ≤ 2000000000000 from ⟨by omega, by omega⟩), (show -2000000000000 ≤ pt ∧ pt ≤ 2000000000000 from ⟨by omega, by omega⟩)⟩, by show rates.length ≤ 13; omega, HS9.out, HK9.out⟩
end Go.Proofs.YtacekbbndamkmaaGreatDoor

namespace Go.Proofs.YtacekbbndamkmaaGreatDoor

section
variable {P : Program} {Q : Exit → Act → World → Prop}
/-- **A region that draws, in a forced order, its last operation behind the others**: S need not hold behind that one. -/
theorem region_lastI {S : World → Prop} {id : Nat} {L : List Oper} {st : Oper} {a : Act} {w : World} (l : List (Bool × Nat)) (hm : P.follows .mixedOrders = true) (hst : L.getLast? = some st) (hg : st.guard = none) (hc : lastChk L.toArray (L.length - 1) = true)
    (hs : Region.noSelect L.dropLast.toArray = true) (hlen : l.length = L.length - 1) (hok : seqOkI L.dropLast.toArray l (Array.replicate (L.length - 1) false) = true)
    (hS : S w.drew) (h : wpSeqI P L.dropLast.toArray (lastQ P st Q) S (seqOps L.dropLast l) a w.drew) : (Code.region id L.toArray true).wp P Q a w := by
  have hd : L.dropLast.toArray.size = L.length - 1 := by simp
  refine region_last_held (S := S) (ops' := L.dropLast.toArray) (st := st) hm ?_ hg (by rw [hd]; exact hc) hS fun hS => ?_
  · obtain ⟨hne, he⟩ : ∃ hne : L ≠ [], L.getLast hne = st := by
      cases L with
      | nil => simp at hst
      | cons x xs => exact ⟨by simp, by rw [List.getLast?_eq_some_getLast (by simp)] at hst; exact Option.some.inj hst⟩
    have := List.dropLast_concat_getLast hne
    rw [he] at this
    conv => lhs; rw [← this]
    simp
  · have hok' : seqOkI L.dropLast.toArray l (Array.replicate L.dropLast.toArray.size false) = true := by rw [hd]; exact hok
    have hl : L.dropLast.toArray.size = l.length := by rw [hd, hlen]
    have := seqI_held (Q := lastQ P st Q) hs l _ a _ hok' hS h
    rw [← hl] at this
    exact this
end
end Go.Proofs.YtacekbbndamkmaaGreatDoor
