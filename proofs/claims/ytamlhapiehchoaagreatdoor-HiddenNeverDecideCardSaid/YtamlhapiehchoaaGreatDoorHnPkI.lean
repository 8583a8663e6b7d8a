/- What is proved here: lemmas and contracts for the statement, put together out of smaller texts (SeenSt, QueRows, CovSt, RegionEnd, CovWalk, CarrMath, CarrTurn, CarrOwn, CarrRows, CarrBox, FlatSet). No condition beyond those stated. -/
import Derived.Test.YtamlhapiehchoaaGreatDoorHnPkA
import Derived.Maps.OwnSet
import Derived.Maps.OwnOps
import Derived.DeepKeys4
import Derived.Laws.AppendOwn
import Derived.Maps.AppendAt
import Derived.Test.YtamlhapiehchoaaGreatDoorHnPkH
import Derived.Test.YtamlhapiehchoaaGreatDoorHnPkE
import Derived.Test.YtamlhapiehchoaaGreatDoorHnPkG
import Derived.Test.YtamlhapiehchoaaGreatDoorHnPkB
import Derived.WalkKit
import Derived.Deep.LoopGhost
import Derived.Deep.DeepCutAuto
import Derived.Test.YtamlhapiehchoaaGreatDoorHnPkC
import Derived.Test.YtamlhapiehchoaaGreatDoorHnPkF
import Derived.Deep.MidRow
set_option linter.unusedVariables false
set_option linter.unusedSimpArgs false
namespace Go.Proofs.YtamlhapiehchoaaGreatDoor
open Go.RowKit Go.Maps

abbrev stV (s : Nat × Nat) : Value := .agg #[.int .i64 s.1, .int .u64 s.2]
abbrev stK (s : Nat × Nat) : Lit := .string (keyBytes [.int .i64 s.1, .int .u64 s.2])
def StOk (s : Nat × Nat) : Prop := s.1 ≤ 31 ∧ s.2 < 4096
theorem stLaw : Keyed Tryz.prog 171 := Keyed.of_law (deep_law_laid (by kernel_rfl) (m := 3) (by decide) (of_decide_eq_true (by kernel_rfl)) (by kernel_rfl) (by kernel_rfl))
theorem stUnder : ∃ fs, Tryz.prog.underlying 171 = some (.struct fs) ∧ fs.toList.map (fun f => (f.offset, Tryz.prog.underlying f.type, Tryz.prog.cellsOf f.type)) = [(0, some (.int .i64), 1), (1, some (.int .u64), 1)] ∧ fs.all (·.name != "_") = true := ⟨_, Tryz.underlying171, by kernel_rfl, by kernel_rfl⟩
theorem succ_two {z : Nat} (h : 0 < z) : ∃ m, z + 1 = m + 2 := ⟨z - 1, by omega⟩
set_option maxRecDepth 100000 in
theorem stKey (s : Nat × Nat) (h : StOk s) : keyOf Tryz.prog 171 (stV s) = some (stK s) := by
  obtain ⟨fs, hu, hf, hn⟩ := stUnder
  have hkt : Tryz.prog.keyType 171 = true := by kernel_rfl
  have hc : Tryz.prog.cellsOf 171 = 2 := by kernel_rfl
  have hpos : 0 < Tryz.prog.types.size := of_decide_eq_true (by kernel_rfl)
  obtain ⟨m, hm⟩ := succ_two hpos
  have hw1 : (Lit.int .i64 s.1).wf = true := WalkArith.wf_i64 (by have := h.1; omega)
  have hw2 : (Lit.int .u64 s.2).wf = true := WalkArith.wf_u64 (by have := h.2; omega)
  have hv : (stV s).formed Tryz.prog 171 = true := by unfold Value.formed; rw [hu]; simp [hc]
  unfold keyOf
  rw [hu]
  simp only [hkt, hv, Bool.and_self, if_true, hm]
  unfold Program.keyLits
  rw [hu]
  have hcells : (stV s).cells.toList = [.int .i64 s.1, .int .u64 s.2] := rfl
  simp only [hcells]
  rw [if_pos ⟨by rw [hc]; rfl, hn⟩]
  generalize fs.toList = fl at hf
  have hl := congrArg List.length hf
  rw [List.length_map] at hl
  obtain ⟨f0, f1, rfl⟩ : ∃ f0 f1, fl = [f0, f1]  := by
    cases fl with
    | nil => cases hl
    | cons f0 fl =>
      cases fl with
      | nil => cases hl
      | cons f1 fl =>
        cases fl with
        | nil => exact ⟨f0, f1, rfl⟩
        | cons f2 fl => simp at hl
  simp only [List.map_cons, List.map_nil, List.cons.injEq, Prod.mk.injEq] at hf
  obtain ⟨⟨o0, u0, c0⟩, ⟨o1, u1, c1⟩, _⟩ := hf
  simp [o0, c0, o1, c1, Program.keyLits, u0, u1, hw1, hw2]
theorem stZero (w : World) : (zeroValue 4).run Tryz.prog w = .ok (.bool false) w := by kernel_rfl
theorem stMap : Tryz.prog.underlying 168 = some (.map 171 4) := by kernel_rfl
set_option maxRecDepth 100000 in
theorem stK_inj {s t : Nat × Nat} (hs : StOk s) (ht : StOk t) (h : stK s = stK t) : s = t := by
  have h1 := stKey s hs
  have h2 := stKey t ht
  rw [h] at h1
  have := stLaw.inj h1 h2
  injection this with this
  have h3 : ([.int .i64 s.1, .int .u64 s.2] : List Value) = [.int .i64 t.1, .int .u64 t.2] := congrArg Array.toList this
  injection h3 with h3 h4
  injection h4 with h4
  injection h3 with _ h3
  injection h4 with _ h4
  exact Prod.ext (by omega) (by omega)

/-- Block b is a map that says true of the states that are listed. -/
def SeenSt (w : World) (b n : Nat) (ds : List (Nat × Nat)) : Prop :=
  ∃ D : DataW Unit, w.ownsMap Tryz.prog 171 (plainElem Tryz.prog 4) b n D ∧ (∀ x, StOk x → D.atKey (stK x) (.lit (.bool false)) = .lit (.bool (ds.contains x))) ∧ (∀ x, StOk x → Maps.has D (stK x) = ds.contains x)

theorem plainElem_bool_invS {P : Program} {e : TypeId} (he : P.underlying e = some .bool) {v : Value} {z : DataW Unit × List MemPlace} (h : plainElem P e v = some z) : ∃ x, v = .bool x ∧ z = (.lit (.bool x), []) := by
  unfold plainElem at h
  rw [he] at h
  cases v <;> simp at h
  exact ⟨_, rfl, h.symm⟩

theorem SeenSt.made (w : World) : SeenSt (w.alloc (.map #[] 0)) w.heap.size 0 [] :=
  ⟨.map [], World.ownsMap_made _ _ _ _, fun x _ => rfl, fun x _ => rfl⟩
theorem SeenSt.lt {w : World} {b n : Nat} {ds : List (Nat × Nat)} (h : SeenSt w b n ds) : b < w.heap.size := by
  obtain ⟨D, ho, _⟩ := h
  exact ho.lt
theorem SeenSt.keep {w w' : World} {b n : Nat} {ds : List (Nat × Nat)} (h : SeenSt w b n ds) {row : Option Nat} (hg : w.grownBy w' row) (hr : some b ≠ row) : SeenSt w' b n ds := by
  obtain ⟨D, ho, r⟩ := h
  exact ⟨D, ho.kept hg hr, r⟩
theorem SeenSt.below {w w' : World} {b n : Nat} {ds : List (Nat × Nat)} (h : SeenSt w b n ds) (hb : Below w.heap.size w w') : SeenSt w' b n ds :=
  h.keep (row := none) ⟨hb.os, hb.tape, hb.output, hb.size, fun k hk _ => hb.block k hk⟩ (by simp)

set_option maxRecDepth 100000 in
theorem SeenSt.look {w : World} {b n : Nat} {ds : List (Nat × Nat)} (h : SeenSt w b n ds) {x : Nat × Nat} (hx : StOk x) : (Instr.lookup 168 (.map (some b)) (stV x) false).run Tryz.prog w = .ok (.bool (ds.contains x)) w := by
  obtain ⟨D, ho, hat, _⟩ := h
  obtain ⟨v, ps, hrun, hv⟩ := ho.lookup stLaw stMap (stZero w) (plainElem_bool Tryz.underlying4 false) (stKey x hx)
  obtain ⟨c, rfl, hc⟩ := plainElem_bool_invS Tryz.underlying4 hv
  rw [hat x hx] at hc
  simp only [Prod.mk.injEq, DataW.lit.injEq, Lit.bool.injEq] at hc
  rw [hrun, hc.1]
set_option maxRecDepth 100000 in
theorem SeenSt.more {w : World} {b n : Nat} {ds : List (Nat × Nat)} (h : SeenSt w b n ds) (hn : n < maxLen) {x : Nat × Nat} (hx : StOk x) : ∃ w', (Instr.mapUpdate 168 (.map (some b)) (stV x) (.bool true)).run Tryz.prog w = .ok () w' ∧ SeenSt w' b (n + 1) (ds ++ [x]) ∧ w.grownBy w' (some b) := by
  obtain ⟨D, ho, hat, hhas⟩ := h
  obtain ⟨w', hrun, ho', hg⟩ := ho.update stLaw stMap hn (stKey x hx) (plainElem_bool Tryz.underlying4 true)
  have hm := ho.isMap
  have hk : WideAt.IsKeyLit (stK x) := trivial
  have hin : ∀ y, (ds ++ [x]).contains y = (decide (y = x) || ds.contains y) := by
    intro y
    rw [Bool.eq_iff_iff]
    simp [or_comm]
  refine ⟨w', hrun, ⟨_, ho', fun y hy => ?_, fun y hy => ?_⟩, hg⟩
  · rw [hin]
    by_cases e : y = x
    · subst e; rw [atKey_put_same hm hk]; simp
    · rw [atKey_put_other (by intro e2; exact e (stK_inj hy hx e2)), hat y hy]; simp [e]
  · rw [hin]
    by_cases e : y = x
    · subst e; rw [has_put_same hm hk]; simp
    · rw [has_put_other (by intro e2; exact e (stK_inj hy hx e2)), hhas y hy]; simp [e]

set_option maxRecDepth 100000 in
/-- The look-up at its operation. -/
theorem wpList_lookSt (w : World) {ops : Array Oper} {rest : List Oper} {o : Oper} {a : Act} {Q : Exit → Act → World → Prop}
    (hg : o.guard = none) (m x : Operand) (hop : o.op = Op.lookup 168 m x false) (b n : Nat) (ds : List (Nat × Nat)) (hm : a.eval m = .map (some b)) (h : SeenSt w b n ds) (s : Nat × Nat) (hx : a.eval x = stV s) (hs : StOk s)
    (hK : wpList Tryz.prog ops Q rest (a.put o.dst (.bool (ds.contains s))) w) : wpList Tryz.prog ops Q (o :: rest) a w := by
  refine wpList_plain hg fun K' hK' => ?_
  have hrun := h.look hs
  unfold Oper.wp
  simp [execOp, hop, hm, hx, hrun, Result.andThen]
  exact hK' _ _ (by simpa using hK)
set_option maxRecDepth 100000 in
/-- The store at its operation. -/
theorem wpList_seenSt (w : World) {ops : Array Oper} {rest : List Oper} {o : Oper} {a : Act} {Q : Exit → Act → World → Prop}
    (hg : o.guard = none) (m x v : Operand) (hop : o.op = Op.mapUpdate 168 m x v) (b n : Nat) (ds : List (Nat × Nat)) (hm : a.eval m = .map (some b)) (h : SeenSt w b n ds) (hn : n < maxLen) (s : Nat × Nat) (hx : a.eval x = stV s) (hv : a.eval v = .bool true) (hs : StOk s)
    (hK : ∀ w', SeenSt w' b (n + 1) (ds ++ [s]) → w.grownBy w' (some b) → wpList Tryz.prog ops Q rest (a.put o.dst undef) w') : wpList Tryz.prog ops Q (o :: rest) a w := by
  refine wpList_plain hg fun K' hK' => ?_
  obtain ⟨w', hrun, r1, r2⟩ := h.more hn hs
  unfold Oper.wp
  simp [execOp, hop, hm, hx, hv, hrun, Result.andThen]
  exact hK' _ _ (hK w' r1 r2)
end Go.Proofs.YtamlhapiehchoaaGreatDoor

set_option linter.unusedVariables false
set_option linter.unusedSimpArgs false
namespace Go.Proofs.YtamlhapiehchoaaGreatDoor
open Go.RowKit

/-- A queue: n elements of some cells each, anywhere in a block of the call's own. -/
structure QRow (w : World) (base : Nat) (e : TypeId) (size : Nat) (v : Value) (n : Nat) (xs : List Value) : Prop where
  len : xs.length = n * size
  row : ∃ g off cap cur, v = .slice (some ⟨g, off, none⟩) n cap ∧ base ≤ g ∧ w.heap[g]? = some (.cells cur e (0, 0)) ∧ n ≤ cap ∧ cap ≤ maxLen ∧ (cap ≠ 0 → off + cap * size ≤ cur.size) ∧ (cur.toList.drop off).take (n * size) = xs
theorem QRow.keep {w w' : World} {base : Nat} {e : TypeId} {size : Nat} {v : Value} {n : Nat} {xs : List Value} (h : QRow w base e size v n xs) (hk : ∀ k, k < w.heap.size → base ≤ k → w'.heap[k]? = w.heap[k]?) : QRow w' base e size v n xs := by
  obtain ⟨h1, g, off, cap, cur, h2, h3, h4, h5⟩ := h
  refine ⟨h1, g, off, cap, cur, h2, h3, ?_, h5⟩
  rw [hk g (by
    rcases Nat.lt_or_ge g w.heap.size with h | h
    · exact h
    · rw [Array.getElem?_eq_none h] at h4; cases h4) h3]
  exact h4
theorem QRow.below {w w' : World} {base : Nat} {e : TypeId} {size : Nat} {v : Value} {n : Nat} {xs : List Value} (h : QRow w base e size v n xs) (hb : Below w.heap.size w w') : QRow w' base e size v n xs := h.keep fun k hk _ => hb.block k hk
theorem QRow.form {w : World} {base : Nat} {e : TypeId} {size : Nat} {v : Value} {n : Nat} {xs : List Value} (h : QRow w base e size v n xs) : ∃ g off cap, v = .slice (some ⟨g, off, none⟩) n cap ∧ base ≤ g ∧ g < w.heap.size ∧ n ≤ cap ∧ cap ≤ maxLen ∧ ∀ j u, xs[j]? = some u → w.cell? ⟨g, off + j, none⟩ = some u := by
  obtain ⟨h1, g, off, cap, cur, h2, h3, h4, h5, h6, h7, h8⟩ := h
  refine ⟨g, off, cap, h2, h3, ?_, h5, h6, fun j u hj => ?_⟩
  · rcases Nat.lt_or_ge g w.heap.size with h | h
    · exact h
    · rw [Array.getElem?_eq_none h] at h4; cases h4
  · have hj2 : j < xs.length := (List.getElem?_eq_some_iff.1 hj).1
    rw [← h8, List.getElem?_take_of_lt (by omega), List.getElem?_drop] at hj
    simp only [World.cell?, h4]
    simpa using hj
theorem qrow_own {w : World} {base : Nat} {e : TypeId} {size : Nat} {v : Value} {n : Nat} {xs : List Value} (h : w.ownsRow base e size v n xs) (hn : 0 < n) : QRow w base e size v n xs := by
  obtain ⟨h1, h2 | ⟨g, cap, cur, hv, hb, hg, hnc, hcm, hcs, ht⟩⟩ := h
  · omega
  · exact ⟨h1, g, 0, cap, cur, hv, hb, hg, hnc, hcm, fun _ => by rw [hcs]; omega, by rw [List.drop_zero]; exact ht⟩
/-- The head is cut off. -/
theorem QRow.cut {w : World} {base : Nat} {e : TypeId} {size n cap g off : Nat} {ys xs : List Value} (hy : ys.length = size) (h : QRow w base e size (.slice (some ⟨g, off, none⟩) (n + 1) cap) (n + 1) (ys ++ xs)) :
    QRow w base e size (.slice (some (if cap = 1 then ⟨g, off, none⟩ else ⟨g, off + size, none⟩)) n (cap - 1)) n xs := by
  obtain ⟨h1, g', off', cap', cur, h2, h3, h4, h5, h6, h7, h8⟩ := h
  injection h2 with e1 e2 e3
  injection e1 with e1
  injection e1 with e1 e4
  subst e1 e3 e4
  have hxl : xs.length = n * size := by
    rw [List.length_append, Nat.add_mul, Nat.one_mul] at h1
    omega
  by_cases hc : cap = 1
  · subst hc
    have : n = 0 := by omega
    subst this
    rw [if_pos rfl]
    refine ⟨hxl, g, off, 0, cur, rfl, h3, h4, Nat.le_refl _, Nat.zero_le _, fun h => absurd rfl h, ?_⟩
    have : xs = [] := List.eq_nil_of_length_eq_zero (by omega)
    rw [this]
    simp
  · rw [if_neg hc]
    refine ⟨hxl, g, off + size, cap - 1, cur, rfl, h3, h4, by omega, by omega, fun h => ?_, ?_⟩
    · have := h7 (by omega)
      have e : cap * size = (cap - 1) * size + size := by
        obtain ⟨c, rfl⟩ : ∃ c, cap = c + 1 := ⟨cap - 1, by omega⟩
        rw [Nat.add_sub_cancel, Nat.add_mul, Nat.one_mul]
      omega
    · have e : (n + 1) * size = size + n * size := by rw [Nat.add_mul, Nat.one_mul]; omega
      rw [e] at h8
      have h9 := congrArg (List.drop size) h8
      rw [List.drop_take, List.drop_drop, List.drop_left' hy] at h9
      rw [← h9]
      congr 1
      omega

section
variable {P : Program} (w : World)
theorem run_append_room_off (t ty e : TypeId) (i : TypeInfo) (ht : P.underlying t = some (.slice e)) (hi : P.info? e = some i)
    (g off sLen sCap : Nat) (cur : Array Value) (hg : w.heap[g]? = some (.cells cur e (0, 0)))
    (a : Addr) (m c : Nat) (news : List Value) (hl : news.length = m * i.size) (hnews : ∀ j u, news[j]? = some u → w.cell? (a.add j) = some u) (h1 : ∀ u ∈ news, u.oneCell' = true)
    (hroom : sLen + m ≤ sCap) (hfit : off + sLen * i.size + news.length ≤ cur.size) :
    (Builtin.append_ #[t, t] ty #[.slice (some ⟨g, off, none⟩) sLen sCap, .slice (some a) m c]).run P w =
      .ok (.slice (some ⟨g, off, none⟩) (sLen + m) sCap) (w.setRow g (cur.toList.take (off + sLen * i.size) ++ news ++ cur.toList.drop (off + sLen * i.size + news.length)).toArray) := by
  have hf := run_firstCells_some (P := P) w i.size m a m c news hl hnews
  have hst := run_storeCells_at P g (off + sLen * i.size) e news 0 cur w hg (by simpa using hfit) h1
  simp only [Nat.add_zero] at hst
  have ha : (⟨g, off, none⟩ : Addr).add (sLen * i.size) = ⟨g, off + sLen * i.size, none⟩ := by simp [Addr.add]
  simp [Builtin.append_, run_underlying ht, sizeOf, typeInfo, hi, Builtin.lenOf, hroom, hf, ha, hst]

theorem run_append_que (base : Nat) (t ty e : TypeId) (i : TypeInfo) (z : Value) (size bytes : Nat) (ht : P.underlying t = some (.slice e)) (hi : P.info? e = some i) (hz : i.zero = some z)
    (hsize : i.size = size) (hby : i.bytes = bytes) (hzs : z.cells.size = size) (hsz : 0 < size)
    (v : Value) (n : Nat) (xs : List Value) (hown : QRow w base e size v n xs)
    (a : Addr) (m c : Nat) (news : List Value) (hl : news.length = m * size) (hnews : ∀ j u, news[j]? = some u → w.cell? (a.add j) = some u) (h1 : ∀ u ∈ news, u.oneCell' = true)
    (h63 : n + m ≤ maxLen) (hbytes : (n + m) * bytes ≤ 140737488355328) (hbase : base ≤ w.heap.size) (hm : 0 < m) :
    ∃ v' w', (Builtin.append_ #[t, t] ty #[v, .slice (some a) m c]).run P w = .ok v' w' ∧ QRow w' base e size v' (n + m) (xs ++ news) ∧ w.grownBy w' v.ownBlock ∧ (v'.ownBlock = v.ownBlock ∨ v'.ownBlock = some w.heap.size) := by
  subst hsize
  subst hby
  have hsmall : n + m ≤ 9223372036854775807 := by simp only [maxLen] at h63; omega
  have hlen : (xs ++ news).length = (n + m) * i.size := by rw [List.length_append, hown.len, hl, Nat.add_mul]
  obtain ⟨h0, g, off, cap, cur, rfl, hbg, hg, hnc, hcm, hcs, htake⟩ := hown
  by_cases hroom : n + m ≤ cap
  · have hcs' := hcs (by omega)
    have hmul : (n + m) * i.size ≤ cap * i.size := Nat.mul_le_mul_right _ hroom
    rw [Nat.add_mul] at hmul
    have hfit : off + n * i.size + news.length ≤ cur.size := by rw [hl]; omega
    have hr := run_append_room_off (P := P) w t ty e i ht hi g off n cap cur hg a m c news hl hnews h1 hroom hfit
    refine ⟨_, _, hr, ⟨hlen, g, off, cap, _, rfl, hbg, setRow_heap w g cur _ e _ hg, hroom, hcm, fun _ => ?_, ?_⟩, ⟨rfl, rfl, rfl, by simp, fun k _ hk => setRow_other w g k _ (fun e => hk (by simp [Value.ownBlock, e]))⟩, .inl rfl⟩
    · simp only [List.size_toArray, List.length_append, List.length_take, List.length_drop, Array.length_toList]
      omega
    · have hlt : (cur.toList.take (off + n * i.size)).length = off + n * i.size := by rw [List.length_take, Array.length_toList]; omega
      show ((cur.toList.take (off + n * i.size) ++ news ++ cur.toList.drop (off + n * i.size + news.length)).drop off).take _ = _
      rw [List.append_assoc, List.drop_append_of_le_length (by omega), List.drop_take, show off + n * i.size - off = n * i.size by omega, htake, ← List.append_assoc, ← hlen]
      exact List.take_left
  · have holds : ∀ j u, xs[j]? = some u → w.cell? ((⟨g, off, none⟩ : Addr).add j) = some u := fun j u hj => by
      have hj2 : j < xs.length := (List.getElem?_eq_some_iff.1 hj).1
      rw [← htake, List.getElem?_take_of_lt (by omega), List.getElem?_drop] at hj
      rw [show (⟨g, off, none⟩ : Addr).add j = ⟨g, off + j, none⟩ by simp [Addr.add]]
      simp only [World.cell?, hg]
      simpa using hj
    have hr := run_append_grow (P := P) w t ty e i z ht hi hz ⟨g, off, none⟩ n cap xs h0 holds a m c news hl hnews (by omega) (by omega) (growslice_fits (by omega) hbytes)
    have hge := grownCap_ge w (n + m) cap e
    have hcm2 : grownCap w (n + m) cap e ≤ maxLen := grownCap_le_maxLen w (n + m) cap e h63
    refine ⟨_, _, hr, ⟨hlen, w.heap.size, 0, _, _, rfl, hbase, heap_alloc_new w.drew _, hge, hcm2, fun _ => ?_, ?_⟩, ⟨rfl, rfl, rfl, by simp, fun k hk _ => Below.heap_alloc w.drew _ k hk⟩, .inr rfl⟩
    · simp only [Array.size_append, List.size_toArray, size_zeroCells, hzs, h0, hl, ← Nat.add_mul, Nat.zero_add]
      rw [show n + m + (grownCap w (n + m) cap e - (n + m)) = grownCap w (n + m) cap e by omega]
      exact Nat.le_refl _
    · simp only [Array.toList_append, List.append_assoc, List.drop_zero]
      rw [← List.append_assoc, ← hlen]
      exact List.take_left

/-- At the operation, for the walk. -/
theorem wpList_append_que {ops : Array Oper} {rest : List Oper} {o : Oper} {a : Act} {Q : Exit → Act → World → Prop} (hgd : o.guard = none) (s x : Operand) (t : TypeId)
    (ho : o.op = .call { callee := .builtin .append, args := #[s, x], argTypes := #[t, t] })
    (base : Nat) (e : TypeId) (i : TypeInfo) (z : Value) (size bytes : Nat) (ht : P.underlying t = some (.slice e)) (hi : P.info? e = some i) (hz : i.zero = some z)
    (hsize : i.size = size) (hby : i.bytes = bytes) (hzs : z.cells.size = size) (hsz : 0 < size)
    (v : Value) (n : Nat) (xs : List Value) (hs : a.eval s = v) (hown : QRow w base e size v n xs)
    (ad : Addr) (m c : Nat) (news : List Value) (hx : a.eval x = .slice (some ad) m c) (hl : news.length = m * size) (hnews : ∀ j u, news[j]? = some u → w.cell? (ad.add j) = some u) (h1 : ∀ u ∈ news, u.oneCell' = true)
    (h63 : n + m ≤ maxLen) (hbytes : (n + m) * bytes ≤ 140737488355328) (hbase : base ≤ w.heap.size) (hm : 0 < m)
    (h : ∀ v' w', QRow w' base e size v' (n + m) (xs ++ news) → w.grownBy w' v.ownBlock → (v'.ownBlock = v.ownBlock ∨ v'.ownBlock = some w.heap.size) → wpList P ops Q rest (a.put o.dst v') w') :
    wpList P ops Q (o :: rest) a w := by
  refine wpList_plain hgd fun K hK => ?_
  obtain ⟨v', w', hr, h2, h3, h4⟩ := run_append_que (P := P) w base t o.type e i z size bytes ht hi hz hsize hby hzs hsz v n xs hown ad m c news hl hnews h1 h63 hbytes hbase hm
  unfold Oper.wp execOp
  simp only [ho, resolve, invoke, builtin, Sem.run_bind, Sem.run_pure, Result.andThen_ok, List.map_toArray, List.map_cons, List.map_nil, hs, hx, hr]
  exact hK _ _ (h v' w' h2 h3 h4)

theorem run_cut_que (t e : TypeId) (i : TypeInfo) (ht : P.underlying t = some (.slice e)) (hi : P.info? e = some i) (ad : Addr) (n cap : Nat) (hn : n + 1 ≤ cap) :
    (Instr.slice t (.slice (some ad) (n + 1) cap) (some (.int .i64 1)) none none).run P w = .ok (.slice (some (if cap = 1 then ad else ad.add i.size)) n (cap - 1)) w := by
  by_cases h1 : cap = 1
  · subst h1
    obtain rfl : n = 0 := by omega
    simp [Instr.slice, Instr.sliceBounds, Instr.sliceBound, run_underlying ht, sizeOf, typeInfo, hi, asIntOf]
  · have h2 : (1 : Int) ≤ (n : Int) + 1 := by omega
    simp [Instr.slice, Instr.sliceBounds, Instr.sliceBound, run_underlying ht, sizeOf, typeInfo, hi, asIntOf, h1, h2]
/-- The head is cut off, at the operation. -/
theorem wpList_cut_que {ops : Array Oper} {rest : List Oper} {o : Oper} {a : Act} {Q : Exit → Act → World → Prop} (hgd : o.guard = none) (x : Operand) (t : TypeId)
    (ho : o.op = .slice t x (some (.const (.int .i64 1))) none none) (e : TypeId) (i : TypeInfo) (ht : P.underlying t = some (.slice e)) (hi : P.info? e = some i) (ad : Addr) (n cap : Nat) (hx : a.eval x = .slice (some ad) (n + 1) cap) (hn : n + 1 ≤ cap)
    (h : wpList P ops Q rest (a.put o.dst (.slice (some (if cap = 1 then ad else ad.add i.size)) n (cap - 1))) w) :
    wpList P ops Q (o :: rest) a w := by
  refine wpList_plain hgd fun K hK => ?_
  have hr : (Instr.sliceAt t (.slice (some ad) (n + 1) cap) (some (.int .i64 1)) none none).run P w = .ok (.slice (some (if cap = 1 then ad else ad.add i.size)) n (cap - 1)) w := by
    simp only [Instr.sliceAt, Sem.run_bind, run_underlying ht, Result.andThen_ok]
    exact run_cut_que (P := P) w t e i ht hi ad n cap hn
  have he : a.eval (.const (.int .i64 1)) = .int .i64 1 := rfl
  unfold Oper.wp
  simp only [execOp, ho, Option.map_some, Option.map_none, hx, he, Sem.run_bind, hr, Result.andThen_ok, Sem.run_pure]
  exact hK _ _ h
end
end Go.Proofs.YtamlhapiehchoaaGreatDoor

set_option linter.unusedVariables false
set_option linter.unusedSimpArgs false
namespace Go.Proofs.YtamlhapiehchoaaGreatDoor
open Go.RowKit Go.Maps

theorem wp_skippedC {P : Program} {o : Oper} {a : Act} {w w' : World} {K : Act → World → Prop} {Q : Exit → Act → World → Prop} (h : (execOp a.eval o).run P w = .ok .skip w') (hK : K (a.put o.dst undef) w') : Oper.wp P o a w K Q := by
  unfold Oper.wp
  rw [h]
  exact hK
def stCells (s : Nat × Nat) : List Value := [.int .i64 s.1, .int .u64 s.2]
def queL (q : List (Nat × Nat)) : List Value := q.flatMap stCells
theorem queL_len (q : List (Nat × Nat)) : (queL q).length = q.length * 2 := by
  unfold queL
  induction q with
  | nil => rfl
  | cons s q ih => rw [List.flatMap_cons, List.length_append, ih, List.length_cons]; simp [stCells]; omega
theorem queL_snoc (q : List (Nat × Nat)) (s : Nat × Nat) : queL (q ++ [s]) = queL q ++ stCells s := by simp [queL]
/-- The pattern's block, the set of states that were met, the queue. -/
structure CovMem (w : World) (B : Nat) (pc : List Value) (v : Value) (seen q : List (Nat × Nat)) : Prop where
  pat : Blk w B pc 82
  sn : SeenSt w (B + 1) seen.length seen
  qu : QRow w (B + 2) 171 2 v q.length (queL q)
  bs : B + 2 ≤ w.heap.size
theorem CovMem.below {w w' : World} {B : Nat} {pc : List Value} {v : Value} {seen q : List (Nat × Nat)} (h : CovMem w B pc v seen q) (hb : Below w.heap.size w w') : CovMem w' B pc v seen q :=
  ⟨h.pat.below hb, h.sn.below hb, h.qu.below hb, Nat.le_trans h.bs hb.size⟩
theorem CovMem.met {w w' : World} {B : Nat} {pc : List Value} {v : Value} {seen q : List (Nat × Nat)} (h : CovMem w B pc v seen q) {s : Nat × Nat} (hg : w.grownBy w' (some (B + 1))) (hs : SeenSt w' (B + 1) (seen.length + 1) (seen ++ [s])) : CovMem w' B pc v (seen ++ [s]) q :=
  ⟨h.pat.grown hg (fun e => by injection e with e; omega), by rw [List.length_append]; exact hs, h.qu.keep fun k hk hb => hg.block k hk (fun e => by injection e with e; omega), Nat.le_trans h.bs hg.size⟩
theorem CovMem.block {w : World} {B : Nat} {pc : List Value} {v : Value} {seen q : List (Nat × Nat)} (h : CovMem w B pc v seen q) : ∃ g, v.ownBlock = some g ∧ B + 2 ≤ g ∧ g < w.heap.size := by
  obtain ⟨g, off, cap, rfl, hb, hlt, _⟩ := h.qu.form
  exact ⟨g, rfl, hb, hlt⟩
theorem CovMem.more {w w' : World} {B : Nat} {pc : List Value} {v v' : Value} {seen q : List (Nat × Nat)} (h : CovMem w B pc v seen q) {s : Nat × Nat} (hg : w.grownBy w' v.ownBlock) (hs : QRow w' (B + 2) 171 2 v' (q.length + 1) (queL q ++ stCells s)) : CovMem w' B pc v' seen (q ++ [s]) := by
  obtain ⟨g, hv, hb, _⟩ := h.block
  rw [hv] at hg
  exact ⟨h.pat.grown hg (fun e => by injection e with e; omega), h.sn.keep hg (fun e => by injection e with e; omega), by rw [List.length_append, queL_snoc]; exact hs, Nat.le_trans h.bs hg.size⟩
/-- What the search has done: the states of Q were met, the first h of them are done, those from k on stand in the queue. -/
structure CovAt (p : Pat) (l : List Pat) (h : Nat) (Q : List (Nat × Nat)) : Prop where
  nd : Q.Nodup
  ok : ∀ s ∈ Q, s.1 ≤ 30 ∧ s.2 < 4096
  pos : ∀ s ∈ Q.tail, 0 < s.1
  hd : ∃ Q', Q = (0, 2 ^ l.length - 1) :: Q'
  done : ∀ i, i < h → CovDone p l (· ∈ Q) (Q.getD i (0, 0))
theorem CovAt.few {p : Pat} {l : List Pat} {h : Nat} {Q : List (Nat × Nat)} (H : CovAt p l h Q) : Q.length ≤ 126976 := few_states Q H.nd H.ok
theorem CovAt.start (p : Pat) (l : List Pat) (hl : l.length ≤ 12) : CovAt p l 0 [(0, 2 ^ l.length - 1)] := by
  refine ⟨by simp, ?_, by simp, ⟨[], rfl⟩, fun i hi => by omega⟩
  intro s hs
  simp at hs
  subst hs
  have : 2 ^ l.length ≤ 2 ^ 12 := Nat.pow_le_pow_right (by omega) hl
  exact ⟨by show (0 : Nat) ≤ 30; omega, by show 2 ^ l.length - 1 < 4096; omega⟩
theorem CovAt.add {p : Pat} {l : List Pat} {h : Nat} {Q : List (Nat × Nat)} (H : CovAt p l h Q) (hh : h ≤ Q.length) {s : Nat × Nat} (hs : s.1 ≤ 30 ∧ s.2 < 4096) (h0 : 0 < s.1) (hn : s ∉ Q.tail) : CovAt p l h (Q ++ [s]) := by
  obtain ⟨Q', rfl⟩ := H.hd
  have hnq : s ∉ (0, 2 ^ l.length - 1) :: Q' := fun hm => by
    rcases List.mem_cons.1 hm with e | hm
    · rw [e] at h0; exact absurd h0 (Nat.lt_irrefl 0)
    · exact hn hm
  refine ⟨?_, ?_, ?_, ⟨Q' ++ [s], rfl⟩, ?_⟩
  · rw [List.nodup_append]
    refine ⟨H.nd, by simp, ?_⟩
    intro a ha b hb e
    simp at hb
    subst hb
    subst e
    exact hnq ha
  · intro x hx
    rcases List.mem_append.1 hx with hx | hx
    · exact H.ok x hx
    · simp at hx; subst hx; exact hs
  · intro x hx
    have hx2 : x ∈ Q' ++ [s] := hx
    rcases List.mem_append.1 hx2 with hx2 | hx2
    · exact H.pos x hx2
    · simp at hx2; subst hx2; exact h0
  · intro i hi
    rw [List.getD_eq_getElem?_getD, List.getElem?_append_left (by omega), ← List.getD_eq_getElem?_getD]
    exact (H.done i hi).mono fun x hx => List.mem_append.2 (.inl hx)
theorem CovAt.step {p : Pat} {l : List Pat} {h : Nat} {Q : List (Nat × Nat)} (H : CovAt p l h Q) (hd : CovDone p l (· ∈ Q) (Q.getD h (0, 0))) : CovAt p l (h + 1) Q :=
  ⟨H.nd, H.ok, H.pos, H.hd, fun i hi => by
    by_cases e : i = h
    · subst e; exact hd
    · exact H.done i (by omega)⟩
theorem CovAt.fin {p : Pat} {l : List Pat} {h : Nat} {Q : List (Nat × Nat)} (hl : l.length ≤ 12) (H : CovAt p l h Q) (hh : Q.length ≤ h) : CovP p l := by
  refine cov_end hl (S := (· ∈ Q)) ?_ ?_
  · obtain ⟨Q', e⟩ := H.hd
    rw [e]
    exact List.mem_cons_self
  · intro s hs
    obtain ⟨i, hi, e⟩ := List.getElem_of_mem hs
    have := H.done i (by omega)
    rw [List.getD_eq_getElem?_getD, List.getElem?_eq_getElem hi] at this
    rw [← e]
    exact this
end Go.Proofs.YtamlhapiehchoaaGreatDoor

namespace Go.Proofs.YtamlhapiehchoaaGreatDoor

section
variable {P : Program} {Q : Exit → Act → World → Prop}
/-- **A region that draws, in a forced order, its last operation behind the others**: S need not hold behind that one. -/
theorem region_lastI {S : World → Prop} {id : Nat} {L : List Oper} {st : Oper} {a : Act} {w : World} (l : List (Bool × Nat)) (hm : P.follows .mixedOrders = true) (hst : L.getLast? = some st) (hg : st.guard = none) (hc : lastChk L.toArray (L.length - 1) = true)
    (hs : Region.noSelect L.dropLast.toArray = true) (hlen : l.length = L.length - 1) (hok : seqOkI L.dropLast.toArray l (Array.replicate (L.length - 1) false) = true)
    (hS : S w.drew) (h : wpSeqI P L.dropLast.toArray (lastQ P st Q) S (seqOps L.dropLast l) a w.drew) : (Code.region id L.toArray true).wp P Q a w := by
  have hd : L.dropLast.toArray.size = L.length - 1 := by simp
  refine region_last_held (S := S) (ops' := L.dropLast.toArray) (st := st) hm ?_ hg (by rw [hd]; exact hc) hS fun hS => ?_
  · obtain ⟨hne, he⟩ : ∃ hne : L ≠ [], L.getLast hne = st := by
      cases L with
      | nil => simp at hst
      | cons x xs => exact ⟨by simp, by rw [List.getLast?_eq_some_getLast (by simp)] at hst; exact Option.some.inj hst⟩
    have := List.dropLast_concat_getLast hne
    rw [he] at this
    conv => lhs; rw [← this]
    simp
  · have hok' : seqOkI L.dropLast.toArray l (Array.replicate L.dropLast.toArray.size false) = true := by rw [hd]; exact hok
    have hl : L.dropLast.toArray.size = l.length := by rw [hd, hlen]
    have := seqI_held (Q := lastQ P st Q) hs l _ a _ hok' hS h
    rw [← hl] at this
    exact this
end
end Go.Proofs.YtamlhapiehchoaaGreatDoor

set_option linter.unusedVariables false
set_option linter.unusedSimpArgs false
namespace Go.Proofs.YtamlhapiehchoaaGreatDoor
open Go.RowKit Go.Maps

def CovPost (p : Pat) (l : List Pat) (w : World) (e : Ending) (w' : World) : Prop := ∃ b : Bool, e = .returned (.bool b) ∧ (b = true → CovP p l) ∧ Below w.heap.size w w'
theorem pow_less : ∀ n : Nat, n ≤ 12 → IntKind.u64.wrap (IntKind.u64.wrap (2 ^ n) - 1) = ((2 ^ n - 1 : Nat) : Int) := by decide
theorem infoState : (Tryz.prog.info? 171).map (fun i => (i.zero, i.size, i.bytes)) = some (some (.agg #[.int .i64 0, .int .u64 0]), 2, 16) := by kernel_rfl
theorem shl_one : ∀ k : Nat, k < 12 → IntKind.u64.wrap (2 ^ k) = ((2 ^ k : Nat) : Int) := by decide
theorem drop_head {Q : List (Nat × Nat)} {h : Nat} (hh : h < Q.length) : Q.drop h = Q.getD h (0, 0) :: Q.drop (h + 1) := by
  rw [List.drop_eq_getElem_cons hh, List.getD_eq_getElem?_getD, List.getElem?_eq_getElem hh]
  rfl
theorem getD_more {Q : List (Nat × Nat)} {h : Nat} (hh : h < Q.length) (s : Nat × Nat) : (Q ++ [s]).getD h (0, 0) = Q.getD h (0, 0) := by
  rw [List.getD_eq_getElem?_getD, List.getElem?_append_left hh, ← List.getD_eq_getElem?_getD]
theorem drop_more {Q : List (Nat × Nat)} {h : Nat} (hh : h ≤ Q.length) (s : Nat × Nat) : (Q ++ [s]).drop h = Q.drop h ++ [s] := List.drop_append_of_le_length hh
theorem tail_more {Q : List (Nat × Nat)} (hh : 0 < Q.length) (s : Nat × Nat) : (Q ++ [s]).tail = Q.tail ++ [s] := by
  cases Q with
  | nil => exact absurd hh (by decide)
  | cons x Q => rfl
set_option maxRecDepth 100000 in
set_option maxHeartbeats 8000000 in
theorem covered_any (w : World) (pa : Option Addr) (pn pc : Nat) (p : Pat) (hp : PatAt w pa pn p) (ho : PatOk p) (av : Option Addr) (n c : Nat) (l : List PatV) (h : PatsV w av n l) (hl : n ≤ 12) :
    Calls Tryz.prog 51 #[patVal pa pn pc p, .slice av n c] w (CovPost p (patsOf l) w) := by
  have hmm := @run_makeMap Tryz.prog
  obtain ⟨i0, hi, hz0, hz1, hz2⟩ := info_parts infoState
  have HP := Lib.hid h
  have HPA := Lib.hid hp
  have HPO := Lib.hid ho
  have HLN : Hid (n = (patsOf l).length) := by show n = _; rw [patsOf_len]; exact h.len
  have HPW : Hid (IntKind.u64.wrap (IntKind.u64.wrap (2 ^ n) - 1) = ((2 ^ n - 1 : Nat) : Int)) := pow_less n hl
  clear h hp ho
  unfold patVal
  obtain ⟨A1, hA1⟩ : ∃ A, A = w.alloc (.cells #[.slice pa pn pc, .int .u8 p.tail] 82) := ⟨_, rfl⟩
  have X1 : Hid (Blk A1 w.heap.size [.slice pa pn pc, .int .u8 p.tail] 82) := by rw [hA1]; exact Blk.new _ _ _
  have hs1 : A1.heap.size = w.heap.size + 1 := by rw [hA1]; simp
  have HB1 : Hid (Below w.heap.size w A1) := by rw [hA1]; exact ext_alloc (Below.refl _ _)
  have hM : SeenSt (A1.alloc (.map #[] 0)) (w.heap.size + 1) 0 [] := by rw [← hs1]; exact SeenSt.made A1
  have hs2 : (A1.alloc (.map #[] 0)).heap.size = w.heap.size + 2 := by simp [hs1]
  obtain ⟨A3, hA3⟩ : ∃ A, A = (A1.alloc (.map #[] 0)).alloc (.cells #[.int .i64 0, .int .u64 ((2 ^ n - 1 : Nat) : Int)] 171) := ⟨_, rfl⟩
  have HMEM : Hid (CovMem A3 w.heap.size [.slice pa pn pc, .int .u8 p.tail] (.slice (some ⟨w.heap.size + 1 + 1, 0, none⟩) 1 1) [] [(0, 2 ^ n - 1)]) := by
    have hb : Below (A1.alloc (.map #[] 0)).heap.size (A1.alloc (.map #[] 0)) A3 := by rw [hA3]; exact ext_alloc (Below.refl _ _)
    refine ⟨(X1.out.alloc _).below hb, hM.below hb, ⟨rfl, w.heap.size + 1 + 1, 0, 1, #[.int .i64 0, .int .u64 ((2 ^ n - 1 : Nat) : Int)], rfl, Nat.le_refl _, ?_, Nat.le_refl _, by unfold maxLen; omega, fun _ => Nat.le_refl _, rfl⟩, ?_⟩
    · rw [hA3]
      have := (Blk.new (A1.alloc (.map #[] 0)) [.int .i64 0, .int .u64 ((2 ^ n - 1 : Nat) : Int)] 171).at_
      rw [hs2] at this
      exact this
    · rw [hA3]; simp [hs1]
  have HB3 : Hid (Below w.heap.size w A3) := by rw [hA3]; exact ext_alloc (ext_alloc HB1.out)
  clear hM hs2 HB1 X1 hs1
  go_enter Tryz.func51, Tryz.ntmps51
  go_upto_region 2 with (fail)
  go_wp2_with fail
  rw [HPW.out]
  rw [hA1] at hA3
  have hA4 : A3 = (((w.alloc (.cells #[.slice pa pn pc, .int .u8 p.tail] 82)).alloc (.map #[] 0)).alloc (.cells #[.int .i64 0, .int .u64 ((2 ^ n - 1 : Nat) : Int)] 171)) := hA3
  rw [← hA4]
  clear hA1 hA3 hA4 hmm HPW
  obtain ⟨P, hP⟩ : ∃ P, P = w.heap.size := ⟨_, rfl⟩
  have HPE := Lib.hid hP
  rw [← hP] at HMEM ⊢
  clear hP
  go_loopg [6] 126977 (fun g v wr => ∃ (h : Nat) (Q : List (Nat × Nat)), g + h = 126977 ∧ h ≤ Q.length ∧ Hid (CovAt p (patsOf l) h Q) ∧ Hid (CovMem wr P [.slice pa pn pc, .int .u8 p.tail] v Q.tail (Q.drop h)) ∧ Hid (Below w.heap.size w wr))
  case atStart => exact ⟨0, [(0, 2 ^ n - 1)], rfl, Nat.zero_le _, by have := CovAt.start p (patsOf l) (by rw [← HLN.out]; exact hl); rw [← HLN.out] at this; exact this, HMEM.out, HB3.out⟩
  case round =>
    obtain ⟨h, Q, hg, hh, HAT, HME, HB⟩ := hrel
    have hl2 : (patsOf l).length ≤ 12 := by rw [← HLN.out]; exact hl
    by_cases hemp : h = Q.length
    · obtain ⟨g0, off, cap, hv, _, _, hnc, hcm, _⟩ := HME.out.qu.form
      have hq0 : (Q.drop h).length = 0 := by rw [List.length_drop]; omega
      rw [hq0] at hv
      subst hv
      have HC := Lib.hid (CovAt.fin hl2 HAT.out (by omega))
      clear hq0 hemp HAT HME
      as_aux_lemma =>
        go_wp2_with fail
        go_ret
        exact ⟨true, rfl, fun _ => HC.out, HB.out⟩
    have hlt : h < Q.length := by omega
    clear hemp
    have hdr := drop_head hlt
    obtain ⟨⟨t, a⟩, hs⟩ : ∃ s, s = Q.getD h (0, 0) := ⟨_, rfl⟩
    rw [← hs] at hdr
    have HS := Lib.hid hs
    have hmem : (t, a) ∈ Q := by
      rw [hs, List.getD_eq_getElem?_getD, List.getElem?_eq_getElem hlt]
      exact List.getElem_mem hlt
    obtain ⟨ht30, ha⟩ := HAT.out.ok _ hmem
    have ht30 : t ≤ 30 := ht30
    have ha : a < 4096 := ha
    have hqu : QRow wr (P + 2) 171 2 u6 ((Q.drop (h + 1)).length + 1) (stCells (t, a) ++ queL (Q.drop (h + 1))) := by
      have := HME.out.qu
      rw [hdr] at this
      exact this
    obtain ⟨g0, off, cap, hv, hb0, hglt, hnc, hcm, hcell⟩ := hqu.form
    subst hv
    have c0 : wr.cell? ⟨g0, off, none⟩ = some (.int .i64 t) := hcell 0 _ rfl
    have c1 : wr.cell? ⟨g0, off + 1, none⟩ = some (.int .u64 a) := hcell 1 _ rfl
    have HQ2 := Lib.hid (QRow.cut (size := 2) (ys := stCells (t, a)) rfl hqu)
    have HOW : Hid (g0 < wr.heap.size) := hglt
    obtain ⟨m, hm⟩ : ∃ m, m = (Q.drop (h + 1)).length := ⟨_, rfl⟩
    have HMM := Lib.hid hm
    rw [← hm] at HQ2 hnc ⊢
    have HAA : (⟨g0, off, none⟩ : Addr).add 2 = ⟨g0, off + 2, none⟩ := rfl
    have HAA2 := Lib.hid HAA
    clear hm hdr hs hmem hqu hcell hb0 HAA hglt
    have W1 : Hid (Blk (wr.alloc (.cells #[.int .i64 t, .int .u64 a] 171)) wr.heap.size [.int .i64 t, .int .u64 a] 171) := Blk.new _ _ _
    have HX1 : Hid (Below wr.heap.size wr (wr.alloc (.cells #[.int .i64 t, .int .u64 a] 171))) := ext_alloc (Below.refl _ _)
    as_aux_lemma =>
      go_upto_region 5 with (fail)
      generalize (wr.alloc (.cells #[.int .i64 t, .int .u64 a] 171)) = w1 at W1 HX1 ⊢
      obtain ⟨S, hSe⟩ : ∃ S, S = wr.heap.size := ⟨_, rfl⟩
      have HSE := Lib.hid hSe
      rw [← hSe] at W1 HOW ⊢
      clear hSe c0 c1
      go_upto_region 6 with (refine wpList_cut_que _ rfl (.tmp 29) 172 rfl 171 i0 Tryz.underlying172 hi ⟨g0, off, none⟩ m cap rfl hnc ?_; rw [hz1, HAA2.out])
      obtain ⟨v2, hv2⟩ : ∃ v2, v2 = Value.slice (some (if cap = 1 then (⟨g0, off, none⟩ : Addr) else ⟨g0, off + 2, none⟩)) m (cap - 1) := ⟨_, rfl⟩
      have HNS : Hid (v2.ownBlock ≠ some S) := by
        show v2.ownBlock ≠ some S
        rw [hv2]
        have := HOW.out
        split <;> (intro e; injection e with e; have e2 : g0 = S := e; omega)
      rw [← hv2] at HQ2
      rw [← hv2]
      clear hv2 HOW HAA2 hcm hnc
      have HM1 : Hid (CovMem w1 P [.slice pa pn pc, .int .u8 p.tail] v2 Q.tail (Q.drop (h + 1))) := by
        have h1 : CovMem wr P [.slice pa pn pc, .int .u8 p.tail] v2 Q.tail (Q.drop (h + 1)) := ⟨HME.out.pat, HME.out.sn, by rw [← HMM.out]; exact HQ2.out, HME.out.bs⟩
        exact h1.below HX1.out
      have HB2 : Hid (Below w.heap.size w w1) := HB.out.trans (HX1.out.mono (by have := HB.out.size; exact this))
      have p0 := HM1.out.pat.cell 0 rfl
      have p1 := HM1.out.pat.cell 1 rfl
      have s0 := W1.out.cell 0 rfl
      have s1 := W1.out.cell 1 rfl
      clear HQ2 HMM HME HX1
      as_aux_lemma =>
        go_wp2_with fail
        refine (takes_any _ pa pn pc p (HPA.out.below HB2.out) HPO.out t (by omega)).mono ?_
        rintro e w2 ⟨rfl, hb⟩
        have W2 := Lib.hid (W1.out.below hb)
        have HM2 := Lib.hid (HM1.out.below hb)
        have HB3 := Lib.hid (ext_trans HB2.out hb)
        have HM4 : Hid (p.at_ t < 4096) := Pat.at_lt HPO.out t
        clear hb p0 p1 s0 s1 W1 HM1 HB2
        generalize hMe : p.at_ t = M at HM4 ⊢
        have HMe := Lib.hid hMe
        generalize hFe : p.fin t = fe
        have HFe := Lib.hid hFe
        clear hMe hFe
        have s0 := W2.out.cell 0 rfl
        have s1 := W2.out.cell 1 rfl
        as_aux_lemma =>
          go_upto_region 7 with (fail)
          go_cut [52] from 23 to 106 (fun v wx => ∃ b : Bool, v = .bool b ∧ Hid (b = false → p.fin t = true → 0 < t → ∃ j, j < (patsOf l).length ∧ a.testBit j = true ∧ ((patsOf l).getD j noPat).fin t = true) ∧ Hid (Below w2.heap.size w2 wx))
          case first =>
            cases fe
            · skip
              as_aux_lemma =>
                go_wp2_with fail
                go_meet
                exact ⟨false, rfl, (fun _ hf => by rw [HFe.out] at hf; cases hf), Below.refl _ _⟩
            · by_cases ht0 : t = 0
              · subst ht0
                as_aux_lemma =>
                  go_wp2_with fail
                  go_meet
                  exact ⟨false, rfl, (fun _ _ h0 => absurd h0 (Nat.lt_irrefl 0)), Below.refl _ _⟩
              · have hti : (0 : Int) < (t : Int) := by omega
                as_aux_lemma =>
                  go_wp2_with fail
                  refine (ends_any _ av n c l (HP.out.below HB3.out) hl a t ha ht30).mono ?_
                  rintro e w3 ⟨b, rfl, hbt, hb⟩
                  have HBT := Lib.hid hbt
                  have HB9 := Lib.hid hb
                  clear hbt hb
                  as_aux_lemma =>
                    go_wp2_with fail
                    go_meet
                    exact ⟨!b, rfl, (fun h9 _ _ => HBT.out (by simpa using h9)), HB9.out⟩
          case rest =>
            obtain ⟨b, rfl, hbt, hV⟩ := hcut
            obtain ⟨w4, rfl⟩ : ∃ x : World, x = wc := ⟨_, rfl⟩
            have W4 := Lib.hid (W2.out.below hV.out)
            have HM5 := Lib.hid (HM2.out.below hV.out)
            have HB4 := Lib.hid (ext_trans HB3.out hV.out)
            clear hV W2 HM2 HB3 s0 s1
            have s0 := W4.out.cell 0 rfl
            have s1 := W4.out.cell 1 rfl
            have hgk : 1 ≤ gk := by have := HAT.out.few; omega
            cases b
            case true =>
              as_aux_lemma =>
                go_wp2_with fail
                go_ret
                exact ⟨false, rfl, (fun h => absurd h (by decide)), HB4.out⟩
            have HFN := Lib.hid (hbt.out rfl)
            clear hbt
            have HSQ : Hid (Q.getD h (0, 0) = (t, a)) := HS.out.symm
            by_cases ht : t = 30
            · have hti : ((t : Int) == 30) = true := by simp; omega
              as_aux_lemma =>
                go_wp2_with fail
                go_roundg (gk - 1)
                case measure => omega
                case rel => exact ⟨h + 1, Q, by omega, by omega, HAT.out.step (by rw [HSQ.out]; exact ⟨HFN.out, fun h30 => absurd ht h30⟩), HM5.out, HB4.out⟩
            have hti : ((t : Int) == 30) = false := by simp; omega
            as_aux_lemma =>
              go_wp2_with fail
              clear hti
              go_loopw [6, 56] (fun v it wq => ∃ (i : Nat) (Q2 : List (Nat × Nat)), i ≤ 12 ∧ it = .int .i64 i ∧ Hid (CovAt p (patsOf l) h Q2) ∧ Hid (h < Q2.length ∧ Q2.getD h (0, 0) = (t, a)) ∧ Hid (CovMem wq P [.slice pa pn pc, .int .u8 p.tail] v Q2.tail (Q2.drop (h + 1))) ∧ Hid (Blk wq S [.int .i64 t, .int .u64 a] 171) ∧ Hid (v.ownBlock ≠ some S) ∧ Hid (Below w.heap.size w wq) ∧ Hid (∀ j, j < i → M.testBit j = true → (t + 1, clrTo (patsOf l) t j a (patsOf l).length) ∈ Q2)) (fun _ it _ => 12 - (intOf it).toNat)
              case atStart => exact ⟨0, Q, by omega, rfl, HAT, ⟨hlt, HSQ.out⟩, HM5, W4, HNS, HB4, fun j hj => absurd hj (by omega)⟩
              case round =>
                clear s0 s1
                obtain ⟨i, Q2, hi12, rfl, HA2, HQ2, HME2, HW2, HN2, HBq, HPT⟩ := hrel
                clear HAT HM5 W4 HNS HB4 HSQ HS
                by_cases hli : i < 12
                case neg =>
                  have hni : ¬ (i : Int) < 12 := by omega
                  as_aux_lemma =>
                    go_wp2_with fail
                    go_roundg (gk - 1)
                    case measure => omega
                    case rel => exact ⟨h + 1, Q2, by omega, HQ2.out.1, HA2.out.step (by rw [HQ2.out.2]; exact ⟨HFN.out, fun _ j hj hb => HPT.out j (by omega) (by rw [← HMe.out]; exact hb)⟩), HME2.out, HBq.out⟩
                have hii : (i : Int) < 12 := by omega
                have hsh := u16_shift M i HM4.out hli
                cases hMb : M.testBit i
                · rw [hMb] at hsh
                  simp only [Bool.false_eq_true, if_false] at hsh
                  have HMb := Lib.hid hMb
                  clear hMb
                  as_aux_lemma =>
                    go_wp2_with fail
                    go_roundw
                    case rel => exact ⟨i + 1, Q2, by omega, by go_num, HA2, HQ2, HME2, HW2, HN2, HBq, fun j hj hb => by
                      by_cases e : j = i
                      · subst e; rw [HMb.out] at hb; cases hb
                      · exact HPT.out j (by omega) hb⟩
                    case measure => simp [intOf]; omega
                rw [hMb, if_pos rfl] at hsh
                have HMb := Lib.hid hMb
                clear hMb
                have s0 := HW2.out.cell 0 rfl
                have s1 := HW2.out.cell 1 rfl
                obtain ⟨wi, rfl⟩ : ∃ x : World, x = wr := ⟨_, rfl⟩
                obtain ⟨N, hN⟩ : ∃ N, N = wi.heap.size := ⟨_, rfl⟩
                have HNE := Lib.hid hN
                have XN : Hid (Blk (wi.alloc (.cells #[.int .i64 ((t : Int) + 1), .int .u64 a] 171)) N [.int .i64 ((t : Int) + 1), .int .u64 a] 171) := by rw [hN]; exact Blk.new _ _ _
                have HXN : Hid (Below wi.heap.size wi (wi.alloc (.cells #[.int .i64 ((t : Int) + 1), .int .u64 a] 171))) := ext_alloc (Below.refl _ _)
                as_aux_lemma =>
                  go_upto_region 15 with (fail)
                  generalize (wi.alloc (.cells #[.int .i64 ((t : Int) + 1), .int .u64 a] 171)) = wj at XN HXN ⊢
                  rw [← hN]
                  clear hN s0 s1 hsh
                  go_wp2_with fail
                  go_loopw [72] (fun it wq => ∃ k : Nat, k ≤ n ∧ it = .int .i64 k ∧ Hid (Blk wq N [.int .i64 ((t : Int) + 1), .int .u64 (clrTo (patsOf l) t i a k)] 171) ∧ Hid (Below wi.heap.size wi wq)) (fun it _ => n - (intOf it).toNat)
                  case atStart => exact ⟨0, Nat.zero_le _, rfl, XN, HXN⟩
                  case round =>
                    clear XN HXN
                    obtain ⟨k, hk, rfl, HXK, HBK⟩ := hrel
                    have HMK := Lib.hid (HME2.out.below HBK.out)
                    have HWK := Lib.hid (HW2.out.below HBK.out)
                    have HBT := Lib.hid (ext_trans HBq.out HBK.out)
                    by_cases hlk : k < n
                    · have HPw := Lib.hid (HP.out.below HBT.out)
                      rcases HPw.out.row with h0 | ⟨q, rfl, HQ⟩
                      · omega
                      have hll : k < l.length := by have := HLN.out; rw [patsOf_len] at this; omega
                      have g0 := HQ.c0 k hll
                      have g1 := HQ.c1 k hll
                      have hqz := HQ.lt
                      obtain ⟨hpa, hpok⟩ := HQ.each k hll
                      have HPA2 := Lib.hid hpa
                      have HPO2 := Lib.hid hpok
                      have HPE2 := Lib.hid (patsOf_get l k hll)
                      have s0 := HWK.out.cell 0 rfl
                      clear hpa hpok HQ HPw hll
                      generalize l.getD k noPatV = pv at g0 g1 HPA2 HPO2 HPE2
                      obtain ⟨pa2, pn2, pc2, pp⟩ := pv
                      simp only at g0 g1
                      have hSlt := HWK.out.lt
                      as_aux_lemma =>
                        go_wp2_with fail
                        refine (takes_any _ pa2 pn2 pc2 pp (HPA2.out.below (ext_alloc (Below.refl _ _))) HPO2.out t (by omega)).mono ?_
                        rintro e w5 ⟨rfl, hb1⟩
                        have hb2 := ext_trans (ext_alloc (Below.refl _ wr)) hb1
                        have XK5 := Lib.hid (HXK.out.below hb2)
                        have HB5 := Lib.hid (ext_trans HBK.out hb2)
                        have HM5 : Hid (pp.at_ t < 4096) := Pat.at_lt HPO2.out t
                        have HCL : Hid (clrTo (patsOf l) t i a (k + 1) = if (pp.at_ t).testBit i then clrTo (patsOf l) t i a k else clrTo (patsOf l) t i a k &&& (4095 - 2 ^ k)) := by
                          show clrTo (patsOf l) t i a (k + 1) = _
                          unfold clrTo
                          rw [HPE2.out]
                          cases k <;> rfl
                        have HAL : Hid (clrTo (patsOf l) t i a k < 4096) := clrTo_lt ha k
                        clear hb1 hb2 g0 g1 HPA2 HPO2 HPE2 s0 HXK HWK HMK hqz hSlt
                        generalize pp.at_ t = M2 at HM5 HCL ⊢
                        generalize pp.fin t = f2
                        generalize clrTo (patsOf l) t i a k = A at HCL HAL XK5
                        have hsh := u16_shift M2 i HM5.out hli
                        cases hMb : M2.testBit i
                        · rw [hMb] at hsh
                          simp only [Bool.false_eq_true, if_false] at hsh
                          have HCL2 : Hid (clrTo (patsOf l) t i a (k + 1) = A &&& (4095 - 2 ^ k)) := by have := HCL.out; rw [hMb] at this; show _ = _; simpa using this
                          clear hMb HCL
                          have hcl := u64_clr A k HAL.out (by omega)
                          have hsk := shl_one k (by omega)
                          generalize 2 ^ k = pw at HCL2 hcl hsk
                          generalize A &&& (4095 - pw) = A2 at HCL2 hcl
                          have HS0 : Hid (w5.drew.cell? ⟨N, 1, none⟩ = some (.int .u64 A)) := (XK5.out.same (w' := w5.drew) rfl).cell 1 rfl
                          have HX9 : Hid (Blk (w5.drew.setCell ⟨N, 1, none⟩ (.int .u64 A2)) N [.int .i64 ((t : Int) + 1), .int .u64 A2] 171) := (XK5.out.same (w' := w5.drew) rfl).put 1 _
                          have HB9 : Hid (Below wi.heap.size wi (w5.drew.setCell ⟨N, 1, none⟩ (.int .u64 A2))) := (ext_drew HB5.out).setCell (by have := HNE.out; exact Nat.le_of_eq this.symm) _
                          have n1 := XK5.out.cell 1 rfl
                          have nf := XK5.out.fr 1
                          as_aux_lemma =>
                            go_upto_region 20 with (fail)
                            refine region_lastI (S := fun W => W.cell? ⟨N, 1, none⟩ = some (.int .u64 A)) [(true, 0), (true, 1), (true, 2), (true, 3), (true, 4), (true, 5)] (by kernel_rfl) rfl rfl (by kernel_rfl) (by kernel_rfl) rfl (by kernel_rfl) HS0.out ?_
                            simp only [seqOps, List.dropLast, List.getD_cons_zero, List.getD_cons_succ]
                            refine seqI_take (v := .pointer (some ⟨N, 1, none⟩)) rfl (fun W hW => by clear hW; go_simp) (fun _ _ _ h => h) ?_
                            simp only [Act.put, List.setIfInBounds_toArray, List.set_cons_zero, List.set_cons_succ]
                            refine seqI_take (v := .int .u64 A) rfl (fun W hW => by go_simp) (fun _ _ _ h => h) ?_
                            simp only [Act.put, List.setIfInBounds_toArray, List.set_cons_zero, List.set_cons_succ]
                            refine seqI_take (v := .int .i64 k) rfl (fun W hW => by clear hW; go_simp) (fun _ _ _ h => h) ?_
                            simp only [Act.put, List.setIfInBounds_toArray, List.set_cons_zero, List.set_cons_succ]
                            refine seqI_take (v := .int .u64 pw) rfl (fun W hW => by clear hW; go_simp) (fun _ _ _ h => h) ?_
                            simp only [Act.put, List.setIfInBounds_toArray, List.set_cons_zero, List.set_cons_succ]
                            refine seqI_take (v := .int .u64 A2) rfl (fun W hW => by clear hW; go_simp) (fun _ _ _ h => h) ?_
                            simp only [Act.put, List.setIfInBounds_toArray, List.set_cons_zero, List.set_cons_succ]
                            refine seqI_take (v := .pointer (some ⟨N, 1, none⟩)) rfl (fun W hW => by clear hW; go_simp) (fun _ _ _ h => h) ?_
                            simp only [Act.put, List.setIfInBounds_toArray, List.set_cons_zero, List.set_cons_succ]
                            refine seqI_nil (Or.inl ?_)
                            refine wp_skippedC (w' := w5.drew.setCell ⟨N, 1, none⟩ (.int .u64 A2)) (by go_simp) ?_
                            simp only [Act.put]
                            generalize w5.drew.setCell ⟨N, 1, none⟩ (.int .u64 A2) = w9 at HX9 HB9 ⊢
                            clear HS0 hcl hsk hsh n1 nf
                            go_wp2_with fail
                            go_roundw
                            case rel => exact ⟨k + 1, by omega, by go_num, by rw [HCL2.out]; exact HX9, HB9⟩
                            case measure => simp [intOf]; omega
                        · rw [hMb, if_pos rfl] at hsh
                          have HCL2 : Hid (clrTo (patsOf l) t i a (k + 1) = A) := by have := HCL.out; rw [hMb] at this; show _ = _; simpa using this
                          clear hMb HCL
                          as_aux_lemma =>
                            go_wp2_with fail
                            go_roundw
                            case rel => exact ⟨k + 1, by omega, by go_num, by rw [HCL2.out]; exact XK5, HB5⟩
                            case measure => simp [intOf]; omega
                    · obtain rfl : k = n := by omega
                      have HLK : Hid (clrTo (patsOf l) t i a (patsOf l).length < 4096) := clrTo_lt ha _
                      have HXN : Hid (Blk wr N [.int .i64 ((t : Int) + 1), .int .u64 (clrTo (patsOf l) t i a (patsOf l).length)] 171) := by have := HXK.out; rw [HLN.out] at this; exact this
                      obtain ⟨A, hA⟩ : ∃ A, A = clrTo (patsOf l) t i a (patsOf l).length := ⟨_, rfl⟩
                      have HAE := Lib.hid hA
                      rw [← hA] at HXN HLK
                      clear hA HXK
                      have hsok : StOk (t + 1, A) := ⟨by show t + 1 ≤ 31; omega, HLK.out⟩
                      have HSOK := Lib.hid hsok
                      have n0 := HXN.out.cell 0 rfl
                      have n1 := HXN.out.cell 1 rfl
                      have HSN := Lib.hid HMK.out.sn
                      have hNS : N ≠ S := by have := HNE.out; have := HW2.out.lt; omega
                      have HNS2 := Lib.hid hNS
                      obtain ⟨ct, hct⟩ : ∃ ct, ct = Q2.tail.contains (t + 1, A) := ⟨_, rfl⟩
                      have HCT := Lib.hid hct
                      clear hsok hNS hct
                      have hBS := HMK.out.bs
                      cases ct
                      case true =>
                        have hin : (t + 1, A) ∈ Q2 := by
                          have h1 := HCT.out.symm
                          have h2 : (t + 1, A) ∈ Q2.tail := by simpa using h1
                          exact List.mem_of_mem_tail h2
                        have HIN := Lib.hid hin
                        clear hin
                        as_aux_lemma =>
                          go_wp2_with (at_lookup; refine wpList_lookSt _ rfl (.tmp 96) (.tmp 97) rfl (P + 1) _ Q2.tail rfl HSN.out (t + 1, A) rfl HSOK.out ?_; rw [← HCT.out])
                          go_roundw
                          case rel => exact ⟨i + 1, Q2, by omega, by go_num, HA2, HQ2, HMK, HWK, HN2, HBT, fun j hj hb => by
                            by_cases e : j = i
                            · subst e; rw [← HAE.out]; exact HIN.out
                            · exact HPT.out j (by omega) hb⟩
                          case measure => simp [intOf]; omega
                      have hnin : (t + 1, A) ∉ Q2.tail := fun hm => by
                        have h1 := HCT.out
                        rw [List.contains_iff_mem.2 hm] at h1
                        cases h1
                      have HLT : Hid (Q2.tail.length < maxLen) := by
                        have h1 := HA2.out.few
                        show _ < _
                        rw [List.length_tail]
                        unfold maxLen
                        omega
                      have HAD : Hid (CovAt p (patsOf l) h (Q2 ++ [(t + 1, A)])) := HA2.out.add (Nat.le_of_lt HQ2.out.1) ⟨by show t + 1 ≤ 30; omega, HLK.out⟩ (by show 0 < t + 1; omega) hnin
                      have HQL : Hid ((Q2.drop (h + 1)).length ≤ 126976) := by
                        have h1 := HA2.out.few
                        show _ ≤ _
                        rw [List.length_drop]
                        omega
                      clear hnin
                      as_aux_lemma =>
                        go_upto_region 23 with (at_lookup; refine wpList_lookSt _ rfl (.tmp 96) (.tmp 97) rfl (P + 1) _ Q2.tail rfl HSN.out (t + 1, A) rfl HSOK.out ?_; rw [← HCT.out])
                        go_upto_region 24 with (at_mapUpdate; refine wpList_seenSt _ rfl (.tmp 100) (.tmp 101) (.const (.bool true)) rfl (P + 1) _ Q2.tail rfl HSN.out HLT.out (t + 1, A) rfl rfl HSOK.out ?_; intro w6 hsn6 hgr6)
                        have hNP : N ≠ P + 1 := by have := HNE.out; have := HMK.out.sn.lt; have := HME2.out.sn.lt; omega
                        have hSP : S ≠ P + 1 := by
                          have h1 := HW2.out
                          have h2 := HME2.out.sn
                          intro e
                          obtain ⟨D, ⟨es, clock, hb, _⟩, _⟩ := h2
                          have h3 := h1.at_
                          rw [e, hb] at h3
                          cases h3
                        have hPw := HPE.out
                        have HM6 := Lib.hid (HMK.out.met hgr6 hsn6)
                        have XN6 := Lib.hid (HXN.out.grown hgr6 (fun e => hNP (by injection e with e; exact e.symm)))
                        have HW6 := Lib.hid (HWK.out.grown hgr6 (fun e => hSP (by injection e with e; exact e.symm)))
                        have HB6 : Hid (Below w.heap.size w w6) := HBT.out.grown hgr6 (by have := HBT.out.size; exact this) (fun k hk => by injection hk with hk; omega)
                        clear hPw hsn6 hgr6 HMK HXN HWK HBT hNP hSP n0 n1 HSN hBS
                        have n0 := XN6.out.cell 0 rfl
                        have n1 := XN6.out.cell 1 rfl
                        obtain ⟨w7, hw7⟩ : ∃ w7, w7 = w6.alloc (.cells #[.int .i64 ((t : Int) + 1), .int .u64 A] 171) := ⟨_, rfl⟩
                        have hb7 : Below w6.heap.size w6 w7 := by rw [hw7]; exact ext_alloc (Below.refl _ _)
                        have HM7 := Lib.hid (HM6.out.below hb7)
                        have HW7 := Lib.hid (HW6.out.below hb7)
                        have HB7 := Lib.hid (ext_trans HB6.out hb7)
                        have HZ7 : Hid (Blk w7 w6.heap.size [.int .i64 ((t : Int) + 1), .int .u64 A] 171) := by rw [hw7]; exact Blk.new _ _ _
                        have HNW : Hid (∀ j u, (stCells (t + 1, A))[j]? = some u → w7.cell? ((⟨w6.heap.size, 0, none⟩ : Addr).add j) = some u) := fun j u hj => by
                          rw [show (⟨w6.heap.size, 0, none⟩ : Addr).add j = ⟨w6.heap.size, j, none⟩ by cases j <;> simp [Addr.add]]
                          exact HZ7.out.cell j hj
                        have HQ7 := Lib.hid HM7.out.qu
                        have HW7E := Lib.hid hw7
                        have HBS7 := Lib.hid HM7.out.bs
                        have h63 : Hid ((Q2.drop (h + 1)).length + 1 ≤ maxLen ∧ ((Q2.drop (h + 1)).length + 1) * 16 ≤ 140737488355328) := ⟨by have := HQL.out; unfold maxLen; omega, by have := HQL.out; omega⟩
                        clear hb7 hw7 HM6 HW6 HB6 XN6
                        as_aux_lemma =>
                          go_upto_region 25 with (at_builtin; rw [← HW7E.out]; refine wpList_append_que _ rfl (.tmp 102) (.tmp 104) 172 rfl (P + 2) 171 i0 (.agg #[.int .i64 0, .int .u64 0]) 2 16 Tryz.underlying172 hi hz0 hz1 hz2 rfl (by decide) u6 _ (queL (Q2.drop (h + 1))) rfl HQ7.out ⟨w6.heap.size, 0, none⟩ 1 1 (stCells (t + 1, A)) rfl rfl HNW.out (by intro u hu; simp [stCells] at hu; rcases hu with rfl | rfl <;> rfl) h63.out.1 h63.out.2 HBS7.out (by decide) ?_; intro v8 w8 hq8 hg8 hat8)
                          have HM8 := Lib.hid (HM7.out.more hg8 hq8)
                          have HN8 : Hid (v8.ownBlock ≠ some S) := by
                            show v8.ownBlock ≠ some S
                            rcases hat8 with e | e
                            · rw [e]; exact HN2.out
                            · rw [e]
                              have := HW7.out.lt
                              intro e2
                              injection e2 with e2
                              omega
                          have HW8 := Lib.hid (HW7.out.grown hg8 HN2.out)
                          have HB8 : Hid (Below w.heap.size w w8) := by
                            obtain ⟨g, hv, hb, _⟩ := HM7.out.block
                            rw [hv] at hg8
                            exact HB7.out.grown hg8 (by have := HB7.out.size; exact this) (fun k hk => by injection hk with hk; have := HPE.out; omega)
                          have HTL : Hid ((Q2 ++ [(t + 1, A)]).tail = Q2.tail ++ [(t + 1, A)]) := tail_more (by have := HQ2.out.1; omega) _
                          have HDL : Hid ((Q2 ++ [(t + 1, A)]).drop (h + 1) = Q2.drop (h + 1) ++ [(t + 1, A)]) := drop_more (by have := HQ2.out.1; omega) _
                          have HGL : Hid ((Q2 ++ [(t + 1, A)]).getD h (0, 0) = (t, a)) := by show _ = _; rw [getD_more HQ2.out.1]; exact HQ2.out.2
                          clear hat8 hg8 hq8
                          as_aux_lemma =>
                            go_wp2_with fail
                            go_roundw
                            case rel => exact ⟨i + 1, Q2 ++ [(t + 1, A)], by omega, by go_num, HAD, ⟨by have := HQ2.out.1; rw [List.length_append]; omega, HGL.out⟩, by rw [HTL.out, HDL.out]; exact HM8, HW8, HN8, HB8, fun j hj hb => by
                              by_cases e : j = i
                              · subst e; rw [← HAE.out]; exact List.mem_append.2 (.inr (by simp))
                              · exact List.mem_append.2 (.inl (HPT.out j (by omega) hb))⟩
                            case measure => simp [intOf]; omega
end Go.Proofs.YtamlhapiehchoaaGreatDoor

set_option linter.unusedVariables false
set_option linter.unusedSimpArgs false
namespace Go.Proofs.YtamlhapiehchoaaGreatDoor
open Go.RowKit

structure Rate where
  p : List UInt8
  price : Int
  closed : Bool
def noRate : Rate := ⟨[], 0, false⟩
structure Deck where
  from_ : Int
  setup : Int
  least : Int
  step : Int
  ra : Option Addr
  rn : Nat
  rc : Nat
  rates : List Rate
def noDeck : Deck := ⟨0, 0, 0, 0, none, 0, 0, []⟩
structure Carr where
  key : List UInt8
  lines : Int
  da : Option Addr
  dn : Nat
  dc : Nat
  decks : List Deck
def noCarr : Carr := ⟨[], 0, none, 0, 0, []⟩
def Rate.cells (r : Rate) : List Value := [.string ⟨r.p.toArray⟩, .int .i64 r.price, .bool r.closed]
def Deck.cells (d : Deck) : List Value := [.int .i64 d.from_, .int .i64 d.setup, .int .i64 d.least, .int .i64 d.step, .slice d.ra d.rn d.rc]
def Carr.cells (c : Carr) : List Value := [.string ⟨c.key.toArray⟩, .int .i64 c.lines, .slice c.da c.dn c.dc]
/-- Between bounds. -/
def inB (n lo hi : Int) : Bool := decide (lo ≤ n) && decide (n ≤ hi)
/-- The beginning of digits of a number. -/
def preB (s : List UInt8) : Bool := digitsB s 0 15 && !(Lib.hasPrefix s [48])
/-- The error of rate i. -/
def rateErr (l : List Rate) (i : Nat) : Int :=
  if preB (l.getD i noRate).p = false then 3
  else if 0 < i ∧ Op.bytesLess (l.getD (i - 1) noRate).p (l.getD i noRate).p = false then 7
  else if inB (l.getD i noRate).price 0 100000000 = false then 1
  else if (l.getD i noRate).closed = true ∧ (l.getD i noRate).price ≠ 0 then 3
  else 0
def deckNum (d : Deck) : Bool := isMomB d.from_ && (inB d.setup 0 100000000 && (inB d.least 0 86400000 && inB d.step 1 86400000))
def deckErr (d : Deck) : Int :=
  if deckNum d = false then 1 else if 5000 < d.rates.length then 2 else firstErr (rateErr d.rates) d.rates.length
def deckAtErr (l : List Deck) (k : Nat) : Int :=
  if deckErr (l.getD k noDeck) ≠ 0 then deckErr (l.getD k noDeck) else if 0 < k ∧ (l.getD k noDeck).from_ ≤ (l.getD (k - 1) noDeck).from_ then 7 else 0
def carrErr (l : List Carr) (i : Nat) : Int :=
  if isKeyB (l.getD i noCarr).key = false then 5
  else if 0 < i ∧ Op.bytesLess (l.getD (i - 1) noCarr).key (l.getD i noCarr).key = false then 7
  else if inB (l.getD i noCarr).lines 1 100000 = false then 1
  else if 20 < (l.getD i noCarr).decks.length then 2
  else firstErr (deckAtErr (l.getD i noCarr).decks) (l.getD i noCarr).decks.length
def carrsErr (l : List Carr) : Int := if 50 < l.length then 2 else firstErr (carrErr l) l.length

/-- Rates, decks, carriers in memory. -/
structure RateRow (w : World) (a : Option Addr) (n : Nat) (l : List Rate) : Prop where
  cells : Cells w 3 a n (l.map Rate.cells)
  few : n ≤ 5000
  each : ∀ i, i < l.length → (l.getD i noRate).p.length ≤ 100000 ∧ -2000000000000 ≤ (l.getD i noRate).price ∧ (l.getD i noRate).price ≤ 2000000000000
theorem RateRow.below {w w' : World} {a : Option Addr} {n : Nat} {l : List Rate} (h : RateRow w a n l) (hb : Below w.heap.size w w') : RateRow w' a n l := ⟨h.cells.below hb, h.few, h.each⟩
theorem RateRow.len {w : World} {a : Option Addr} {n : Nat} {l : List Rate} (h : RateRow w a n l) : n = l.length := by have := h.cells.len; simpa using this
structure DeckFine (w : World) (d : Deck) : Prop where
  row : RateRow w d.ra d.rn d.rates
  cap : d.rn ≤ d.rc
  b1 : -2000000000000 ≤ d.from_ ∧ d.from_ ≤ 2000000000000
  b2 : -2000000000000 ≤ d.setup ∧ d.setup ≤ 2000000000000
  b3 : -2000000000000 ≤ d.least ∧ d.least ≤ 2000000000000
  b4 : -2000000000000 ≤ d.step ∧ d.step ≤ 2000000000000
theorem DeckFine.below {w w' : World} {d : Deck} (h : DeckFine w d) (hb : Below w.heap.size w w') : DeckFine w' d := ⟨h.row.below hb, h.cap, h.b1, h.b2, h.b3, h.b4⟩
structure DeckRow (w : World) (a : Option Addr) (n : Nat) (l : List Deck) : Prop where
  cells : Cells w 5 a n (l.map Deck.cells)
  few : n ≤ 100
  each : ∀ i, i < l.length → DeckFine w (l.getD i noDeck)
theorem DeckRow.below {w w' : World} {a : Option Addr} {n : Nat} {l : List Deck} (h : DeckRow w a n l) (hb : Below w.heap.size w w') : DeckRow w' a n l := ⟨h.cells.below hb, h.few, fun i hi => (h.each i hi).below hb⟩
theorem DeckRow.len {w : World} {a : Option Addr} {n : Nat} {l : List Deck} (h : DeckRow w a n l) : n = l.length := by have := h.cells.len; simpa using this
structure CarrFine (w : World) (c : Carr) : Prop where
  row : DeckRow w c.da c.dn c.decks
  cap : c.dn ≤ c.dc
  key : c.key.length ≤ 100
  b1 : -2000000000000 ≤ c.lines ∧ c.lines ≤ 2000000000000
theorem CarrFine.below {w w' : World} {d : Carr} (h : CarrFine w d) (hb : Below w.heap.size w w') : CarrFine w' d := ⟨h.row.below hb, h.cap, h.key, h.b1⟩
structure CarrRow (w : World) (a : Option Addr) (n : Nat) (l : List Carr) : Prop where
  cells : Cells w 3 a n (l.map Carr.cells)
  few : n ≤ 50
  each : ∀ i, i < l.length → CarrFine w (l.getD i noCarr)
theorem CarrRow.below {w w' : World} {a : Option Addr} {n : Nat} {l : List Carr} (h : CarrRow w a n l) (hb : Below w.heap.size w w') : CarrRow w' a n l := ⟨h.cells.below hb, h.few, fun i hi => (h.each i hi).below hb⟩
theorem CarrRow.len {w : World} {a : Option Addr} {n : Nat} {l : List Carr} (h : CarrRow w a n l) : n = l.length := by have := h.cells.len; simpa using this
theorem RateRow.at {w : World} {a : Option Addr} {n : Nat} {l : List Rate} (h : RateRow w a n l) (hn : 0 < n) : ∃ b off, a = some ⟨b, off, none⟩ ∧ b < w.heap.size ∧ ∀ i, i < n → w.cell? ⟨b, off + i * 3, none⟩ = some (.string ⟨(l.getD i noRate).p.toArray⟩) ∧ w.cell? ⟨b, off + i * 3 + 1, none⟩ = some (.int .i64 (l.getD i noRate).price) ∧ w.cell? ⟨b, off + i * 3 + 2, none⟩ = some (.bool (l.getD i noRate).closed) := by
  have hl := h.len
  rcases h.cells.row with h0 | ⟨b, off, ha, hb, hc⟩
  · omega
  · refine ⟨b, off, ha, hb, fun i hi => ?_⟩
    have k0 := hc i hi 0 (by omega)
    have k1 := hc i hi 1 (by omega)
    have k2 := hc i hi 2 (by omega)
    rw [getD_map Rate.cells l i noRate [] (by omega)] at k0 k1 k2
    exact ⟨k0, k1, k2⟩
theorem DeckRow.at {w : World} {a : Option Addr} {n : Nat} {l : List Deck} (h : DeckRow w a n l) (hn : 0 < n) : ∃ b off, a = some ⟨b, off, none⟩ ∧ b < w.heap.size ∧ ∀ i, i < n → w.cell? ⟨b, off + i * 5, none⟩ = some (.int .i64 (l.getD i noDeck).from_) ∧ w.cell? ⟨b, off + i * 5 + 1, none⟩ = some (.int .i64 (l.getD i noDeck).setup) ∧ w.cell? ⟨b, off + i * 5 + 2, none⟩ = some (.int .i64 (l.getD i noDeck).least) ∧ w.cell? ⟨b, off + i * 5 + 3, none⟩ = some (.int .i64 (l.getD i noDeck).step) ∧ w.cell? ⟨b, off + i * 5 + 4, none⟩ = some (.slice (l.getD i noDeck).ra (l.getD i noDeck).rn (l.getD i noDeck).rc) := by
  have hl := h.len
  rcases h.cells.row with h0 | ⟨b, off, ha, hb, hc⟩
  · omega
  · refine ⟨b, off, ha, hb, fun i hi => ?_⟩
    have k0 := hc i hi 0 (by omega)
    have k1 := hc i hi 1 (by omega)
    have k2 := hc i hi 2 (by omega)
    have k3 := hc i hi 3 (by omega)
    have k4 := hc i hi 4 (by omega)
    rw [getD_map Deck.cells l i noDeck [] (by omega)] at k0 k1 k2 k3 k4
    exact ⟨k0, k1, k2, k3, k4⟩
theorem CarrRow.at {w : World} {a : Option Addr} {n : Nat} {l : List Carr} (h : CarrRow w a n l) (hn : 0 < n) : ∃ b off, a = some ⟨b, off, none⟩ ∧ b < w.heap.size ∧ ∀ i, i < n → w.cell? ⟨b, off + i * 3, none⟩ = some (.string ⟨(l.getD i noCarr).key.toArray⟩) ∧ w.cell? ⟨b, off + i * 3 + 1, none⟩ = some (.int .i64 (l.getD i noCarr).lines) ∧ w.cell? ⟨b, off + i * 3 + 2, none⟩ = some (.slice (l.getD i noCarr).da (l.getD i noCarr).dn (l.getD i noCarr).dc) := by
  have hl := h.len
  rcases h.cells.row with h0 | ⟨b, off, ha, hb, hc⟩
  · omega
  · refine ⟨b, off, ha, hb, fun i hi => ?_⟩
    have k0 := hc i hi 0 (by omega)
    have k1 := hc i hi 1 (by omega)
    have k2 := hc i hi 2 (by omega)
    rw [getD_map Carr.cells l i noCarr [] (by omega)] at k0 k1 k2
    exact ⟨k0, k1, k2⟩
end Go.Proofs.YtamlhapiehchoaaGreatDoor

set_option linter.unusedVariables false
set_option linter.unusedSimpArgs false
namespace Go.Proofs.YtamlhapiehchoaaGreatDoor
open Go.RowKit

structure Shr where
  c : List UInt8
  part : Int
def noShr : Shr := ⟨[], 0⟩
def Shr.cells (s : Shr) : List Value := [.string ⟨s.c.toArray⟩, .int .i64 s.part]
def hasC (l : List Carr) (k : List UInt8) : Bool := l.any fun c => decide (c.key = k)
def shareErr (l : List Carr) (s : List Shr) (i : Nat) : Int :=
  if hasC l (s.getD i noShr).c = false then 8
  else if 0 < i ∧ Op.bytesLess (s.getD (i - 1) noShr).c (s.getD i noShr).c = false then 7
  else if inB (s.getD i noShr).part 1 1000 = false then 1
  else 0
def partSum (s : List Shr) : Nat → Int
  | 0 => 0
  | k + 1 => partSum s k + (s.getD k noShr).part
def sharesErr (l : List Carr) (s : List Shr) : Int :=
  if 50 < s.length then 2 else if firstErr (shareErr l s) s.length ≠ 0 then firstErr (shareErr l s) s.length else if partSum s s.length ≠ 1000 then 16 else 0
def sentErr (s : List Shr) (sent : List Int) : Int :=
  if s.length ≠ sent.length then 3 else if sent.any (fun n => !(inB n 0 1000000000000)) = true then 1 else 0
/-- The error of CheckShares; of Turn. -/
def shrE (l : List Carr) (s : List Shr) : Int := if carrsErr l ≠ 0 then carrsErr l else sharesErr l s
def turnE (l : List Carr) (s : List Shr) (sent : List Int) : Int :=
  if carrsErr l ≠ 0 then carrsErr l else if s.length ≠ 0 ∧ sharesErr l s ≠ 0 then sharesErr l s else sentErr s sent
def sumTo (l : List Int) : Nat → Int
  | 0 => 0
  | k + 1 => sumTo l k + l.getD k 0
def behind (s : List Shr) (sent : List Int) (i : Nat) : Int := (s.getD i noShr).part * (sumTo sent s.length + 1) - 1000 * sent.getD i 0
def turnTo (s : List Shr) (sent : List Int) : Nat → List UInt8 × Int
  | 0 => ([], 0)
  | k + 1 => if k = 0 ∨ (turnTo s sent k).2 < behind s sent k then ((s.getD k noShr).c, behind s sent k) else turnTo s sent k
def turnK (s : List Shr) (sent : List Int) : List UInt8 := (turnTo s sent s.length).1
theorem turn_some {s : List Shr} {sent : List Int} (h : ∀ i, i < s.length → (s.getD i noShr).c ≠ []) : ∀ k, k ≤ s.length → ((turnTo s sent k).1 = [] ↔ k = 0)
  | 0, _ => by simp [turnTo]
  | k + 1, hk => by
    have ih := turn_some (sent := sent) h k (by omega)
    unfold turnTo
    split
    · exact ⟨fun e => absurd e (h k (by omega)), fun e => by omega⟩
    · rename_i h1
      rw [ih]
      exact ⟨fun e => absurd (Or.inl e) h1, fun e => by omega⟩
theorem sum_bound {l : List Int} (h : ∀ i, i < l.length → 0 ≤ l.getD i 0 ∧ l.getD i 0 ≤ 1000000000000) : ∀ k, k ≤ l.length → 0 ≤ sumTo l k ∧ sumTo l k ≤ 1000000000000 * k
  | 0, _ => by simp [sumTo]
  | k + 1, hk => by
    have h1 := sum_bound h k (by omega)
    have h2 := h k (by omega)
    unfold sumTo
    omega

structure Rcd where
  id : List UInt8
  fr : List UInt8
  to_ : List UInt8
  at_ : Int
  ring : Int
  talk : Int
  how : Int
  carrier : List UInt8
def noRcd : Rcd := ⟨[], [], [], 0, 0, 0, 0, []⟩
def Rcd.cells (r : Rcd) : List Value := [.string ⟨r.id.toArray⟩, .string ⟨r.fr.toArray⟩, .string ⟨r.to_.toArray⟩, .int .i64 r.at_, .int .i64 r.ring, .int .i64 r.talk, .int .i64 r.how, .string ⟨r.carrier.toArray⟩]
def recErr (l : List Carr) (rs : List Rcd) (i : Nat) : Int :=
  if isMomB (rs.getD i noRcd).at_ = false ∨ inB (rs.getD i noRcd).talk 0 86400000 = false then 1
  else if inB (rs.getD i noRcd).how 1 4 = false then 4
  else if (rs.getD i noRcd).carrier ≠ [] ∧ hasC l (rs.getD i noRcd).carrier = false then 8
  else 0
def winErr (f t : Int) : Int := if 0 ≤ f ∧ f ≤ t ∧ t ≤ 345686400000 then 0 else 1
def recsErr (l : List Carr) (rs : List Rcd) (f t : Int) : Int :=
  if 3000 < rs.length then 2 else if firstErr (recErr l rs) rs.length ≠ 0 then firstErr (recErr l rs) rs.length else winErr f t
def measE (l : List Carr) (rs : List Rcd) (f t : Int) : Int := if carrsErr l ≠ 0 then carrsErr l else recsErr l rs f t
/-- Calls, good ones, and how long these were talked, of a carrier among the first records. -/
structure Cnt where
  calls : Int
  good : Int
  talk : Int
def inWin (key : List UInt8) (f t : Int) (r : Rcd) : Prop := r.carrier = key ∧ f ≤ r.at_ ∧ r.at_ < t
instance (key : List UInt8) (f t : Int) (r : Rcd) : Decidable (inWin key f t r) := by unfold inWin; exact inferInstance
def cntTo (rs : List Rcd) (key : List UInt8) (f t : Int) : Nat → Cnt
  | 0 => ⟨0, 0, 0⟩
  | k + 1 =>
    let c := cntTo rs key f t k
    let r := rs.getD k noRcd
    if inWin key f t r then (if r.how = 1 then ⟨c.calls + 1, c.good + 1, c.talk + r.talk⟩ else ⟨c.calls + 1, c.good, c.talk⟩) else c
theorem cnt_bound {rs : List Rcd} {key : List UInt8} {f t : Int} (h : ∀ i, i < rs.length → 0 ≤ (rs.getD i noRcd).talk ∧ (rs.getD i noRcd).talk ≤ 86400000) : ∀ k, k ≤ rs.length →
    0 ≤ (cntTo rs key f t k).good ∧ (cntTo rs key f t k).good ≤ (cntTo rs key f t k).calls ∧ (cntTo rs key f t k).calls ≤ k ∧ 0 ≤ (cntTo rs key f t k).talk ∧ (cntTo rs key f t k).talk ≤ 86400000 * (cntTo rs key f t k).good
  | 0, _ => by simp [cntTo]
  | k + 1, hk => by
    have h1 := cnt_bound (key := key) (f := f) (t := t) h k (by omega)
    have h2 := h k (by omega)
    unfold cntTo
    simp only
    split
    · split
      · simp only; omega
      · simp only; omega
    · omega
structure Qual where
  c : List UInt8
  calls : Int
  good : Int
  num : Int
  den : Int
def Qual.cells (q : Qual) : List Value := [.string ⟨q.c.toArray⟩, .int .i64 q.calls, .int .i64 q.good, .int .i64 q.num, .int .i64 q.den]
/-- A fraction in lowest terms (b above 0). -/
def lowF (a b : Int) : Int × Int := (((a.toNat / Nat.gcd a.toNat b.toNat : Nat) : Int), ((b.toNat / Nat.gcd a.toNat b.toNat : Nat) : Int))
def qual (rs : List Rcd) (key : List UInt8) (f t : Int) : Option Qual :=
  let c := cntTo rs key f t rs.length
  if c.calls = 0 then none else some ⟨key, c.calls, 1000 * c.good / c.calls, (lowF c.talk (max c.good 1)).1, (lowF c.talk (max c.good 1)).2⟩
def quals (l : List Carr) (rs : List Rcd) (f t : Int) (k : Nat) : List Qual := (List.range k).filterMap fun i => qual rs (l.getD i noCarr).key f t
theorem quals_succ (l : List Carr) (rs : List Rcd) (f t : Int) (k : Nat) : quals l rs f t (k + 1) = quals l rs f t k ++ (qual rs (l.getD k noCarr).key f t).toList := by
  unfold quals
  rw [List.range_succ, List.filterMap_append]
  congr 1
end Go.Proofs.YtamlhapiehchoaaGreatDoor

set_option linter.unusedVariables false
set_option linter.unusedSimpArgs false
namespace Go.Proofs.YtamlhapiehchoaaGreatDoor
open Go.RowKit

/-- The blocks with p stay. -/
def KeepsIf (p : Nat → Prop) (w W : World) : Prop := w.heap.size ≤ W.heap.size ∧ ∀ b, b < w.heap.size → p b → W.heap[b]? = w.heap[b]?
theorem KeepsIf.refl (p : Nat → Prop) (w : World) : KeepsIf p w w := ⟨Nat.le_refl _, fun _ _ _ => rfl⟩
theorem KeepsIf.trans {p : Nat → Prop} {a b c : World} (h : KeepsIf p a b) (k : KeepsIf p b c) : KeepsIf p a c :=
  ⟨Nat.le_trans h.1 k.1, fun i hi hp => (k.2 i (Nat.lt_of_lt_of_le hi h.1) hp).trans (h.2 i hi hp)⟩
theorem KeepsIf.weak {p q : Nat → Prop} {w W : World} (h : KeepsIf p w W) (hq : ∀ b, b < w.heap.size → q b → p b) : KeepsIf q w W := ⟨h.1, fun b hb k => h.2 b hb (hq b hb k)⟩
theorem KeepsIf.of_keeps {p : Nat → Prop} {S : Nat} {w W : World} (h : Keeps S w W) (hp : ∀ b, p b → b ≠ S) : KeepsIf p w W := ⟨h.size, fun b hb k => h.block b hb (hp b k)⟩
theorem KeepsIf.of_below {p : Nat → Prop} {w W : World} (h : Below w.heap.size w W) : KeepsIf p w W := ⟨h.size, fun b hb k => h.block b hb⟩
theorem KeepsIf.grown {p : Nat → Prop} {w W : World} {row : Option Nat} (h : w.grownBy W row) (hp : ∀ b, p b → row ≠ some b) : KeepsIf p w W := ⟨h.size, fun b hb k => h.block b hb (fun e => hp b k e.symm)⟩
theorem KeepsIf.set {p : Nat → Prop} {w : World} {q : Addr} {v : Value} (hp : ∀ b, p b → q.block ≠ b) : KeepsIf p w (w.setCell q v) := ⟨by simp, fun b hb k => Below.heap_setCell _ _ _ _ (fun e => hp b k e.symm)⟩
theorem KeepsIf.alloc {p : Nat → Prop} (w : World) (o : Obj) : KeepsIf p w (w.alloc o) := ⟨by simp, fun b hb k => Below.heap_alloc _ _ _ hb⟩
theorem own_if {p : Nat → Prop} {w W : World} {base : Nat} {e : TypeId} {size : Nat} {v : Value} {n : Nat} {xs : List Value} (h : w.ownsRow base e size v n xs) (hk : KeepsIf p w W) (hp : ∀ b, v.ownBlock = some b → p b) : W.ownsRow base e size v n xs := by
  refine ⟨h.1, h.2.imp id ?_⟩
  rintro ⟨g, cap, cur, rfl, h1, h2, h3⟩
  exact ⟨g, cap, cur, rfl, h1, (hk.2 g (Array.getElem?_eq_some_iff.1 h2).1 (hp g rfl)).trans h2, h3⟩
theorem own_ge {p : Nat → Prop} {w W : World} {base : Nat} {e : TypeId} {size : Nat} {v : Value} {n : Nat} {xs : List Value} (h : w.ownsRow base e size v n xs) (hk : KeepsIf (fun b => base ≤ b) w W) : W.ownsRow base e size v n xs := own_if h hk (fun b e => (h.lt b e).1)
theorem own_caps {w : World} {base : Nat} {e : TypeId} {size : Nat} {a : Option Addr} {m c : Nat} {n : Nat} {xs : List Value} (h : w.ownsRow base e size (.slice a m c) n xs) : m = n ∧ n ≤ c := by
  rcases h.2 with ⟨h1, h0⟩ | ⟨g, cap, cur, h1, _, _, h4, _⟩
  · injection h1 with e1 e2 e3; omega
  · injection h1 with e1 e2 e3; omega

/-- Rates with bounds. -/
def RatesOk (l : List Rate) : Prop := l.length ≤ 50 ∧ ∀ r ∈ l, r.p.length ≤ 100 ∧ -2000000000000 ≤ r.price ∧ r.price ≤ 2000000000000
def DeckBounds (d : Deck) : Prop := (-2000000000000 ≤ d.from_ ∧ d.from_ ≤ 2000000000000) ∧ (-2000000000000 ≤ d.setup ∧ d.setup ≤ 2000000000000) ∧ (-2000000000000 ≤ d.least ∧ d.least ≤ 2000000000000) ∧ (-2000000000000 ≤ d.step ∧ d.step ≤ 2000000000000)
theorem mem_getD {α : Type} {l : List α} {i : Nat} (d : α) (h : i < l.length) : l.getD i d ∈ l := by
  rw [List.getD_eq_getElem?_getD, List.getElem?_eq_getElem h]
  exact List.getElem_mem h
/-- Decks that stay where the blocks with p stay. -/
def DecksIf (p : Nat → Prop) (w : World) (l : List Deck) : Prop := ∀ W, KeepsIf p w W → ∀ i, i < l.length → DeckFine W (l.getD i noDeck)
theorem DecksIf.nil (p : Nat → Prop) (w : World) : DecksIf p w [] := fun W hW i hi => by cases hi
theorem DecksIf.on {p q : Nat → Prop} {w w' : World} {l : List Deck} (h : DecksIf p w l) (hk : ∀ W, KeepsIf q w' W → KeepsIf p w W) : DecksIf q w' l := fun W hW => h W (hk W hW)
theorem getD_snoc {α : Type} (l : List α) (x d : α) (i : Nat) : (l ++ [x]).getD i d = if i < l.length then l.getD i d else if i = l.length then x else d := by
  by_cases h : i < l.length
  · rw [if_pos h]; simp [List.getElem?_append_left h]
  · rw [if_neg h]
    by_cases h2 : i = l.length
    · subst h2; simp
    · rw [if_neg h2, List.getD_eq_getElem?_getD, List.getElem?_eq_none (by simp; omega)]; rfl
theorem DecksIf.snoc {p : Nat → Prop} {w : World} {l : List Deck} {d : Deck} (h : DecksIf p w l) (hd : ∀ W, KeepsIf p w W → DeckFine W d) : DecksIf p w (l ++ [d]) := fun W hW i hi => by
  rw [getD_snoc]
  by_cases h1 : i < l.length
  · rw [if_pos h1]; exact h W hW i h1
  · rw [if_neg h1, if_pos (by simp at hi; omega)]; exact hd W hW
/-- Carriers that stay where the blocks with p stay. -/
def CarrsIf (p : Nat → Prop) (w : World) (l : List Carr) : Prop := ∀ W, KeepsIf p w W → ∀ i, i < l.length → CarrFine W (l.getD i noCarr)
theorem CarrsIf.nil (p : Nat → Prop) (w : World) : CarrsIf p w [] := fun W hW i hi => by cases hi
theorem CarrsIf.on {p q : Nat → Prop} {w w' : World} {l : List Carr} (h : CarrsIf p w l) (hk : ∀ W, KeepsIf q w' W → KeepsIf p w W) : CarrsIf q w' l := fun W hW => h W (hk W hW)
theorem CarrsIf.snoc {p : Nat → Prop} {w : World} {l : List Carr} {d : Carr} (h : CarrsIf p w l) (hd : ∀ W, KeepsIf p w W → CarrFine W d) : CarrsIf p w (l ++ [d]) := fun W hW i hi => by
  rw [getD_snoc]
  by_cases h1 : i < l.length
  · rw [if_pos h1]; exact h W hW i h1
  · rw [if_neg h1, if_pos (by simp at hi; omega)]; exact hd W hW
theorem CarrsIf.set {p : Nat → Prop} {w : World} {l : List Carr} {d : Carr} {r : Nat} (h : CarrsIf p w l) (hd : ∀ W, KeepsIf p w W → CarrFine W d) : CarrsIf p w (l.set r d) := fun W hW i hi => by
  have hi2 : i < l.length := by simpa using hi
  by_cases h1 : i = r
  · subst h1
    have : (l.set i d).getD i noCarr = d := by simp [hi2]
    rw [this]; exact hd W hW
  · have : (l.set r d).getD i noCarr = l.getD i noCarr := by simp [List.getElem?_set, Ne.symm h1]
    rw [this]; exact h W hW i hi2
end Go.Proofs.YtamlhapiehchoaaGreatDoor

set_option linter.unusedVariables false
set_option linter.unusedSimpArgs false
namespace Go.Proofs.YtamlhapiehchoaaGreatDoor
open Go.RowKit

structure ShrRow (w : World) (a : Option Addr) (n : Nat) (l : List Shr) : Prop where
  cells : Cells w 2 a n (l.map Shr.cells)
  few : n ≤ 50
  each : ∀ i, i < l.length → (l.getD i noShr).c.length ≤ 100 ∧ -2000000000000 ≤ (l.getD i noShr).part ∧ (l.getD i noShr).part ≤ 2000000000000
theorem ShrRow.below {w w' : World} {a : Option Addr} {n : Nat} {l : List Shr} (h : ShrRow w a n l) (hb : Below w.heap.size w w') : ShrRow w' a n l := ⟨h.cells.below hb, h.few, h.each⟩
theorem ShrRow.len {w : World} {a : Option Addr} {n : Nat} {l : List Shr} (h : ShrRow w a n l) : n = l.length := by have := h.cells.len; simpa using this
theorem ShrRow.at {w : World} {a : Option Addr} {n : Nat} {l : List Shr} (h : ShrRow w a n l) (hn : 0 < n) : ∃ b off, a = some ⟨b, off, none⟩ ∧ b < w.heap.size ∧ ∀ i, i < n → w.cell? ⟨b, off + i * 2, none⟩ = some (.string ⟨(l.getD i noShr).c.toArray⟩) ∧ w.cell? ⟨b, off + i * 2 + 1, none⟩ = some (.int .i64 (l.getD i noShr).part) := by
  have hl := h.len
  rcases h.cells.row with h0 | ⟨b, off, ha, hb, hc⟩
  · omega
  · refine ⟨b, off, ha, hb, fun i hi => ?_⟩
    have k0 := hc i hi 0 (by omega)
    have k1 := hc i hi 1 (by omega)
    rw [getD_map Shr.cells l i noShr [] (by omega)] at k0 k1
    exact ⟨k0, k1⟩
theorem ShrRow.of_own {w : World} {base : Nat} {e : TypeId} {v : Value} {n : Nat} {l : List Shr} (h : w.ownsRow base e 2 v n ((l.map Shr.cells).flatten)) (hf : n ≤ 50) (he : ∀ i, i < l.length → (l.getD i noShr).c.length ≤ 100 ∧ -2000000000000 ≤ (l.getD i noShr).part ∧ (l.getD i noShr).part ≤ 2000000000000) : ∃ a c, v = .slice a n c ∧ n ≤ c ∧ ShrRow w a n l := by
  obtain ⟨a, c, rfl, hcs⟩ := Cells.of_own h (fun x hx => by obtain ⟨y, _, rfl⟩ := List.mem_map.1 hx; rfl) (by decide)
  exact ⟨a, c, rfl, (own_caps h).2, ⟨hcs, hf, he⟩⟩
structure RcdRow (w : World) (a : Option Addr) (n : Nat) (l : List Rcd) : Prop where
  cells : Cells w 8 a n (l.map Rcd.cells)
  few : n ≤ 100
  each : ∀ i, i < l.length → (l.getD i noRcd).id.length ≤ 100 ∧ (l.getD i noRcd).fr.length ≤ 100 ∧ (l.getD i noRcd).to_.length ≤ 100 ∧ (l.getD i noRcd).carrier.length ≤ 100 ∧ (-2000000000000 ≤ (l.getD i noRcd).at_ ∧ (l.getD i noRcd).at_ ≤ 2000000000000) ∧ (-2000000000000 ≤ (l.getD i noRcd).ring ∧ (l.getD i noRcd).ring ≤ 2000000000000) ∧ (-2000000000000 ≤ (l.getD i noRcd).talk ∧ (l.getD i noRcd).talk ≤ 2000000000000) ∧ (-2000000000000 ≤ (l.getD i noRcd).how ∧ (l.getD i noRcd).how ≤ 2000000000000)
theorem RcdRow.below {w w' : World} {a : Option Addr} {n : Nat} {l : List Rcd} (h : RcdRow w a n l) (hb : Below w.heap.size w w') : RcdRow w' a n l := ⟨h.cells.below hb, h.few, h.each⟩
theorem RcdRow.len {w : World} {a : Option Addr} {n : Nat} {l : List Rcd} (h : RcdRow w a n l) : n = l.length := by have := h.cells.len; simpa using this
theorem RcdRow.at {w : World} {a : Option Addr} {n : Nat} {l : List Rcd} (h : RcdRow w a n l) (hn : 0 < n) : ∃ b off, a = some ⟨b, off, none⟩ ∧ b < w.heap.size ∧ ∀ i, i < n → w.cell? ⟨b, off + i * 8, none⟩ = some (.string ⟨(l.getD i noRcd).id.toArray⟩) ∧ w.cell? ⟨b, off + i * 8 + 1, none⟩ = some (.string ⟨(l.getD i noRcd).fr.toArray⟩) ∧ w.cell? ⟨b, off + i * 8 + 2, none⟩ = some (.string ⟨(l.getD i noRcd).to_.toArray⟩) ∧ w.cell? ⟨b, off + i * 8 + 3, none⟩ = some (.int .i64 (l.getD i noRcd).at_) ∧ w.cell? ⟨b, off + i * 8 + 4, none⟩ = some (.int .i64 (l.getD i noRcd).ring) ∧ w.cell? ⟨b, off + i * 8 + 5, none⟩ = some (.int .i64 (l.getD i noRcd).talk) ∧ w.cell? ⟨b, off + i * 8 + 6, none⟩ = some (.int .i64 (l.getD i noRcd).how) ∧ w.cell? ⟨b, off + i * 8 + 7, none⟩ = some (.string ⟨(l.getD i noRcd).carrier.toArray⟩) := by
  have hl := h.len
  rcases h.cells.row with h0 | ⟨b, off, ha, hb, hc⟩
  · omega
  · refine ⟨b, off, ha, hb, fun i hi => ?_⟩
    have k0 := hc i hi 0 (by omega)
    have k1 := hc i hi 1 (by omega)
    have k2 := hc i hi 2 (by omega)
    have k3 := hc i hi 3 (by omega)
    have k4 := hc i hi 4 (by omega)
    have k5 := hc i hi 5 (by omega)
    have k6 := hc i hi 6 (by omega)
    have k7 := hc i hi 7 (by omega)
    rw [getD_map Rcd.cells l i noRcd [] (by omega)] at k0 k1 k2 k3 k4 k5 k6 k7
    exact ⟨k0, k1, k2, k3, k4, k5, k6, k7⟩
theorem RcdRow.of_own {w : World} {base : Nat} {e : TypeId} {v : Value} {n : Nat} {l : List Rcd} (h : w.ownsRow base e 8 v n ((l.map Rcd.cells).flatten)) (hf : n ≤ 100) (he : ∀ i, i < l.length → (l.getD i noRcd).id.length ≤ 100 ∧ (l.getD i noRcd).fr.length ≤ 100 ∧ (l.getD i noRcd).to_.length ≤ 100 ∧ (l.getD i noRcd).carrier.length ≤ 100 ∧ (-2000000000000 ≤ (l.getD i noRcd).at_ ∧ (l.getD i noRcd).at_ ≤ 2000000000000) ∧ (-2000000000000 ≤ (l.getD i noRcd).ring ∧ (l.getD i noRcd).ring ≤ 2000000000000) ∧ (-2000000000000 ≤ (l.getD i noRcd).talk ∧ (l.getD i noRcd).talk ≤ 2000000000000) ∧ (-2000000000000 ≤ (l.getD i noRcd).how ∧ (l.getD i noRcd).how ≤ 2000000000000)) : ∃ a c, v = .slice a n c ∧ n ≤ c ∧ RcdRow w a n l := by
  obtain ⟨a, c, rfl, hcs⟩ := Cells.of_own h (fun x hx => by obtain ⟨y, _, rfl⟩ := List.mem_map.1 hx; rfl) (by decide)
  exact ⟨a, c, rfl, (own_caps h).2, ⟨hcs, hf, he⟩⟩
end Go.Proofs.YtamlhapiehchoaaGreatDoor

set_option linter.unusedVariables false
set_option linter.unusedSimpArgs false
namespace Go.Proofs.YtamlhapiehchoaaGreatDoor
open Go.RowKit

theorem own_set {w : World} {base : Nat} {e : TypeId} {size : Nat} {v : Value} {n : Nat} {xs : List Value} (h : w.ownsRow base e size v n xs) {p : Addr} {u : Value} (hp : v.ownBlock ≠ some p.block) : (w.setCell p u).ownsRow base e size v n xs :=
  own_if h (KeepsIf.set (p := fun b => v.ownBlock = some b) (fun b e e' => hp (by rw [e']; exact e))) (fun b e => e)
theorem ne_off {B i j : Nat} (h : i ≠ j) : (⟨B, i, none⟩ : Addr) ≠ ⟨B, j, none⟩ := by intro e; injection e with _ e2 _; exact h e2
theorem ne_blk {B C i j : Nat} (h : B ≠ C) : (⟨B, i, none⟩ : Addr) ≠ ⟨C, j, none⟩ := by intro e; injection e with e1 _ _; exact h e1
theorem box_th {w : World} {B : Nat} {vs : Array Value} {ty : TypeId} (h : w.heap[B]? = some (.cells vs ty (0, 0))) : w.there B 0 vs.size := fun j hj => by
  refine ⟨?_, ?_⟩
  · simp [World.cell?, h, hj]
  · simp [World.frozen?, h]
/-- A place of n cells that can be written. -/
structure Room (w : World) (F n : Nat) : Prop where
  lt : F < w.heap.size
  th : w.there F 0 n
theorem Room.keeps {w w' : World} {F n S : Nat} (h : Room w F n) (hk : Keeps S w w') (hn : F ≠ S) : Room w' F n :=
  ⟨Nat.lt_of_lt_of_le h.lt hk.size, fun j hj => by
    obtain ⟨h1, h2⟩ := h.th j hj
    exact ⟨by rw [hk.cell (p := ⟨F, 0 + j, none⟩) h.lt hn]; exact h1, by rw [hk.frozen (p := ⟨F, 0 + j, none⟩) h.lt hn]; exact h2⟩⟩
theorem Room.below {w w' : World} {F n : Nat} (h : Room w F n) (hb : Below w.heap.size w w') : Room w' F n :=
  ⟨Nat.lt_of_lt_of_le h.lt hb.size, fun j hj => by
    obtain ⟨h1, h2⟩ := h.th j hj
    exact ⟨by rw [hb.cell (p := ⟨F, 0 + j, none⟩) h.lt]; exact h1, by rw [hb.frozen (p := ⟨F, 0 + j, none⟩) h.lt]; exact h2⟩⟩
theorem Room.grown {w w' : World} {F n : Nat} {row : Option Nat} (h : Room w F n) (hg : w.grownBy w' row) (hn : row ≠ some F) : Room w' F n :=
  ⟨Nat.lt_of_lt_of_le h.lt hg.size, fun j hj => by
    obtain ⟨h1, h2⟩ := h.th j hj
    have hb := hg.block F h.lt (fun e => hn e.symm)
    exact ⟨by rw [World.cell?_of_block (a := ⟨F, 0 + j, none⟩) hb]; exact h1, by rw [World.frozen?_of_block (a := ⟨F, 0 + j, none⟩) hb]; exact h2⟩⟩
theorem Room.set {w : World} {F n : Nat} (h : Room w F n) (B o : Nat) (u : Value) : Room (w.setCell ⟨B, o, none⟩ u) F n :=
  ⟨by simpa using h.lt, World.there_setCells h.th B o [u]⟩
theorem below_setCells {S F : Nat} (hS : S ≤ F) : ∀ (vs : List Value) (w : World) (k : Nat), Below S w (w.setCells F k vs)
  | [], w, k => Below.refl _ _
  | v :: vs, w, k => ((Below.refl S w).setCell (p := ⟨F, k, none⟩) hS v).trans (below_setCells hS vs (w.setCell ⟨F, k, none⟩ v) (k + 1))
theorem keeps_setCells {S F : Nat} {a : World} (hF : a.heap.size ≤ F) : ∀ (vs : List Value) (w : World) (k : Nat), Keeps S a w → Keeps S a (w.setCells F k vs)
  | [], w, k, h => h
  | v :: vs, w, k, h => keeps_setCells hF vs (w.setCell ⟨F, k, none⟩ v) (k + 1) (h.setCell_new hF v)
/-- Names in a row. -/
structure Names (w : World) (A n : Nat) (names : List (List UInt8)) : Prop where
  lt : A < w.heap.size
  at_ : ∀ i, i < n → w.cell? ⟨A, i, none⟩ = some (.string ⟨(names.getD i []).toArray⟩)
theorem Names.keeps {w w' : World} {A n S : Nat} {names : List (List UInt8)} (h : Names w A n names) (hk : Keeps S w w') (hn : A ≠ S) : Names w' A n names :=
  ⟨Nat.lt_of_lt_of_le h.lt hk.size, fun i hi => (hk.cell (p := ⟨A, i, none⟩) h.lt hn).trans (h.at_ i hi)⟩
theorem Names.grown {w w' : World} {A n : Nat} {names : List (List UInt8)} {row : Option Nat} (h : Names w A n names) (hg : w.grownBy w' row) (hn : row ≠ some A) : Names w' A n names :=
  ⟨Nat.lt_of_lt_of_le h.lt hg.size, fun i hi => (World.cell?_of_block (a := ⟨A, i, none⟩) (hg.block A h.lt (fun e => hn e.symm))).trans (h.at_ i hi)⟩
theorem Names.set {w : World} {A n : Nat} {names : List (List UInt8)} (h : Names w A n names) {B o : Nat} (hn : B ≠ A) (u : Value) : Names (w.setCell ⟨B, o, none⟩ u) A n names :=
  ⟨by simpa using h.lt, fun i hi => (World.cell?_setCell_other _ _ _ _ (ne_blk hn)).trans (h.at_ i hi)⟩
theorem names_new (W : World) (names : List (List UInt8)) (cs : Array Value) (hcs : cs.toList = names.map fun s => Value.string ⟨s.toArray⟩) (n : Nat) (hn : n = names.length) : Names (W.alloc (.cells cs 9)) W.heap.size n names := by
  subst hn
  have hcs' : cs = (names.map fun s => Value.string ⟨s.toArray⟩).toArray := by rw [← hcs]
  subst hcs'
  exact ⟨by simp, fun i hi => (new_cell W _ 9 (0, 0) i).trans (by simp [hi])⟩
theorem wp_skip {P : Program} {o : Oper} {a : Act} {w w' : World} {K : Act → World → Prop} {Q : Exit → Act → World → Prop} (h : (execOp a.eval o).run P w = .ok .skip w') (hK : K (a.put o.dst undef) w') : o.wp P a w K Q := by
  unfold Oper.wp
  rw [h]
  exact hK
theorem wp_append_own_at {P : Program} {w : World} {o : Oper} {a : Act} {K : Act → World → Prop} {Q : Exit → Act → World → Prop} (s x : Operand) (t : TypeId)
    (ho : o.op = .call { callee := .builtin .append, args := #[s, x], argTypes := #[t, t] })
    (base : Nat) (e : TypeId) (i : TypeInfo) (z : Value) (size bytes : Nat) (ht : P.underlying t = some (.slice e)) (hi : P.info? e = some i) (hz : i.zero = some z)
    (hsize : i.size = size) (hby : i.bytes = bytes) (hzs : z.cells.size = size) (hsz : 0 < size)
    (v : Value) (n : Nat) (xs : List Value) (hs : a.eval s = v) (hown : w.ownsRow base e size v n xs)
    (ad : Addr) (m c : Nat) (news : List Value) (hx : a.eval x = .slice (some ad) m c) (hl : news.length = m * size) (hnews : ∀ j u, news[j]? = some u → w.cell? (ad.add j) = some u) (h1 : ∀ u ∈ news, u.oneCell' = true)
    (h63 : n + m ≤ maxLen) (hbytes : (n + m) * bytes ≤ 140737488355328) (hbase : base ≤ w.heap.size)
    (h : ∀ v' w', w'.ownsRow base e size v' (n + m) (xs ++ news) → w.grownBy w' v.ownBlock → (v'.ownBlock = v.ownBlock ∨ v'.ownBlock = some w.heap.size) → K (a.put o.dst v') w') : o.wp P a w K Q := by
  obtain ⟨v', w', hr, k1, k2, _, k3⟩ := run_append_own_at (P := P) w base t o.type e i z size bytes ht hi hz hsize hby hzs hsz v n xs hown ad m c news hl hnews h1 h63 hbytes hbase
  unfold Oper.wp execOp
  simp only [ho, resolve, invoke, builtin, Sem.run_bind, Sem.run_pure, Result.andThen_ok, List.map_toArray, List.map_cons, List.map_nil, hs, hx, hr]
  exact h v' w' k1 k2 k3
/-- A deck in a box of its own. -/
structure DBox (w : World) (D : Nat) (f s l st : Int) (v : Value) : Prop where
  lt : D < w.heap.size
  c0 : w.cell? ⟨D, 0, none⟩ = some (.int .i64 f)
  c1 : w.cell? ⟨D, 1, none⟩ = some (.int .i64 s)
  c2 : w.cell? ⟨D, 2, none⟩ = some (.int .i64 l)
  c3 : w.cell? ⟨D, 3, none⟩ = some (.int .i64 st)
  c4 : w.cell? ⟨D, 4, none⟩ = some v
  fr : ∀ j, w.frozen? ⟨D, j, none⟩ = false
theorem DBox.keeps {w w' : World} {D S : Nat} {f s l st : Int} {v : Value} (h : DBox w D f s l st v) (hk : Keeps S w w') (hn : D ≠ S) : DBox w' D f s l st v :=
  ⟨Nat.lt_of_lt_of_le h.lt hk.size, (hk.cell (p := ⟨D, 0, none⟩) h.lt hn).trans h.c0, (hk.cell (p := ⟨D, 1, none⟩) h.lt hn).trans h.c1, (hk.cell (p := ⟨D, 2, none⟩) h.lt hn).trans h.c2, (hk.cell (p := ⟨D, 3, none⟩) h.lt hn).trans h.c3, (hk.cell (p := ⟨D, 4, none⟩) h.lt hn).trans h.c4, fun j => (hk.frozen (p := ⟨D, j, none⟩) h.lt hn).trans (h.fr j)⟩
theorem DBox.grown {w w' : World} {D : Nat} {f s l st : Int} {v : Value} {row : Option Nat} (h : DBox w D f s l st v) (hg : w.grownBy w' row) (hn : row ≠ some D) : DBox w' D f s l st v := by
  have hb := hg.block D h.lt (fun e => hn e.symm)
  exact ⟨Nat.lt_of_lt_of_le h.lt hg.size, (World.cell?_of_block (a := ⟨D, 0, none⟩) hb).trans h.c0, (World.cell?_of_block (a := ⟨D, 1, none⟩) hb).trans h.c1, (World.cell?_of_block (a := ⟨D, 2, none⟩) hb).trans h.c2, (World.cell?_of_block (a := ⟨D, 3, none⟩) hb).trans h.c3, (World.cell?_of_block (a := ⟨D, 4, none⟩) hb).trans h.c4, fun j => (World.frozen?_of_block (a := ⟨D, j, none⟩) hb).trans (h.fr j)⟩
theorem DBox.far {w : World} {D : Nat} {f s l st : Int} {v : Value} (h : DBox w D f s l st v) {B o : Nat} (hn : B ≠ D) (u : Value) : DBox (w.setCell ⟨B, o, none⟩ u) D f s l st v :=
  ⟨by simpa using h.lt, (World.cell?_setCell_other _ _ _ _ (ne_blk hn)).trans h.c0, (World.cell?_setCell_other _ _ _ _ (ne_blk hn)).trans h.c1, (World.cell?_setCell_other _ _ _ _ (ne_blk hn)).trans h.c2, (World.cell?_setCell_other _ _ _ _ (ne_blk hn)).trans h.c3, (World.cell?_setCell_other _ _ _ _ (ne_blk hn)).trans h.c4, fun j => (World.frozen?_setCell _ _ _ _).trans (h.fr j)⟩
theorem DBox.s0 {w : World} {D : Nat} {f s l st : Int} {v : Value} (h : DBox w D f s l st v) (z : Int) : DBox (w.setCell ⟨D, 0, none⟩ (.int .i64 z)) D z s l st v :=
  ⟨by simpa using h.lt, World.cell?_setCell_same _ _ _ h.c0, (World.cell?_setCell_other _ _ _ _ (ne_off (by decide))).trans h.c1, (World.cell?_setCell_other _ _ _ _ (ne_off (by decide))).trans h.c2, (World.cell?_setCell_other _ _ _ _ (ne_off (by decide))).trans h.c3, (World.cell?_setCell_other _ _ _ _ (ne_off (by decide))).trans h.c4, fun j => (World.frozen?_setCell _ _ _ _).trans (h.fr j)⟩
theorem DBox.s1 {w : World} {D : Nat} {f s l st : Int} {v : Value} (h : DBox w D f s l st v) (z : Int) : DBox (w.setCell ⟨D, 1, none⟩ (.int .i64 z)) D f z l st v :=
  ⟨by simpa using h.lt, (World.cell?_setCell_other _ _ _ _ (ne_off (by decide))).trans h.c0, World.cell?_setCell_same _ _ _ h.c1, (World.cell?_setCell_other _ _ _ _ (ne_off (by decide))).trans h.c2, (World.cell?_setCell_other _ _ _ _ (ne_off (by decide))).trans h.c3, (World.cell?_setCell_other _ _ _ _ (ne_off (by decide))).trans h.c4, fun j => (World.frozen?_setCell _ _ _ _).trans (h.fr j)⟩
theorem DBox.s2 {w : World} {D : Nat} {f s l st : Int} {v : Value} (h : DBox w D f s l st v) (z : Int) : DBox (w.setCell ⟨D, 2, none⟩ (.int .i64 z)) D f s z st v :=
  ⟨by simpa using h.lt, (World.cell?_setCell_other _ _ _ _ (ne_off (by decide))).trans h.c0, (World.cell?_setCell_other _ _ _ _ (ne_off (by decide))).trans h.c1, World.cell?_setCell_same _ _ _ h.c2, (World.cell?_setCell_other _ _ _ _ (ne_off (by decide))).trans h.c3, (World.cell?_setCell_other _ _ _ _ (ne_off (by decide))).trans h.c4, fun j => (World.frozen?_setCell _ _ _ _).trans (h.fr j)⟩
theorem DBox.s3 {w : World} {D : Nat} {f s l st : Int} {v : Value} (h : DBox w D f s l st v) (z : Int) : DBox (w.setCell ⟨D, 3, none⟩ (.int .i64 z)) D f s l z v :=
  ⟨by simpa using h.lt, (World.cell?_setCell_other _ _ _ _ (ne_off (by decide))).trans h.c0, (World.cell?_setCell_other _ _ _ _ (ne_off (by decide))).trans h.c1, (World.cell?_setCell_other _ _ _ _ (ne_off (by decide))).trans h.c2, World.cell?_setCell_same _ _ _ h.c3, (World.cell?_setCell_other _ _ _ _ (ne_off (by decide))).trans h.c4, fun j => (World.frozen?_setCell _ _ _ _).trans (h.fr j)⟩
theorem DBox.s4 {w : World} {D : Nat} {f s l st : Int} {v : Value} (h : DBox w D f s l st v) (u : Value) : DBox (w.setCell ⟨D, 4, none⟩ u) D f s l st u :=
  ⟨by simpa using h.lt, (World.cell?_setCell_other _ _ _ _ (ne_off (by decide))).trans h.c0, (World.cell?_setCell_other _ _ _ _ (ne_off (by decide))).trans h.c1, (World.cell?_setCell_other _ _ _ _ (ne_off (by decide))).trans h.c2, (World.cell?_setCell_other _ _ _ _ (ne_off (by decide))).trans h.c3, World.cell?_setCell_same _ _ _ h.c4, fun j => (World.frozen?_setCell _ _ _ _).trans (h.fr j)⟩
theorem rcells_snoc (l : List Rate) (r : Rate) : ((l ++ [r]).map Rate.cells).flatten = (l.map Rate.cells).flatten ++ Rate.cells r := by simp
def RatesIn (l : List Rate) : Prop := ∀ r ∈ l, r.p.length ≤ 100 ∧ -2000000000000 ≤ r.price ∧ r.price ≤ 2000000000000
theorem rates_snoc {l : List Rate} {r : Rate} (h : RatesIn l) (h1 : r.p.length ≤ 100) (h2 : -2000000000000 ≤ r.price) (h3 : r.price ≤ 2000000000000) : RatesIn (l ++ [r]) := fun x hx => by
  rcases List.mem_append.1 hx with hx | hx
  · exact h x hx
  · rw [List.mem_singleton.1 hx]; exact ⟨h1, h2, h3⟩
theorem bs_i4 (e : Operand → Value) (he : ∀ v, e (.const v) = v) (o : Oper) (w : World) (z0 z1 z2 z3 : Int) (ho : o.op = .buildSlice 22 4 #[(0, .const (.int .i64 z0)), (1, .const (.int .i64 z1)), (2, .const (.int .i64 z2)), (3, .const (.int .i64 z3))]) :
   (execOp e o).run Tryz.prog w = .ok (.value (.slice (some ⟨w.heap.size, 0, none⟩) 4 4)) (w.alloc (.cells #[.int .i64 z0, .int .i64 z1, .int .i64 z2, .int .i64 z3] 3)) := by
  unfold execOp
  rw [ho]
  simp only [List.map_toArray, List.map_cons, List.map_nil, he]
  kernel_rfl
theorem bs_i3 (e : Operand → Value) (he : ∀ v, e (.const v) = v) (o : Oper) (w : World) (z0 z1 z2 : Int) (ho : o.op = .buildSlice 22 3 #[(0, .const (.int .i64 z0)), (1, .const (.int .i64 z1)), (2, .const (.int .i64 z2))]) :
   (execOp e o).run Tryz.prog w = .ok (.value (.slice (some ⟨w.heap.size, 0, none⟩) 3 3)) (w.alloc (.cells #[.int .i64 z0, .int .i64 z1, .int .i64 z2] 3)) := by
  unfold execOp
  rw [ho]
  simp only [List.map_toArray, List.map_cons, List.map_nil, he]
  kernel_rfl
theorem bs_i5 (e : Operand → Value) (he : ∀ v, e (.const v) = v) (o : Oper) (w : World) (z0 z1 z2 z3 z4 : Int) (ho : o.op = .buildSlice 22 5 #[(0, .const (.int .i64 z0)), (1, .const (.int .i64 z1)), (2, .const (.int .i64 z2)), (3, .const (.int .i64 z3)), (4, .const (.int .i64 z4))]) :
   (execOp e o).run Tryz.prog w = .ok (.value (.slice (some ⟨w.heap.size, 0, none⟩) 5 5)) (w.alloc (.cells #[.int .i64 z0, .int .i64 z1, .int .i64 z2, .int .i64 z3, .int .i64 z4] 3)) := by
  unfold execOp
  rw [ho]
  simp only [List.map_toArray, List.map_cons, List.map_nil, he]
  kernel_rfl
theorem bs_i2 (e : Operand → Value) (he : ∀ v, e (.const v) = v) (o : Oper) (w : World) (z0 z1 : Int) (ho : o.op = .buildSlice 22 2 #[(0, .const (.int .i64 z0)), (1, .const (.int .i64 z1))]) :
   (execOp e o).run Tryz.prog w = .ok (.value (.slice (some ⟨w.heap.size, 0, none⟩) 2 2)) (w.alloc (.cells #[.int .i64 z0, .int .i64 z1] 3)) := by
  unfold execOp
  rw [ho]
  simp only [List.map_toArray, List.map_cons, List.map_nil, he]
  kernel_rfl
theorem bs_s13 (e : Operand → Value) (he : ∀ v, e (.const v) = v) (o : Oper) (w : World)  (p0 p1 p2 p3 p4 p5 p6 p7 p8 p9 p10 p11 p12 : ByteArray) (ho : o.op = .buildSlice 56 13 #[(0, .const (.string p0)), (1, .const (.string p1)), (2, .const (.string p2)), (3, .const (.string p3)), (4, .const (.string p4)), (5, .const (.string p5)), (6, .const (.string p6)), (7, .const (.string p7)), (8, .const (.string p8)), (9, .const (.string p9)), (10, .const (.string p10)), (11, .const (.string p11)), (12, .const (.string p12))])  :
   (execOp e o).run Tryz.prog w = .ok (.value (.slice (some ⟨w.heap.size, 0, none⟩) 13 13)) (w.alloc (.cells #[.string p0, .string p1, .string p2, .string p3, .string p4, .string p5, .string p6, .string p7, .string p8, .string p9, .string p10, .string p11, .string p12] 9)) := by
  unfold execOp
  rw [ho]
  simp only [List.map_toArray, List.map_cons, List.map_nil, he]
  kernel_rfl
theorem bs_s12 (e : Operand → Value) (he : ∀ v, e (.const v) = v) (o : Oper) (w : World)  (p0 p1 p2 p3 p4 p5 p6 p7 p8 p9 p10 p11 : ByteArray) (ho : o.op = .buildSlice 56 12 #[(0, .const (.string p0)), (1, .const (.string p1)), (2, .const (.string p2)), (3, .const (.string p3)), (4, .const (.string p4)), (5, .const (.string p5)), (6, .const (.string p6)), (7, .const (.string p7)), (8, .const (.string p8)), (9, .const (.string p9)), (10, .const (.string p10)), (11, .const (.string p11))])  :
   (execOp e o).run Tryz.prog w = .ok (.value (.slice (some ⟨w.heap.size, 0, none⟩) 12 12)) (w.alloc (.cells #[.string p0, .string p1, .string p2, .string p3, .string p4, .string p5, .string p6, .string p7, .string p8, .string p9, .string p10, .string p11] 9)) := by
  unfold execOp
  rw [ho]
  simp only [List.map_toArray, List.map_cons, List.map_nil, he]
  kernel_rfl
theorem bs_s5r (e : Operand → Value) (he : ∀ v, e (.const v) = v) (o : Oper) (w : World) (i4 : Nat) (p0 p1 p2 p3 p4 : ByteArray) (ho : o.op = .buildSlice 56 5 #[(0, .const (.string p0)), (1, .const (.string p1)), (2, .const (.string p2)), (3, .const (.string p3)), (4, .tmp i4)]) (h4 : e (.tmp i4) = .string p4) :
   (execOp e o).run Tryz.prog w = .ok (.value (.slice (some ⟨w.heap.size, 0, none⟩) 5 5)) (w.alloc (.cells #[.string p0, .string p1, .string p2, .string p3, .string p4] 9)) := by
  unfold execOp
  rw [ho]
  simp only [List.map_toArray, List.map_cons, List.map_nil, he, h4]
  kernel_rfl
end Go.Proofs.YtamlhapiehchoaaGreatDoor

set_option linter.unusedVariables false
set_option linter.unusedSimpArgs false
namespace Go.Proofs.YtamlhapiehchoaaGreatDoor
open Go.RowKit

theorem flat_set {α : Type} (f : α → List Value) (k : Nat) (hk : ∀ x, (f x).length = k) : ∀ (l : List α) (r j : Nat) (d y : α) (v : Value), r < l.length → j < k → f y = (f (l.getD r d)).set j v → ((l.set r y).map f).flatten = ((l.map f).flatten).set (r * k + j) v
  | c :: cs, 0, j, d, y, v, _, hj, hy => by
    have hy' : f y = (f c).set j v := hy
    simp only [List.set_cons_zero, List.map_cons, List.flatten_cons, Nat.zero_mul, Nat.zero_add]
    rw [hy', List.set_append_left _ _ (by rw [hk]; exact hj)]
  | c :: cs, r + 1, j, d, y, v, hr, hj, hy => by
    have ih := flat_set f k hk cs r j d y v (by simpa using hr) hj (by simpa using hy)
    have e : (r + 1) * k = r * k + k := Nat.succ_mul r k
    simp only [List.set_cons_succ, List.map_cons, List.flatten_cons]
    rw [List.set_append_right _ _ (by rw [hk]; omega), hk, show (r + 1) * k + j - k = r * k + j by omega, ih]
/-- Field j of element r is written. -/
theorem own_put1 {α : Type} (f : α → List Value) {k : Nat} (hk : ∀ x, (f x).length = k) {w : World} {base g n cap : Nat} {e : TypeId} {l : List α} (h : w.ownsRow base e k (.slice (some ⟨g, 0, none⟩) n cap) n ((l.map f).flatten)) (r j : Nat) (d y : α) (v : Value) (hr : r < l.length) (hj : j < k) (hy : f y = (f (l.getD r d)).set j v) :
    (w.setCell ⟨g, r * k + j, none⟩ v).ownsRow base e k (.slice (some ⟨g, 0, none⟩) n cap) n (((l.set r y).map f).flatten) := by
  rw [flat_set f k hk l r j d y v hr hj hy]
  exact (h.stored _ _).1
theorem flat_atF {α : Type} (f : α → List Value) (k : Nat) (hk : ∀ x, (f x).length = k) : ∀ (l : List α) (r j : Nat) (d : α), r < l.length → j < k → ((l.map f).flatten)[r * k + j]? = (f (l.getD r d))[j]?
  | c :: cs, 0, j, d, _, hj => by
    simp only [List.map_cons, List.flatten_cons, Nat.zero_mul, Nat.zero_add]
    rw [List.getElem?_append_left (by rw [hk]; exact hj)]
    rfl
  | c :: cs, r + 1, j, d, hr, hj => by
    have ih := flat_atF f k hk cs r j d (by simpa using hr) hj
    have e : (r + 1) * k = r * k + k := Nat.succ_mul r k
    simp only [List.map_cons, List.flatten_cons]
    rw [List.getElem?_append_right (by rw [hk]; omega), hk, show (r + 1) * k + j - k = r * k + j by omega, ih]
    simp
theorem flat_length {α : Type} (f : α → List Value) (k : Nat) (hk : ∀ x, (f x).length = k) (l : List α) : ((l.map f).flatten).length = l.length * k := by
  induction l with
  | nil => simp
  | cons c cs ih => simp only [List.map_cons, List.flatten_cons, List.length_append, List.length_cons, ih, hk, Nat.succ_mul]; omega
/-- Field j of element r. -/
theorem own_field {α : Type} (f : α → List Value) {k : Nat} (hk : ∀ x, (f x).length = k) {w : World} {base g n cap : Nat} {e : TypeId} {l : List α} (h : w.ownsRow base e k (.slice (some ⟨g, 0, none⟩) n cap) n ((l.map f).flatten)) (r j : Nat) (d : α) {v : Value} (hr : r < l.length) (hj : j < k) (hv : (f (l.getD r d))[j]? = some v) : w.cell? ⟨g, r * k + j, none⟩ = some v := by
  have hlt : r * k + j < ((l.map f).flatten).length := by
    rw [flat_length f k hk]
    have : (r + 1) * k ≤ l.length * k := Nat.mul_le_mul_right k hr
    rw [Nat.succ_mul] at this
    omega
  have hl := h.1
  have := h.cellAt (r * k + j) (by omega)
  rw [flat_atF f k hk l r j d hr hj, hv] at this
  exact this
theorem own_soft1 {w : World} {base g n c : Nat} {ty : TypeId} {sz : Nat} {xs : List Value} (h : w.ownsRow base ty sz (.slice (some ⟨g, 0, none⟩) n c) n xs) (j : Nat) : w.frozen? ⟨g, j, none⟩ = false := h.frozenAt j
theorem own_pos {w : World} {base : Nat} {e : TypeId} {size : Nat} {a : Option Addr} {m c n : Nat} {xs : List Value} (h : w.ownsRow base e size (.slice a m c) n xs) (hn : 0 < n) : ∃ g, a = some ⟨g, 0, none⟩ ∧ base ≤ g ∧ g < w.heap.size := by
  rcases h.2 with ⟨_, h0⟩ | ⟨g, cap, cur, e1, h2, h3, _⟩
  · omega
  · injection e1 with e1 e2 e3
    exact ⟨g, e1, h2, (Array.getElem?_eq_some_iff.1 h3).1⟩
end Go.Proofs.YtamlhapiehchoaaGreatDoor
