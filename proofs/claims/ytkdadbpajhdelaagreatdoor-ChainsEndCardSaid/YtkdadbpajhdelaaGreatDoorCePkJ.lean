/- What is proved here: lemmas and contracts for the statement, put together out of smaller texts (LineMap, CloneS, SortS, RegionEnd, FwdCir, FwdSee, ReadyQ, ReadyV, Tariff). No condition beyond those stated. -/
import Derived.Test.YtkdadbpajhdelaaGreatDoorCePkI
import Derived.Test.YtkdadbpajhdelaaGreatDoorCePkC
import Derived.Maps.RangeWalk
import Derived.Maps.Views
import Derived.Maps.AppendAt
import Derived.StringKeys
import Derived.Test.YtkdadbpajhdelaaGreatDoorShelfSlip
import Derived.Test.YtkdadbpajhdelaaGreatDoorCePkB
import Derived.Sort.OwnSorted
import Derived.Laws.AppendOwnNone
import Derived.Deep.LoopGhost
import Derived.Test.YtkdadbpajhdelaaGreatDoorShelfFwd
import Derived.Test.YtkdadbpajhdelaaGreatDoorCePkD
import Derived.BigQuiet
import Derived.Test.YtkdadbpajhdelaaGreatDoorCePkE
import Derived.Test.YtkdadbpajhdelaaGreatDoorCePkA
import Derived.LoopN
set_option linter.unusedVariables false
set_option linter.unusedSimpArgs false
namespace Go.Proofs.YtkdadbpajhdelaaGreatDoor
open Go.RowKit Go.Maps

def rdL (v : Value) : Option (DataW Value × List MemPlace) := match v with
  | .slice a n c => some (.held (.slice a n c), [])
  | _ => none
def mkL (x : Option Addr × Nat × Nat) : Value := .slice x.1 x.2.1 x.2.2
theorem rdL_inv {v : Value} {y : DataW Value × List MemPlace} (h : rdL v = some y) : ∃ c, v = mkL c ∧ y = (.held v, []) := by
  unfold rdL at h
  split at h
  · rename_i a n c
    exact ⟨(a, n, c), rfl, by injection h with h; exact h.symm⟩
  · cases h
theorem rdL_row {w : World} {base : Nat} {v : Value} {n : Nat} {xs : List Value} (h : w.ownsRow base 9 1 v n xs) : rdL v = some (.held v, []) := by
  obtain ⟨a, c, rfl⟩ := own_shape h
  rfl
theorem mapSL : Tryz.prog.underlying 70 = some (.map 9 33) := by kernel_rfl
theorem zeroL (w : World) : (zeroValue 33).run Tryz.prog w = .ok (.slice none 0 0) w := by kernel_rfl
def encL (x : Fin 5) : Value := .string ⟨(lineK x.val).toArray⟩
theorem map_encL (xs : List (Fin 5)) : xs.map encL = (xs.map (fun c => lineK c.val)).map encS := by simp [encL, encS, Function.comp_def]
abbrev LRow (w : World) (base : Nat) (v : Value) (xs : List (Fin 5)) : Prop := w.ownsRow base 9 1 v xs.length (xs.map encL)
theorem keyStr_inv {s : ByteArray} {i : Nat} (h : keyOf Tryz.prog 9 (.string s) = some (lnK i)) : s = ⟨(lineK i).toArray⟩ := by
  have := strLaw.inj h (lnKey i)
  injection this

/-- The map says for each line what T says, in rows of the call's own that lie apart. -/
structure TMap (w : World) (base b n : Nat) (D : DataW Value) (V : Nat → Value) (T : Nat → List (Fin 5)) : Prop where
  own : w.ownsMap Tryz.prog 9 rdL b n D
  keys : ∀ kl, Maps.has D kl = true → ∃ i, i < 5 ∧ kl = lnK i ∧ T i ≠ []
  has : ∀ i, i < 5 → T i ≠ [] → Maps.has D (lnK i) = true
  at_ : ∀ i, i < 5 → D.atKey (lnK i) (.held (.slice none 0 0)) = .held (V i)
  row : ∀ i, i < 5 → LRow w base (V i) (T i)
  apart : ∀ i j g, i < 5 → j < 5 → i ≠ j → (V i).ownBlock = some g → (V j).ownBlock ≠ some g
theorem TMap.made (w : World) (base : Nat) : TMap (w.alloc (.map #[] 0)) base w.heap.size 0 (.map []) (fun _ => .slice none 0 0) (fun _ => []) :=
  ⟨World.ownsMap_made _ _ _ _, fun kl h => by simp [Maps.has] at h, fun i _ h => absurd rfl h, fun i _ => rfl, fun i _ => World.ownsRow_nil _ _ _ _, fun i j g _ _ _ h => by simp [Value.ownBlock] at h⟩
theorem TMap.below {w w' : World} {base b n : Nat} {D : DataW Value} {V : Nat → Value} {T : Nat → List (Fin 5)} (h : TMap w base b n D V T) (hb : Below w.heap.size w w') : TMap w' base b n D V T :=
  ⟨h.own.kept (row := none) ⟨hb.os, hb.tape, hb.output, hb.size, fun k hk _ => hb.block k hk⟩ (by simp), h.keys, h.has, h.at_, fun i hi => own_keep (h.row i hi) hb, h.apart⟩
set_option maxRecDepth 100000 in
theorem TMap.look {w : World} {base b n : Nat} {D : DataW Value} {V : Nat → Value} {T : Nat → List (Fin 5)} (h : TMap w base b n D V T) (i : Nat) (hi : i < 5) : (Instr.lookup 70 (.map (some b)) (.string ⟨(lineK i).toArray⟩) false).run Tryz.prog w = .ok (V i) w := by
  obtain ⟨v, ps, hrun, hv⟩ := h.own.lookup strLaw mapSL (zeroL w) (zd := .held (.slice none 0 0)) (zp := []) rfl (lnKey i)
  rw [h.at_ i hi] at hv
  obtain ⟨c, rfl, hy⟩ := rdL_inv hv
  injection hy with hy
  injection hy with hy
  rw [hrun, ← hy]
theorem TMap.lt {w : World} {base b n : Nat} {D : DataW Value} {V : Nat → Value} {T : Nat → List (Fin 5)} (h : TMap w base b n D V T) : b < w.heap.size := h.own.lt
theorem TMap.notRow {w : World} {base b n : Nat} {D : DataW Value} {V : Nat → Value} {T : Nat → List (Fin 5)} (h : TMap w base b n D V T) : ∀ cs t f, w.heap[b]? ≠ some (.cells cs t f) := fun cs t f e => by
  obtain ⟨es, clock, hb, _⟩ := h.own
  rw [hb] at e
  cases e
theorem row_kept {w w' : World} {base e size : Nat} {v : Value} {n : Nat} {xs : List Value} {row : Option Nat} (h : w.ownsRow base e size v n xs) (hg : w.grownBy w' row) (hr : ∀ g, v.ownBlock = some g → row ≠ some g) : w'.ownsRow base e size v n xs := by
  refine ⟨h.1, h.2.imp id ?_⟩
  rintro ⟨g, cap, cur, rfl, h1, h2, h3⟩
  exact ⟨g, cap, cur, rfl, h1, (hg.block g (Array.getElem?_eq_some_iff.1 h2).1 (fun e => hr g rfl e.symm)).trans h2, h3⟩
theorem row_map {w w' : World} {base e size : Nat} {v : Value} {n r : Nat} {xs : List Value} (h : w.ownsRow base e size v n xs) (hg : w.grownBy w' (some r)) (hr : ∀ cs t f, w.heap[r]? ≠ some (.cells cs t f)) : w'.ownsRow base e size v n xs := by
  rcases h.2 with ⟨e, _⟩ | ⟨g, cap, cur, e, h1, h2, h3⟩
  · exact row_kept h hg (fun g hg => by rw [e] at hg; simp [Value.ownBlock] at hg)
  · refine row_kept h hg (fun g' hg' e2 => ?_)
    rw [e] at hg'
    have hg2 : some g = some g' := hg'
    injection hg2 with hg2
    injection e2 with e2
    exact hr _ _ _ (by rw [e2, ← hg2]; exact h2)
/-- The row of line i has grown, and the map is told so. -/
theorem TMap.put {w w6 : World} {base b n : Nat} {D : DataW Value} {V : Nat → Value} {T : Nat → List (Fin 5)} (h : TMap w base b n D V T) (i : Nat) (hi : i < 5) (hg : w.grownBy w6 (V i).ownBlock) {v6 : Value} {xs : List (Fin 5)} (hxs : xs ≠ []) (hrow : LRow w6 base v6 xs) (hv : ∀ g, v6.ownBlock = some g → (V i).ownBlock = some g ∨ w.heap.size ≤ g) (hn : n < maxLen) :
    ∃ w', (Instr.mapUpdate 70 (.map (some b)) (.string ⟨(lineK i).toArray⟩) v6).run Tryz.prog w6 = .ok () w' ∧ TMap w' base b (n + 1) (D.put (lnK i) (.held v6)) (fun j => if j = i then v6 else V j) (fun j => if j = i then xs else T j) ∧ w6.grownBy w' (some b) := by
  have hnb : (V i).ownBlock ≠ some b := fun e => by
    rcases (h.row i hi).2 with ⟨e2, _⟩ | ⟨g, cap, cur, e2, h1, h2, h3⟩
    · rw [e2] at e; simp [Value.ownBlock] at e
    · rw [e2] at e
      have e : some g = some b := e
      injection e with e
      subst e
      exact h.notRow _ _ _ h2
  have ho6 := h.own.kept hg (Ne.symm hnb)
  have hnr6 : ∀ cs t f, w6.heap[b]? ≠ some (.cells cs t f) := fun cs t f e => by
    obtain ⟨es, clock, hb, _⟩ := ho6
    rw [hb] at e
    cases e
  obtain ⟨w', hrun, ho', hg'⟩ := ho6.update strLaw mapSL hn (lnKey i) (rdL_row hrow)
  have hm := h.own.isMap
  have hk : WideAt.IsKeyLit (lnK i) := trivial
  have hlt : ∀ j, j < 5 → ∀ g, (V j).ownBlock = some g → g < w.heap.size := fun j hj g e => by
    rcases (h.row j hj).2 with ⟨e2, _⟩ | ⟨g', cap, cur, e2, h1, h2, h3⟩
    · rw [e2] at e; simp [Value.ownBlock] at e
    · rw [e2] at e
      have e : some g' = some g := e
      injection e with e
      subst e
      exact (Array.getElem?_eq_some_iff.1 h2).1
  refine ⟨w', hrun, ⟨ho', fun kl hkl => ?_, fun j hj hne => ?_, fun j hj => ?_, fun j hj => ?_, fun j k g hj hk2 hjk e => ?_⟩, hg'⟩
  · by_cases he : kl = lnK i
    · exact ⟨i, hi, he, by rw [if_pos rfl]; exact hxs⟩
    · rw [has_put_other he] at hkl
      obtain ⟨j, hj, rfl, hne⟩ := h.keys kl hkl
      exact ⟨j, hj, rfl, by rw [if_neg (fun e => he (by rw [e]))]; exact hne⟩
  · by_cases e : j = i
    · subst e; exact has_put_same hm hk _
    · rw [if_neg e] at hne
      rw [has_put_other (by intro e2; exact e (lnK_inj hj hi e2))]
      exact h.has j hj hne
  · by_cases e : j = i
    · subst e; rw [if_pos rfl]; exact atKey_put_same hm hk _ _
    · rw [if_neg e, atKey_put_other (by intro e2; exact e (lnK_inj hj hi e2))]
      exact h.at_ j hj
  · by_cases e : j = i
    · subst e
      show World.ownsRow _ _ _ _ _ _ _
      rw [if_pos rfl, if_pos rfl]
      exact row_map hrow hg' hnr6
    · show World.ownsRow _ _ _ _ _ _ _
      rw [if_neg e, if_neg e]
      exact row_map (row_kept (h.row j hj) hg (fun g eg e2 => h.apart i j g hi hj (Ne.symm e) e2 eg)) hg' hnr6
  · show (if k = i then v6 else V k).ownBlock ≠ some g
    have e : (if j = i then v6 else V j).ownBlock = some g := e
    by_cases e1 : j = i
    · rw [if_pos e1] at e
      rw [if_neg (fun e2 => hjk (e1.trans e2.symm))]
      intro e3
      rcases hv g e with h1 | h1
      · exact h.apart i k g hi hk2 (fun e2 => hjk (e1.trans e2)) h1 e3
      · have := hlt k hk2 g e3; omega
    · rw [if_neg e1] at e
      by_cases e2 : k = i
      · rw [if_pos e2]
        intro e3
        rcases hv g e3 with h1 | h1
        · exact h.apart i j g hi hj (Ne.symm e1) h1 e
        · have := hlt j hj g e; omega
      · rw [if_neg e2]
        exact h.apart j k g hj hk2 hjk e

/-- Block b is a map that says true of the lines that are listed. -/
def SnL (w : World) (b n : Nat) (ds : List (Fin 5)) : Prop :=
  ∃ D : DataW Unit, w.ownsMap Tryz.prog 9 (plainElem Tryz.prog 4) b n D ∧ ∀ x : Fin 5, D.atKey (lnK x.val) (.lit (.bool false)) = .lit (.bool (decide (x ∈ ds)))
theorem boolZeroL (w : World) : (zeroValue 4).run Tryz.prog w = .ok (.bool false) w := by kernel_rfl
theorem mapSB : Tryz.prog.underlying 71 = some (.map 9 4) := by kernel_rfl
theorem boolElem_inv {P : Program} {e : TypeId} (he : P.underlying e = some .bool) {v : Value} {z : DataW Unit × List MemPlace} (h : plainElem P e v = some z) : ∃ x, v = .bool x ∧ z = (.lit (.bool x), []) := by
  unfold plainElem at h
  rw [he] at h
  cases v <;> simp at h
  exact ⟨_, rfl, h.symm⟩
theorem SnL.made (w : World) : SnL (w.alloc (.map #[] 0)) w.heap.size 0 [] := ⟨.map [], World.ownsMap_made _ _ _ _, fun x => rfl⟩
theorem SnL.keep {w w' : World} {b n : Nat} {ds : List (Fin 5)} (h : SnL w b n ds) {row : Option Nat} (hg : w.grownBy w' row) (hr : some b ≠ row) : SnL w' b n ds := by
  obtain ⟨D, ho, r⟩ := h
  exact ⟨D, ho.kept hg hr, r⟩
theorem SnL.below {w w' : World} {b n : Nat} {ds : List (Fin 5)} (h : SnL w b n ds) (hb : Below w.heap.size w w') : SnL w' b n ds :=
  h.keep (row := none) ⟨hb.os, hb.tape, hb.output, hb.size, fun k hk _ => hb.block k hk⟩ (by simp)
set_option maxRecDepth 100000 in
theorem SnL.look {w : World} {b n : Nat} {ds : List (Fin 5)} (h : SnL w b n ds) (x : Fin 5) : (Instr.lookup 71 (.map (some b)) (.string ⟨(lineK x.val).toArray⟩) false).run Tryz.prog w = .ok (.bool (decide (x ∈ ds))) w := by
  obtain ⟨D, ho, hat⟩ := h
  obtain ⟨v, ps, hrun, hv⟩ := ho.lookup strLaw mapSB (boolZeroL w) (plainElem_bool Tryz.underlying4 false) (lnKey x.val)
  obtain ⟨c, rfl, hc⟩ := boolElem_inv Tryz.underlying4 hv
  rw [hat x] at hc
  simp only [Prod.mk.injEq, DataW.lit.injEq, Lit.bool.injEq] at hc
  rw [hrun, hc.1]
set_option maxRecDepth 100000 in
theorem SnL.more {w : World} {b n : Nat} {ds : List (Fin 5)} (h : SnL w b n ds) (hn : n < maxLen) (x : Fin 5) : ∃ w', (Instr.mapUpdate 71 (.map (some b)) (.string ⟨(lineK x.val).toArray⟩) (.bool true)).run Tryz.prog w = .ok () w' ∧ SnL w' b (n + 1) (ds ++ [x]) ∧ w.grownBy w' (some b) := by
  obtain ⟨D, ho, hat⟩ := h
  obtain ⟨w', hrun, ho', hg⟩ := ho.update strLaw mapSB hn (lnKey x.val) (plainElem_bool Tryz.underlying4 true)
  refine ⟨w', hrun, ⟨_, ho', fun y => ?_⟩, hg⟩
  by_cases e : y = x
  · subst e; rw [atKey_put_same ho.isMap (show WideAt.IsKeyLit (lnK y.val) from trivial)]; simp
  · rw [atKey_put_other (by intro e2; exact e (Fin.ext (lnK_inj y.isLt x.isLt e2))), hat y]; simp [e]
theorem wpList_lookT (w : World) {ops : Array Oper} {rest : List Oper} {o : Oper} {a : Act} {Q : Exit → Act → World → Prop}
    (hg : o.guard = none) (m x : Operand) (hop : o.op = Op.lookup 70 m x false) (b : Nat) (hm : a.eval m = .map (some b)) (s : ByteArray) (hx : a.eval x = .string s) (v : Value) (hrun : (Instr.lookup 70 (.map (some b)) (.string s) false).run Tryz.prog w = .ok v w)
    (hK : wpList Tryz.prog ops Q rest (a.put o.dst v) w) : wpList Tryz.prog ops Q (o :: rest) a w := by
  refine wpList_plain hg fun K' hK' => ?_
  unfold Oper.wp
  simp only [execOp, hop, hm, hx, Sem.run_bind, hrun, Result.andThen_ok, Sem.run_pure]
  exact hK' _ _ hK
theorem wpList_lookS (w : World) {ops : Array Oper} {rest : List Oper} {o : Oper} {a : Act} {Q : Exit → Act → World → Prop}
    (hg : o.guard = none) (m x : Operand) (hop : o.op = Op.lookup 71 m x false) (b : Nat) (hm : a.eval m = .map (some b)) (s : ByteArray) (hx : a.eval x = .string s) (v : Value) (hrun : (Instr.lookup 71 (.map (some b)) (.string s) false).run Tryz.prog w = .ok v w)
    (hK : wpList Tryz.prog ops Q rest (a.put o.dst v) w) : wpList Tryz.prog ops Q (o :: rest) a w := by
  refine wpList_plain hg fun K' hK' => ?_
  unfold Oper.wp
  simp only [execOp, hop, hm, hx, Sem.run_bind, hrun, Result.andThen_ok, Sem.run_pure]
  exact hK' _ _ hK
theorem wpList_moreS (w : World) {ops : Array Oper} {rest : List Oper} {o : Oper} {a : Act} {Q : Exit → Act → World → Prop}
    (hg : o.guard = none) (m x v : Operand) (hop : o.op = Op.mapUpdate 71 m x v) (b n : Nat) (ds : List (Fin 5)) (hm : a.eval m = .map (some b)) (h : SnL w b n ds) (hn : n < maxLen) (y : Fin 5) (hx : a.eval x = .string ⟨(lineK y.val).toArray⟩) (hv : a.eval v = .bool true)
    (hK : ∀ w', SnL w' b (n + 1) (ds ++ [y]) → w.grownBy w' (some b) → wpList Tryz.prog ops Q rest (a.put o.dst undef) w') : wpList Tryz.prog ops Q (o :: rest) a w := by
  refine wpList_plain hg fun K' hK' => ?_
  obtain ⟨w', hrun, r1, r2⟩ := h.more hn y
  unfold Oper.wp
  simp only [execOp, hop, hm, hx, hv, Sem.run_bind, hrun, Result.andThen_ok, Sem.run_pure]
  exact hK' _ _ (hK w' r1 r2)
/-- The store into the map of rows, as the last operation of a region. -/
theorem wp_putT (w : World) {o : Oper} {a : Act} {K : Act → World → Prop} {Q : Exit → Act → World → Prop}
    (m x v : Operand) (hop : o.op = Op.mapUpdate 70 m x v) (b : Nat) (hm : a.eval m = .map (some b)) (s : ByteArray) (hx : a.eval x = .string s) (v6 : Value) (hv : a.eval v = v6) (w' : World) (hrun : (Instr.mapUpdate 70 (.map (some b)) (.string s) v6).run Tryz.prog w = .ok () w')
    (hK : K (a.put o.dst undef) w') : o.wp Tryz.prog a w K Q := by
  unfold Oper.wp
  simp only [execOp, hop, hm, hx, hv, Sem.run_bind, hrun, Result.andThen_ok, Sem.run_pure]
  exact hK
theorem TMap.not_row {w : World} {base b n : Nat} {D : DataW Value} {V : Nat → Value} {T : Nat → List (Fin 5)} (h : TMap w base b n D V T) (i : Nat) (hi : i < 5) : (V i).ownBlock ≠ some b := fun e => by
  rcases (h.row i hi).2 with ⟨e2, _⟩ | ⟨g, cap, cur, e2, h1, h2, h3⟩
  · rw [e2] at e; simp [Value.ownBlock] at e
  · rw [e2] at e
    have e : some g = some b := e
    injection e with e
    subst e
    exact h.notRow _ _ _ h2
set_option maxRecDepth 100000 in
/-- The map itself, where the row of line i was written. -/
theorem TMap.look_row {w w6 : World} {base b n : Nat} {D : DataW Value} {V : Nat → Value} {T : Nat → List (Fin 5)} (h : TMap w base b n D V T) (i : Nat) (hi : i < 5) (hg : w.grownBy w6 (V i).ownBlock) : (Instr.lookup 70 (.map (some b)) (.string ⟨(lineK i).toArray⟩) false).run Tryz.prog w6 = .ok (V i) w6 := by
  have ho := h.own.kept hg (Ne.symm (h.not_row i hi))
  obtain ⟨v, ps, hrun, hv⟩ := ho.lookup strLaw mapSL (zeroL w6) (zd := .held (.slice none 0 0)) (zp := []) rfl (lnKey i)
  rw [h.at_ i hi] at hv
  obtain ⟨c, rfl, hy⟩ := rdL_inv hv
  injection hy with hy
  injection hy with hy
  rw [hrun, ← hy]
theorem wp_append_at {P : Program} {w : World} {o : Oper} {a : Act} {K : Act → World → Prop} {Q : Exit → Act → World → Prop} (s x : Operand) (t : TypeId)
    (ho : o.op = .call { callee := .builtin .append, args := #[s, x], argTypes := #[t, t] })
    (base : Nat) (e : TypeId) (i : TypeInfo) (z : Value) (size bytes : Nat) (ht : P.underlying t = some (.slice e)) (hi : P.info? e = some i) (hz : i.zero = some z)
    (hsize : i.size = size) (hby : i.bytes = bytes) (hzs : z.cells.size = size) (hsz : 0 < size)
    (v : Value) (n : Nat) (xs : List Value) (hs : a.eval s = v) (hown : w.ownsRow base e size v n xs)
    (ad : Addr) (m c : Nat) (news : List Value) (hx : a.eval x = .slice (some ad) m c) (hl : news.length = m * size) (hnews : ∀ j u, news[j]? = some u → w.cell? (ad.add j) = some u) (h1 : ∀ u ∈ news, u.oneCell' = true)
    (h63 : n + m ≤ maxLen) (hbytes : (n + m) * bytes ≤ 140737488355328) (hbase : base ≤ w.heap.size)
    (h : ∀ v' w', w'.ownsRow base e size v' (n + m) (xs ++ news) → w.grownBy w' v.ownBlock → (v'.ownBlock = v.ownBlock ∨ v'.ownBlock = some w.heap.size) → K (a.put o.dst v') w') : o.wp P a w K Q := by
  obtain ⟨v', w', hr, h2, h3, h4, h5⟩ := run_append_own_at (P := P) w base t o.type e i z size bytes ht hi hz hsize hby hzs hsz v n xs hown ad m c news hl hnews h1 h63 hbytes hbase
  unfold Oper.wp execOp
  simp only [ho, resolve, invoke, builtin, Sem.run_bind, Sem.run_pure, Result.andThen_ok, List.map_toArray, List.map_cons, List.map_nil, hs, hx, hr]
  exact h v' w' h2 h3 h5
theorem keyB_inv (key : Value) (kl : Lit) (h : keyOf Tryz.prog 9 key = some kl) : ∃ x, key = Value.string x := by
  obtain ⟨s, rfl, _⟩ := WideMaps.string_of_keyOf Tryz.underlying9 h
  exact ⟨s, rfl⟩
theorem TMap.nil {w : World} {base b n : Nat} {D : DataW Value} {V : Nat → Value} {T : Nat → List (Fin 5)} (h : TMap w base b n D V T) (i : Nat) (hi : i < 5) (ht : T i = []) : V i = .slice none 0 0 := by
  have hh : Maps.has D (lnK i) = false := by
    cases hx : Maps.has D (lnK i) with
    | false => rfl
    | true =>
      obtain ⟨j, hj, e, hne⟩ := h.keys _ hx
      have := lnK_inj hi hj e
      subst this
      exact absurd ht hne
  have h1 := h.at_ i hi
  rw [atKey_of_not_has hh] at h1
  injection h1 with h1
  exact h1.symm
theorem wpList_append_que_nil {P : Program} {w : World} {ops : Array Oper} {rest : List Oper} {o : Oper} {a : Act} {Q : Exit → Act → World → Prop} (hgd : o.guard = none) (s x : Operand) (t : TypeId)
    (ho : o.op = .call { callee := .builtin .append, args := #[s, x], argTypes := #[t, t] })
    (e : TypeId) (i : TypeInfo) (ht : P.underlying t = some (.slice e)) (hi : P.info? e = some i)
    (ad : Addr) (n cap : Nat) (hs : a.eval s = .slice (some ad) n cap) (hnc : n ≤ cap) (hx : a.eval x = .slice none 0 0)
    (h : wpList P ops Q rest (a.put o.dst (.slice (some ad) n cap)) w) : wpList P ops Q (o :: rest) a w := by
  refine wpList_plain hgd fun K hK => ?_
  have hrun : (Builtin.append_ #[t, t] o.type #[.slice (some ad) n cap, .slice none 0 0]).run P w = .ok (.slice (some ad) n cap) w := by
    simp [Builtin.append_, run_underlying ht, sizeOf, typeInfo, hi, Builtin.lenOf, Builtin.firstCells, hnc, storeCells]
  unfold Oper.wp
  simp [execOp, ho, resolve, invoke, builtin, hs, hx, hrun, Result.andThen]
  exact hK _ _ h
end Go.Proofs.YtkdadbpajhdelaaGreatDoor

set_option linter.unusedVariables false
set_option linter.unusedSimpArgs false
namespace Go.Proofs.YtkdadbpajhdelaaGreatDoor
open Go.RowKit

theorem own_lit0 (w : World) (base : Nat) (hb : base ≤ w.heap.size) : (w.alloc (.cells #[] 9)).ownsRow base 9 1 (.slice (some ⟨w.heap.size, 0, none⟩) 0 0) 0 [] := World.ownsRow_lit w #[] 0 hb (by simp only [maxLen]; omega) rfl
def ClonePost (n : Nat) (x : List (List UInt8)) (w : World) (e : Ending) (w' : World) : Prop := ∃ v', e = .returned v' ∧ w'.ownsRow w.heap.size 9 1 v' n (x.map encS) ∧ Below w.heap.size w w'
set_option maxRecDepth 100000 in
set_option maxHeartbeats 2000000 in
theorem cloneW_any (w : World) (base : Nat) (v : Value) (n : Nat) (x : List (List UInt8)) (h : w.ownsRow base 9 1 v n (x.map encS)) (hn : n ≤ 100000) : Calls Tryz.prog 27 #[v] w (ClonePost n x w) := by
  obtain ⟨i0, hi, hz0, hz1, hz2⟩ := info_parts Tryz.infoStr
  have hl : x.length = n := by have := h.1; simpa using this
  have HO := Lib.hid h
  have q24 : ∀ (w : World) (a : Option Addr) (n c n' c' : Nat), (binOp .eql 33 (.slice a n c) (.slice none n' c')).run Tryz.prog w = .ok (.bool a.isNone) w := fun w a n c n' c' => Lib.run_eql_slice_nil w _ _ a n c n' c' Tryz.underlying33
  rcases h.2 with ⟨rfl, h0⟩ | ⟨g, cap, cur, rfl, hbg, hg, _⟩
  · have hx : x = [] := List.eq_nil_of_length_eq_zero (by omega)
    subst hx
    subst h0
    clear h hl HO
    go_enter Tryz.func27, Tryz.ntmps27
    go_wp2_with fail
    go_ret
    exact ⟨_, rfl, World.ownsRow_nil _ _ _ _, (by (try show Below _ _ _); repeat (with_reducible first | exact Below.refl _ _ | assumption | exact Hid.out (by assumption) | refine ext_alloc ?_ | refine ext_drewN ?_ | refine ext_drew ?_ | refine ext_setCell ?_ (Nat.le_refl _) | refine ext_setCell ?_ (Nat.le_succ _) | refine ext_trans ?_ (by assumption) | (refine ext_setCell ?_ (by simp)) | (refine ext_setCell ?_ (by simp at *; omega))))⟩
  · have hgl : g < w.heap.size := (Array.getElem?_eq_some_iff.1 hg).1
    have HLN : Hid ((x.map encS).length = n * 1) := by show _ = _; rw [List.length_map]; omega
    have HCE : Hid (∀ (j : Nat) u, (x.map encS)[j]? = some u → (w.alloc (.cells #[] 9)).cell? ((⟨g, 0, none⟩ : Addr).add j) = some u) := fun j u hu => by
      have hj : j < x.length := by
        obtain ⟨hj, -⟩ := List.getElem?_eq_some_iff.1 hu
        simpa using hj
      rw [add0, ((Below.refl w.heap.size w).alloc (Nat.le_refl _) (.cells #[] 9)).cell (p := ⟨g, j, none⟩) hgl, HO.out.cellAt j (by omega), hu]
    have HON : Hid (∀ u ∈ x.map encS, u.oneCell' = true) := fun u hu => by
      obtain ⟨y, -, rfl⟩ := List.mem_map.1 hu
      rfl
    have HOA := Lib.hid (own_lit0 w w.heap.size (Nat.le_refl _))
    clear h hl hg
    go_enter Tryz.func27, Tryz.ntmps27
    go_wp2_with (at_builtin; refine wpList_append_own _ rfl (.tmp 5) (.tmp 6) 33 rfl w.heap.size 9 i0 (.string ⟨#[]⟩) 1 16 Tryz.underlying33 hi hz0 hz1 hz2 rfl (by decide) _ 0 _ rfl HOA.out ⟨g, 0, none⟩ n cap (x.map encS) rfl HLN.out HCE.out HON.out (by simp only [maxLen]; omega) (by omega) (by simp) ?_; intro v6 w6 hown6 hgr6 _)
    have HO6 : Hid (w6.ownsRow w.heap.size 9 1 v6 n (x.map encS)) := by
      show World.ownsRow _ _ _ _ _ _ _
      rw [Nat.zero_add, List.nil_append] at hown6
      exact hown6
    have HB6 : Hid (Below w.heap.size w w6) := upto_grown hgr6 (Nat.le_refl _) (fun b e => (HOA.out.lt b e).1)
    clear hown6 hgr6
    go_ret
    exact ⟨v6, rfl, HO6.out, HB6.out⟩
end Go.Proofs.YtkdadbpajhdelaaGreatDoor

set_option linter.unusedVariables false
set_option linter.unusedSimpArgs false
namespace Go.Proofs.YtkdadbpajhdelaaGreatDoor
open Go.RowKit Go.Sort

theorem own_short {w : World} {base : Nat} {e : TypeId} {g n cap : Nat} {A B : List Value} (h : w.ownsRow base e 1 (.slice (some ⟨g, 0, none⟩) n cap) n (A ++ B)) : w.ownsRow base e 1 (.slice (some ⟨g, 0, none⟩) A.length cap) A.length A := by
  have hl : (A ++ B).length = n := by have := h.1; simpa using this
  rcases h.2 with ⟨h0, _⟩ | ⟨g', cap', cur, hv, hb, hg, h1, h2, h3, h4⟩
  · cases h0
  · cases hv
    have hA : A.length ≤ n := by rw [← hl, List.length_append]; omega
    refine ⟨by simp, Or.inr ⟨g, cap, cur, rfl, hb, hg, by omega, h2, h3, ?_⟩⟩
    have h5 := congrArg (List.take A.length) h4
    rw [List.take_take, List.take_left, Nat.min_eq_left (by omega)] at h5
    rw [Nat.mul_one]
    exact h5
def SortPost (base : Nat) (v : Value) (n : Nat) (ys : List (List UInt8)) (w : World) (e : Ending) (w' : World) : Prop :=
  e = .returned (.tuple #[]) ∧ w'.ownsRow base 9 1 v n (ys.map encS) ∧ w.grownBy w' v.ownBlock
theorem grown_same (w : World) (r : Option Nat) : w.grownBy w r := ⟨rfl, rfl, rfl, Nat.le_refl _, fun _ _ _ => rfl⟩
theorem sort_own {w : World} {base : Nat} {v : Value} {n : Nat} {xs : List (List UInt8)} (h : w.ownsRow base 9 1 v n (xs.map encS)) (hn : n ≤ 100000) : Calls Tryz.prog 28 #[v] w (SortPost base v n (xs.mergeSort leB) w) := by
  have hl : xs.length = n := by have := h.1; simpa using this
  rcases h.2 with ⟨rfl, h0⟩ | ⟨g, cap, cur, rfl, hb, hg, h1, h2, h3, h4⟩
  · obtain rfl : xs = [] := List.eq_nil_of_length_eq_zero (by omega)
    refine (Tryz.slices_SortS_none none 0 w).mono ?_
    rintro e w' ⟨rfl, rfl⟩
    exact ⟨rfl, by simpa using h, grown_same _ _⟩
  · have hlt := (Array.getElem?_eq_some_iff.1 hg).1
    subst hl
    refine (Tryz.slices_SortS g 0 cap xs w (holds_of_block hg (by rw [Nat.mul_one] at h4; exact h4)) hlt (by omega)).mono ?_
    rintro e w' ⟨rfl, q, os, rfl⟩
    exact ⟨rfl, ownsRow_sorted (by simp) hb hg h1 h2 h3, grownBy_sorted _⟩
def CompactPost (base : Nat) (v : Value) (ys : List (List UInt8)) (w : World) (e : Ending) (w' : World) : Prop :=
  ∃ v', e = .returned v' ∧ w'.ownsRow base 9 1 v' ys.length (ys.map encS) ∧ w.grownBy w' v.ownBlock
def OncePost (ys : List (List UInt8)) (w : World) (e : Ending) (w' : World) : Prop :=
  ∃ v', e = .returned v' ∧ w'.ownsRow w.heap.size 9 1 v' ys.length (ys.map encS) ∧ Below w.heap.size w w'
end Go.Proofs.YtkdadbpajhdelaaGreatDoor

namespace Go.Proofs.YtkdadbpajhdelaaGreatDoor

section
variable {P : Program} {Q : Exit → Act → World → Prop}
/-- **A region that draws, in a forced order, its last operation behind the others**: S need not hold behind that one. -/
theorem region_lastI {S : World → Prop} {id : Nat} {L : List Oper} {st : Oper} {a : Act} {w : World} (l : List (Bool × Nat)) (hm : P.follows .mixedOrders = true) (hst : L.getLast? = some st) (hg : st.guard = none) (hc : lastChk L.toArray (L.length - 1) = true)
    (hs : Region.noSelect L.dropLast.toArray = true) (hlen : l.length = L.length - 1) (hok : seqOkI L.dropLast.toArray l (Array.replicate (L.length - 1) false) = true)
    (hS : S w.drew) (h : wpSeqI P L.dropLast.toArray (lastQ P st Q) S (seqOps L.dropLast l) a w.drew) : (Code.region id L.toArray true).wp P Q a w := by
  have hd : L.dropLast.toArray.size = L.length - 1 := by simp
  refine region_last_held (S := S) (ops' := L.dropLast.toArray) (st := st) hm ?_ hg (by rw [hd]; exact hc) hS fun hS => ?_
  · obtain ⟨hne, he⟩ : ∃ hne : L ≠ [], L.getLast hne = st := by
      cases L with
      | nil => simp at hst
      | cons x xs => exact ⟨by simp, by rw [List.getLast?_eq_some_getLast (by simp)] at hst; exact Option.some.inj hst⟩
    have := List.dropLast_concat_getLast hne
    rw [he] at this
    conv => lhs; rw [← this]
    simp
  · have hok' : seqOkI L.dropLast.toArray l (Array.replicate L.dropLast.toArray.size false) = true := by rw [hd]; exact hok
    have hl : L.dropLast.toArray.size = l.length := by rw [hd, hlen]
    have := seqI_held (Q := lastQ P st Q) hs l _ a _ hok' hS h
    rw [← hl] at this
    exact this
end
end Go.Proofs.YtkdadbpajhdelaaGreatDoor

set_option linter.unusedVariables false
set_option linter.unusedSimpArgs false
namespace Go.Proofs.YtkdadbpajhdelaaGreatDoor
open Go.RowKit Go.Sort Go.Lib Go.Shelf Go.Maps

def CirP (fs : List Fwd) (w : World) (e : Ending) (w' : World) : Prop := ∃ v os, e = .returned (.tuple #[v, .int .i64 0]) ∧ w'.ownsRow w.heap.size 9 1 v os.length (os.map encS) ∧ os.Pairwise (fun a b => leB a b = true) ∧ (∀ a, Way fs a a → os ≠ []) ∧ os.length ≤ 7 ∧ Below w.heap.size w w'

set_option maxRecDepth 100000 in
set_option maxHeartbeats 16000000 in
theorem circles_any (w : World) (p : DPlan) (hp : DPlanFine w p) (base : Nat) (v : Value) (fs : List Fwd) (h : FwRow w base v fs) (hok : ∀ y ∈ fs, y.line.val ≠ y.to_.val) (hst : Strict fs fs.length) (hl : fs.length ≤ 7) :
    Calls Tryz.prog 7 #[.agg p.cells.toArray, v] w (CirP fs w) := by
  have HCF := Lib.hid (fun W (hW : Below w.heap.size w W) => checkFwd_any W p (hp.below hW) base v fs (own_more h hW) hok hst hl)
  have HO := Lib.hid h
  clear hp hok hst
  obtain ⟨ca, cn, cc, ctxs, ha, hn, hcp, hrs⟩ := p
  have HCF2 : Hid (∀ W, Below w.heap.size w W → Calls Tryz.prog 26 #[.agg #[.slice ca cn cc, .slice ha hn hcp], v] W (IntP 0 W)) := HCF.out
  clear HCF
  show Calls Tryz.prog 7 #[.agg #[.slice ca cn cc, .slice ha hn hcp], v] w _
  obtain ⟨a, cap, rfl⟩ := own_shape h
  clear h
  obtain ⟨i0, hi, hz0, hz1, hz2⟩ := info_parts Tryz.infoStr
  have P1 : Hid (Blk (w.alloc (.cells #[.slice ca cn cc, .slice ha hn hcp] 29)) w.heap.size [.slice ca cn cc, .slice ha hn hcp] 29) := Blk.new w _ _
  have HB1 : Hid (Below w.heap.size w (w.alloc (.cells #[.slice ca cn cc, .slice ha hn hcp] 29))) := ext_alloc (Below.refl _ _)
  obtain ⟨n, hne⟩ : ∃ n, n = fs.length := ⟨_, rfl⟩
  have HN := Lib.hid hne
  have hn7 : n ≤ 7 := by omega
  rw [← hne] at HCF2 ⊢
  clear hne hl
  go_enter Tryz.func7, Tryz.ntmps7
  go_upto_region 1 with (fail)
  generalize (w.alloc (.cells #[.slice ca cn cc, .slice ha hn hcp] 29)) = w1 at P1 HB1 ⊢
  generalize w.heap.size = P at P1 ⊢
  have p0 := P1.out.cell 0 rfl
  have p1 := P1.out.cell 1 rfl
  as_aux_lemma =>
    go_wp2_with fail
    refine (HCF2.out _ HB1.out).mono ?_
    rintro e w2 ⟨rfl, hb⟩
    have HB2 := Lib.hid (ext_trans HB1.out hb)
    clear hb p0 p1 HB1 P1 HCF2
    have hmm := @run_makeMap Tryz.prog
    have HT0 : Hid (TMap (w2.alloc (.map #[] 0)) w2.heap.size w2.heap.size 0 (.map []) (fun _ => .slice none 0 0) (fun _ => [])) := TMap.made w2 w2.heap.size
    have HB3 : Hid (Below w2.heap.size w2 (w2.alloc (.map #[] 0))) := ext_alloc (Below.refl _ _)
    as_aux_lemma =>
      go_wp2_with fail
      clear hmm
      obtain ⟨M, hM⟩ : ∃ M, M = w2.heap.size := ⟨_, rfl⟩
      have HM := Lib.hid hM
      rw [← hM] at HT0 ⊢
      clear hM
      go_loopw [24] (fun it wr => ∃ (j : Nat) (D : DataW Value) (V : Nat → Value), j ≤ n ∧ it = .int .i64 j ∧ Hid (TMap wr M M j D V (outsF (fs.take j))) ∧ Hid (Below w2.heap.size w2 wr)) (fun it _ => n - (intOf it).toNat)
      case atStart => exact ⟨0, _, _, Nat.zero_le _, rfl, HT0, HB3⟩
      case round =>
        clear HT0 HB3
        obtain ⟨j, D, V, hj, rfl, HT, HB⟩ := hrel
        by_cases hlj : j < n
        case pos =>
          have hjl : j < fs.length := by have := HN.out; omega
          have hO : wr.ownsRow base 46 4 (.slice a fs.length cap) fs.length ((fs.map Fwd.cells).flatten) := own_more HO.out (ext_trans HB2.out HB.out)
          obtain ⟨g, rfl, hg0, hgw⟩ := own_pos hO (by omega)
          have f0 := own_field Fwd.cells (fun _ => rfl) hO j 0 default hjl (by omega) rfl
          have f1 := own_field Fwd.cells (fun _ => rfl) hO j 1 default hjl (by omega) rfl
          have f2 := own_field Fwd.cells (fun _ => rfl) hO j 2 default hjl (by omega) rfl
          have f3 := own_field Fwd.cells (fun _ => rfl) hO j 3 default hjl (by omega) rfl
          rw [Nat.add_zero] at f0
          have HSN := Lib.hid (outs_snoc fs j hjl)
          generalize fs.getD j default = f at f0 f1 f2 f3 HSN
          have HLF : Hid (f.line.val < 5) := Nat.lt_succ_of_lt f.line.isLt
          obtain ⟨lb, hlb⟩ : ∃ lb : ByteArray, lb = ⟨(lineK f.line.val).toArray⟩ := ⟨_, rfl⟩
          obtain ⟨tb, htb⟩ : ∃ tb : ByteArray, tb = ⟨(lineK f.to_.val).toArray⟩ := ⟨_, rfl⟩
          rw [← hlb] at f0
          rw [← htb] at f2
          have HLB := Lib.hid hlb
          have HTB := Lib.hid htb
          clear hlb htb
          generalize (⟨(hourK f.hr).toArray⟩ : ByteArray) = hb at f3
          generalize ((f.wh.val + 1 : Nat) : Int) = z at f1
          have hA : Below wr.heap.size wr (wr.alloc (.cells #[.string lb, .int .i64 z, .string tb, .string hb] 46)) := ext_alloc (Below.refl _ _)
          have X3 : Hid (Blk (wr.alloc (.cells #[.string lb, .int .i64 z, .string tb, .string hb] 46)) wr.heap.size [.string lb, .int .i64 z, .string tb, .string hb] 46) := Blk.new _ _ _
          have HB3 := Lib.hid (ext_trans HB.out hA)
          have T3 := Lib.hid (HT.out.below hA)
          have hj0 : ¬ ((j : Int) < 0) := by omega
          have hjn : (j : Int) < (n : Int) := by omega
          clear hA HB HT hO
          as_aux_lemma =>
            go_upto_region 8 with (fail)
            clear f0 f1 f2 f3 hgw
            generalize wr.alloc (.cells #[.string lb, .int .i64 z, .string tb, .string hb] 46) = w3 at X3 HB3 T3 ⊢
            generalize wr.heap.size = X at X3 ⊢
            have hd : Below w3.heap.size w3 w3.drew := ext_drew (Below.refl _ _)
            have X4 := Lib.hid (X3.out.below hd)
            have B4 := Lib.hid (ext_trans HB3.out hd)
            have T4 := Lib.hid (T3.out.below hd)
            clear hd X3 HB3 T3
            obtain ⟨vl, hvl⟩ : ∃ vl, vl = V f.line.val := ⟨_, rfl⟩
            have HVL := Lib.hid hvl
            have HS4 : Hid (w3.drew.cell? ⟨X, 0, none⟩ = some (.string lb) ∧ w3.drew.cell? ⟨X, 2, none⟩ = some (.string tb) ∧ (Instr.lookup 70 (.map (some M)) (.string lb) false).run Tryz.prog w3.drew = .ok vl w3.drew) := ⟨X4.out.cell 0 rfl, X4.out.cell 2 rfl, by rw [hvl, HLB.out]; exact T4.out.look f.line.val HLF.out⟩
            clear hvl
            refine region_lastI (S := fun W => W.cell? ⟨X, 0, none⟩ = some (.string lb) ∧ W.cell? ⟨X, 2, none⟩ = some (.string tb) ∧ (Instr.lookup 70 (.map (some M)) (.string lb) false).run Tryz.prog W = .ok vl W) [(true, 0), (true, 1), (true, 2), (true, 3), (true, 4), (true, 5), (true, 6), (true, 7), (true, 8), (false, 9), (false, 10)] (by kernel_rfl) rfl rfl (by kernel_rfl) (by kernel_rfl) rfl (by kernel_rfl) HS4.out ?_
            generalize w3.drew = wd at X4 B4 T4 HS4 ⊢
            clear HS4
            simp only [List.dropLast, seqOps, List.getD_cons_zero, List.getD_cons_succ]
            refine seqI_take (v := .map (some M)) rfl (fun W9 hW => by go_simp) (fun _ _ _ h => h) ?_
            simp only [Act.put, List.setIfInBounds_toArray, List.set_cons_zero, List.set_cons_succ]
            refine seqI_take (v := .pointer (some ⟨X, 0, none⟩)) rfl (fun W9 hW => by go_simp) (fun _ _ _ h => h) ?_
            simp only [Act.put, List.setIfInBounds_toArray, List.set_cons_zero, List.set_cons_succ]
            refine seqI_take (v := .string lb) rfl (fun W9 hW => by obtain ⟨q0, q1, q2⟩ := hW; go_simp) (fun _ _ _ h => h) ?_
            simp only [Act.put, List.setIfInBounds_toArray, List.set_cons_zero, List.set_cons_succ]
            refine seqI_take (v := .map (some M)) rfl (fun W9 hW => by go_simp) (fun _ _ _ h => h) ?_
            simp only [Act.put, List.setIfInBounds_toArray, List.set_cons_zero, List.set_cons_succ]
            refine seqI_take (v := .pointer (some ⟨X, 0, none⟩)) rfl (fun W9 hW => by go_simp) (fun _ _ _ h => h) ?_
            simp only [Act.put, List.setIfInBounds_toArray, List.set_cons_zero, List.set_cons_succ]
            refine seqI_take (v := .string lb) rfl (fun W9 hW => by obtain ⟨q0, q1, q2⟩ := hW; go_simp) (fun _ _ _ h => h) ?_
            simp only [Act.put, List.setIfInBounds_toArray, List.set_cons_zero, List.set_cons_succ]
            refine seqI_take (v := vl) rfl (fun W9 hW => by obtain ⟨q0, q1, q2⟩ := hW; go_simp) (fun _ _ _ h => h) ?_
            simp only [Act.put, List.setIfInBounds_toArray, List.set_cons_zero, List.set_cons_succ]
            refine seqI_take (v := .pointer (some ⟨X, 2, none⟩)) rfl (fun W9 hW => by go_simp) (fun _ _ _ h => h) ?_
            simp only [Act.put, List.setIfInBounds_toArray, List.set_cons_zero, List.set_cons_succ]
            refine seqI_take (v := .string tb) rfl (fun W9 hW => by obtain ⟨q0, q1, q2⟩ := hW; go_simp) (fun _ _ _ h => h) ?_
            simp only [Act.put, List.setIfInBounds_toArray, List.set_cons_zero, List.set_cons_succ]
            have hA : Below wd.heap.size wd (wd.alloc (.cells #[.string tb] 9)) := ext_alloc (Below.refl _ _)
            have X5 := Lib.hid (X4.out.below hA)
            have B5 := Lib.hid (ext_trans B4.out hA)
            have T5 := Lib.hid (T4.out.below hA)
            have c5 : (wd.alloc (.cells #[.string tb] 9)).cell? ⟨wd.heap.size, 0, none⟩ = some (.string tb) := (Blk.new wd [.string tb] 9).cell 0 rfl
            refine seqI_do rfl (wp_made (v := .slice (some ⟨wd.heap.size, 0, none⟩) 1 1) (w' := (wd.alloc (.cells #[.string tb] 9))) (by go_simp) ⟨⟨X5.out.cell 0 rfl, X5.out.cell 2 rfl, by rw [HVL.out, HLB.out]; exact T5.out.look f.line.val HLF.out⟩, ?_⟩)
            simp only [Act.put, List.setIfInBounds_toArray, List.set_cons_zero, List.set_cons_succ]
            clear hA X4 B4 T4
            obtain ⟨Y, hY⟩ : ∃ Y, Y = wd.heap.size := ⟨_, rfl⟩
            rw [← hY] at c5 ⊢
            clear hY
            generalize (wd.alloc (.cells #[.string tb] 9)) = w5 at X5 B5 T5 c5 ⊢
            have hrow := T5.out.row f.line.val HLF.out
            rw [← HVL.out] at hrow
            have hol : (outsF (fs.take j) f.line.val).length ≤ j := Nat.le_trans (outs_len _ _) (by rw [List.length_take]; omega)
            have hwb : M ≤ w5.heap.size := by have := B5.out.size; have := HM.out; omega
            have hml : (outsF (fs.take j) f.line.val).length + 1 ≤ maxLen := by unfold maxLen; omega
            have hbs : ((outsF (fs.take j) f.line.val).length + 1) * 16 ≤ 140737488355328 := by omega
            refine seqI_do rfl (wp_append_at (.tmp 34) (.tmp 37) 33 rfl M 9 i0 (.string ⟨#[]⟩) 1 16 Tryz.underlying33 hi hz0 hz1 hz2 rfl (by decide) vl (outsF (fs.take j) f.line.val).length ((outsF (fs.take j) f.line.val).map encL) rfl hrow ⟨Y, 0, none⟩ 1 1 [.string tb] rfl rfl (news_one c5) (by simp [Value.oneCell']) hml hbs hwb ?_)
            intro v6 w6 hown6 hgr6 hat6
            have hgv : w5.grownBy w6 (V f.line.val).ownBlock := by rw [← HVL.out]; exact hgr6
            have X6 := Lib.hid (X5.out.grown hgr6 (own_blk hrow X5.out (by decide)))
            have hrow6 : LRow w6 M v6 (outsF (fs.take j) f.line.val ++ [f.to_]) := by
              show World.ownsRow _ _ _ _ _ _ _
              rw [List.length_append, List.map_append]
              rw [HTB.out] at hown6
              exact hown6
            obtain ⟨w7, hrun7, hT7, hg7⟩ := T5.out.put f.line.val HLF.out hgv (xs := outsF (fs.take j) f.line.val ++ [f.to_]) (by simp) hrow6 (fun g e => by
              rcases hat6 with h9 | h9
              · left; rw [← HVL.out, ← h9]; exact e
              · right; rw [h9] at e; injection e with e; omega) (by unfold maxLen; omega)
            refine ⟨⟨X6.out.cell 0 rfl, X6.out.cell 2 rfl, by rw [HVL.out, HLB.out]; exact T5.out.look_row f.line.val HLF.out hgv⟩, ?_⟩
            simp only [Act.put, List.setIfInBounds_toArray, List.set_cons_zero, List.set_cons_succ]
            have hB6 : Below w2.heap.size w2 w6 := B5.out.grown hgr6 B5.out.size (fun b e => by
              have := (hrow.lt b e).1
              have := HM.out
              omega)
            have B7 : Hid (Below w2.heap.size w2 w7) := hB6.grown hg7 hB6.size (fun b e => by injection e with e; have := HM.out; omega)
            have T7 : Hid (TMap w7 M M (j + 1) (D.put (lnK f.line.val) (.held v6)) (fun k => if k = f.line.val then v6 else V k) (outsF (fs.take (j + 1)))) := by
              have e : outsF (fs.take (j + 1)) = fun k => if k = f.line.val then outsF (fs.take j) f.line.val ++ [f.to_] else outsF (fs.take j) k := by
                funext k
                rw [HSN.out k]
                by_cases hk : k = f.line.val
                · rw [if_pos hk, if_pos hk, hk]
                · rw [if_neg hk, if_neg hk]
              show TMap _ _ _ _ _ _ _
              rw [e]
              exact hT7
            rw [← HLB.out] at hrun7
            clear hgv hrow6 hT7 hB6 hg7 hown6 hgr6 hat6 X6 hrow T5 X5 B5 HVL HSN hml hbs hol hwb
            refine seqI_nil (Or.inl ?_)
            refine wp_putT w6 (.tmp 28) (.tmp 30) (.tmp 38) rfl M rfl lb rfl v6 rfl w7 hrun7 ?_
            simp only [Act.put, List.setIfInBounds_toArray, List.set_cons_zero, List.set_cons_succ]
            clear hrun7
            as_aux_lemma =>
              go_wp2_with fail
              go_roundw
              case rel => exact ⟨j + 1, _, _, by omega, by go_num, T7, B7⟩
              case measure => simp [intOf]; omega
        obtain rfl : j = n := by omega
        have HT2 : Hid (TMap wr M M j D V (outsF fs)) := by
          have := HT.out
          rw [List.take_of_length_le (by have := HN.out; omega)] at this
          exact this
        clear HT
        have hjn : ¬ ((j : Int) < (j : Int)) := by omega
        obtain ⟨wo, rfl⟩ : ∃ wo : World, wo = wr := ⟨_, rfl⟩
        as_aux_lemma =>
          go_wp2_with (first | (at_range; refine wpList_range_own _ rfl _ 70 rfl 9 33 strLaw mapSL rdL M j D rfl HT2.out.own ?_; intro w0 hrg0 hg0 hs0) | go_in)
          clear hjn
          have HB0 : Hid (Below wo.heap.size wo w0) := (Below.refl _ _).grown hg0 (Nat.le_refl _) (fun j hj => by cases hj)
          have HRG0 := Lib.hid hrg0
          have hsz : Maps.size D ≤ j := HT2.out.own.size_le
          have HWM : Hid (∀ a, Way fs a a → a < 5 ∧ Maps.has D (lnK a) = true) := fun a ha => by
            have h4 := ha.low
            exact ⟨by omega, HT2.out.has a (by omega) ha.outs⟩
          have hMr : M < wo.heap.size := HT2.out.lt
          have HW2 : Hid (w.heap.size ≤ wo.heap.size) := (ext_trans HB2.out HB.out).size
          have HBW : Hid (Below w.heap.size w wo) := ext_trans HB2.out HB.out
          obtain ⟨r, hr⟩ : ∃ r, r = wo.heap.size := ⟨_, rfl⟩
          have HR := Lib.hid hr
          rw [← hr] at HRG0 hMr ⊢
          clear hrg0 hg0 hs0 hr HO HB HB2 HM
          go_loopw [10] (fun vo wr => ∃ (left : Lit → Bool) (cnt : Nat) (os : List (Fin 5)), os.length + cnt ≤ 7 ∧ Hid (wr.ranges Tryz.prog 9 rdL M r j D left cnt) ∧ Hid (Below wo.heap.size wo wr) ∧ Hid (LRow wr (r + 1) vo os) ∧ Hid (∀ q5, q5 < 5 → Maps.has D (lnK q5) = true → left (lnK q5) = false → Way fs q5 q5 → os ≠ [])) (fun _ wr => wr.rangeLeft M r)
          case atStart => exact ⟨_, _, [], by simp; omega, HRG0.out, HB0.out, World.ownsRow_nil _ _ _ _, fun i _ h1 h2 => by rw [h1] at h2; cases h2⟩
          case round =>
            clear HRG0 HB0
            obtain ⟨left, cnt, os, hoc, HRG, HB, HL, HWY⟩ := hrel
            obtain ⟨vo, rfl⟩ : ∃ x : Value, x = u10 := ⟨_, rfl⟩
            as_aux_lemma =>
              go_wp2_with (first | (at_next; refine wpList_next_ranges _ rfl _ rfl 9 strLaw rdL Value.string mkL keyB_inv (fun v y hv => by obtain ⟨c, rfl, _⟩ := rdL_inv hv; exact ⟨c, rfl⟩) M r j _ _ _ rfl HRG.out ?_ ?_) | go_in)
              · intro hc0 hl0
                have HO7 : Hid ((((os.map (fun c => lineK c.val)).mergeSort leB)).length ≤ 7) := by show _ ≤ _; rw [List.length_mergeSort, List.length_map]; omega
                have HNE : Hid (∀ a, Way fs a a → os ≠ []) := fun a ha => HWY.out a (HWM.out a ha).1 (HWM.out a ha).2 (hl0 _) ha
                have hrow : wr.ownsRow (r + 1) 9 1 vo os.length ((os.map (fun c => lineK c.val)).map encS) := by rw [← map_encL]; exact HL.out
                have HSO := Lib.hid (sort_own hrow (by omega))
                have HVB : Hid (∀ g, vo.ownBlock = some g → r + 1 ≤ g) := fun g e => (HL.out.lt g e).1
                clear hc0 hl0 hrow HL HWY HRG
                as_aux_lemma =>
                  go_wp2_with fail
                  refine HSO.out.mono ?_
                  rintro e w4 ⟨rfl, ho, hg⟩
                  have HE : Hid (CirP fs w (.returned (.tuple #[vo, .int .i64 0])) w4) := by
                    refine ⟨vo, (os.map (fun c => lineK c.val)).mergeSort leB, rfl, ?_, List.pairwise_mergeSort (fun a b c h1 h2 => by simp only [leB, decide_eq_true_eq] at *; exact List.le_trans h1 h2) (fun a b => by simp only [leB, Bool.or_eq_true, decide_eq_true_eq]; exact List.le_total a b) _, fun a ha e => ?_, HO7.out, ?_⟩
                    · have h9 := own_le (base' := w.heap.size) ho (by have := HW2.out; have := HR.out; omega)
                      rw [List.length_mergeSort, List.length_map]
                      exact h9
                    · have h9 := congrArg List.length e
                      rw [List.length_mergeSort, List.length_map] at h9
                      exact HNE.out a ha (List.eq_nil_of_length_eq_zero h9)
                    · exact ext_trans HBW.out (HB.out.grown hg HB.out.size (fun b hb => by have := HVB.out b hb; have := HR.out; omega))
                  clear ho hg HSO
                  as_aux_lemma =>
                    go_wp2_with fail
                    go_ret2
                    exact HE.out
              · intro x ca2 cn2 cc2 kl y1 y2 w1 cnt1 hkey hlk hv hat hrg1 hlt1 hg1 hs1 hen
                obtain ⟨i, hi5, rfl, hne⟩ := HT2.out.keys kl (has_true_of_atKey hat)
                have hxi : x = ⟨(lineK i).toArray⟩ := keyStr_inv hkey
                have HX := Lib.hid hxi
                have HNE := Lib.hid hne
                have B1 : Hid (Below wo.heap.size wo w1) := HB.out.grown hg1 HB.out.size (fun j hj => by have := HR.out; injection hj with hj; omega)
                have L1 : Hid (LRow w1 (r + 1) vo os) := row_kept HL.out hg1 (fun g e e2 => by have := (HL.out.lt g e).1; injection e2 with e2; omega)
                have RG1 := Lib.hid hrg1
                have T1 := Lib.hid (HT2.out.below B1.out)
                have HLC : Hid (wr.rangeLeft M r = cnt) := HRG.out.left_eq
                have HLT := Lib.hid hlt1
                clear hxi hne hrg1 hg1 hs1 hkey hlk hv hat HB HL hlt1
                have hmm := @run_makeMap Tryz.prog
                obtain ⟨wm, hwm⟩ : ∃ wm, wm = w1.alloc (.map #[] 0) := ⟨_, rfl⟩
                have HWME := Lib.hid hwm
                have S2 : Hid (SnL wm w1.heap.size 0 []) := by rw [hwm]; exact SnL.made w1
                have hbm : Below w1.heap.size w1 wm := by rw [hwm]; exact ext_alloc (Below.refl _ _)
                have hzm : wm.heap.size = w1.heap.size + 1 := by rw [hwm]; simp
                have T2 := Lib.hid (T1.out.below hbm)
                have HBM := Lib.hid hbm
                have HZM := Lib.hid hzm
                clear hwm hbm hzm
                as_aux_lemma =>
                  go_upto_region 15 with (fail)
                  rw [← HWME.out]
                  clear hmm hen HWME
                  have HLK : Hid ((Instr.lookup 70 (.map (some M)) (.string x) false).run Tryz.prog wm = .ok (V i) wm) := by rw [HX.out]; exact T2.out.look i hi5
                  have hol : (outsF fs i).length ≤ 7 := Nat.le_trans (outs_len _ _) (by have := HN.out; omega)
                  have hrow : wm.ownsRow M 9 1 (V i) (outsF fs i).length (((outsF fs i).map (fun c => lineK c.val)).map encS) := by rw [← map_encL]; exact T2.out.row i hi5
                  have HCL := Lib.hid (cloneW_any wm M (V i) _ _ hrow (by omega))
                  obtain ⟨SB, hSB⟩ : ∃ SB, SB = w1.heap.size := ⟨_, rfl⟩
                  have HSB := Lib.hid hSB
                  rw [← hSB] at S2 HZM ⊢
                  clear hrow hSB
                  as_aux_lemma =>
                    go_wp2_with (at_lookup; refine wpList_lookT _ rfl (.tmp 47) (.tmp 48) rfl M rfl x rfl (V i) HLK.out ?_)
                    refine HCL.out.mono ?_
                    rintro e w3 ⟨v3, rfl, ho3, hb3⟩
                    have HQ3 : Hid (QRow w3 (SB + 1) 9 1 v3 (outsF fs i).length ((outsF fs i).map encL)) := by
                      have h9 := own_le (base' := SB + 1) ho3 (by have := HZM.out; omega)
                      rw [← map_encL] at h9
                      exact qrow_own h9 (List.length_pos_iff.2 HNE.out)
                    have S3 := Lib.hid (S2.out.below hb3)
                    have B3 : Hid (Below w1.heap.size w1 w3) := ext_trans HBM.out hb3
                    have hcb := costB_le fs []
                    have hcb2 : costB fs [] ≤ 35 := by have := HN.out; omega
                    clear ho3 hb3 HCL HLK S2 HBM T2 HZM hcb
                    obtain ⟨w1', rfl⟩ : ∃ w : World, w = w1 := ⟨_, rfl⟩
                    as_aux_lemma =>
                      go_wp2_with fail
                      go_loopg [13] 42 (fun gg vq wr => ∃ (seen Q : List (Fin 5)) (k : Nat), Q.length + costB fs seen ≤ gg ∧ k + gg ≤ 42 ∧ Hid (Bfs fs i seen Q) ∧ Hid (SnL wr SB k seen) ∧ Hid (QRow wr (SB + 1) 9 1 vq Q.length (Q.map encL)) ∧ Hid (Below w1'.heap.size w1' wr))
                      case atStart => exact ⟨[], outsF fs i, 0, by omega, by omega, Bfs.start fs i, S3.out, HQ3.out, B3.out⟩
                      case round =>
                        clear S3 HQ3 B3 hcb2
                        obtain ⟨seen, Q, k, hgg, hkg, HBF, HS, HQ, HBB⟩ := hrel
                        cases Q with
                        | nil =>
                          obtain ⟨g0, off, cap0, hv, _, _, _, _, _⟩ := HQ.out.form
                          have hv : u13 = .slice (some ⟨g0, off, none⟩) 0 cap0 := hv
                          subst hv
                          have HBE := Lib.hid (ext_trans B1.out HBB.out)
                          have LE := Lib.hid (own_keep L1.out HBB.out)
                          have RE : Hid (wr.ranges Tryz.prog 9 rdL M r j D (fun z => left z && !z.sameKey (lnK i)) cnt1) := RG1.out.kept (row := none) ⟨HBB.out.os, HBB.out.tape, HBB.out.output, HBB.out.size, fun k hk _ => HBB.out.block k hk⟩ (by simp) (by simp)
                          have HLK : Hid ((Instr.lookup 71 (.map (some SB)) (.string x) false).run Tryz.prog wr = .ok (.bool (decide ((⟨i, hi5⟩ : Fin 5) ∈ seen))) wr) := by rw [HX.out]; exact HS.out.look ⟨i, hi5⟩
                          have HNW : Hid ((⟨i, hi5⟩ : Fin 5) ∉ seen → ¬ Way fs i i) := fun hn hw => by
                            obtain ⟨t, ht, e⟩ := HBF.out.fin hw
                            exact hn (by rw [show (⟨i, hi5⟩ : Fin 5) = t from Fin.ext e.symm]; exact ht)
                          clear HQ HS HBF HBB B1 L1 RG1 T1
                          by_cases hm : (⟨i, hi5⟩ : Fin 5) ∈ seen
                          · rw [decide_eq_true hm] at HLK
                            clear hm HNW
                            have hml : os.length + 1 ≤ maxLen := by unfold maxLen; omega
                            have hbs : (os.length + 1) * 16 ≤ 140737488355328 := by omega
                            have hwb : r + 1 ≤ (wr.alloc (.cells #[.string x] 9)).heap.size := by have := RE.out.lt; simp; omega
                            have LE2 : Hid (LRow (wr.alloc (.cells #[.string x] 9)) (r + 1) vo os) := own_keep LE.out (ext_alloc (Below.refl _ _))
                            have HBE2 : Hid (Below wo.heap.size wo (wr.alloc (.cells #[.string x] 9))) := ext_alloc HBE.out
                            have RE2 : Hid ((wr.alloc (.cells #[.string x] 9)).ranges Tryz.prog 9 rdL M r j D (fun z => left z && !z.sameKey (lnK i)) cnt1) := RE.out.alloc _
                            clear LE HBE RE
                            as_aux_lemma =>
                              go_wp2_with (first | (at_lookup; refine wpList_lookS _ rfl (.tmp 70) (.tmp 71) rfl SB rfl x rfl _ HLK.out ?_) | (at_builtin; refine wpList_append_own _ rfl (.tmp 73) (.tmp 75) 33 rfl (r + 1) 9 i0 (.string ⟨#[]⟩) 1 16 Tryz.underlying33 hi hz0 hz1 hz2 rfl (by decide) vo os.length (os.map encL) rfl LE2.out ⟨wr.heap.size, 0, none⟩ 1 1 [.string x] rfl rfl (news_one (by go_simp)) (by simp [Value.oneCell']) hml hbs hwb ?_; intro v8 w8 hown8 hgr8 _))
                              have L8 : Hid (LRow w8 (r + 1) v8 (os ++ [⟨i, hi5⟩])) := by
                                show World.ownsRow _ _ _ _ _ _ _
                                rw [List.length_append, List.map_append]
                                rw [HX.out] at hown8
                                exact hown8
                              have hvb : ∀ g, vo.ownBlock = some g → r + 1 ≤ g := fun g e => (LE2.out.lt g e).1
                              have B8 : Hid (Below wo.heap.size wo w8) := HBE2.out.grown hgr8 HBE2.out.size (fun b hb => by have := hvb b hb; have := HR.out; omega)
                              have R8 : Hid (w8.ranges Tryz.prog 9 rdL M r j D (fun z => left z && !z.sameKey (lnK i)) cnt1) := RE2.out.kept hgr8 (fun e => by have := hvb M e.symm; omega) (fun e => by have := hvb r e.symm; omega)
                              have W8 : Hid (∀ q5, q5 < 5 → Maps.has D (lnK q5) = true → (fun z => left z && !z.sameKey (lnK i)) (lnK q5) = false → Way fs q5 q5 → (os ++ [(⟨i, hi5⟩ : Fin 5)]) ≠ []) := fun _ _ _ _ _ => by simp
                              clear hown8 hgr8 hvb LE2 HBE2 RE2 hml hbs hwb HLK
                              go_roundw
                              case rel => exact ⟨_, cnt1, os ++ [(⟨i, hi5⟩ : Fin 5)], by rw [List.length_append]; have := HLT.out; simp; omega, R8.out, B8.out, L8.out, W8.out⟩
                              case measure => rw [R8.out.left_eq, HLC.out]; exact HLT.out
                          · rw [decide_eq_false hm] at HLK
                            have W8 : Hid (∀ q5, q5 < 5 → Maps.has D (lnK q5) = true → (fun z => left z && !z.sameKey (lnK i)) (lnK q5) = false → Way fs q5 q5 → os ≠ []) := fun i2 h5 hh hl hw => by
                              by_cases e : i2 = i
                              · subst e; exact absurd hw (HNW.out hm)
                              · have hl : (left (lnK i2) && !(lnK i2).sameKey (lnK i)) = false := hl
                                rw [sameKey_ne (fun e2 => e (lnK_inj h5 hi5 e2))] at hl
                                exact HWY.out i2 h5 hh (by simpa using hl) hw
                            clear hm HNW
                            as_aux_lemma =>
                              go_wp2_with (first | (at_lookup; refine wpList_lookS _ rfl (.tmp 70) (.tmp 71) rfl SB rfl x rfl _ HLK.out ?_))
                              go_roundw
                              case rel => exact ⟨_, cnt1, os, by have := HLT.out; omega, RE.out, LE.out, W8.out⟩
                              case measure => rw [RE.out.left_eq, HLC.out]; exact HLT.out
                        | cons y Q =>
                          have hqu : QRow wr (SB + 1) 9 1 u13 (Q.length + 1) ([encL y] ++ Q.map encL) := HQ.out
                          obtain ⟨g0, off, cap0, hv, hb0, hglt, hnc, hcm, hcell⟩ := hqu.form
                          subst hv
                          have c0 : wr.cell? ⟨g0, off, none⟩ = some (.string ⟨(lineK y.val).toArray⟩) := hcell 0 _ rfl
                          have HQ2 := Lib.hid (QRow.cut (size := 1) (ys := [encL y]) rfl hqu)
                          have HQU := Lib.hid hqu
                          have HLY : Hid ((Instr.lookup 71 (.map (some SB)) (.string ⟨(lineK y.val).toArray⟩) false).run Tryz.prog wr = .ok (.bool (decide (y ∈ seen))) wr) := HS.out.look y
                          rw [List.length_cons] at hgg
                          obtain ⟨m, hm⟩ : ∃ m, m = Q.length := ⟨_, rfl⟩
                          have HMQ := Lib.hid hm
                          rw [← hm] at hgg hnc HQ2 HQU ⊢
                          clear hm hqu hcell hb0 HQ
                          have HAA : Hid ((⟨g0, off, none⟩ : Addr).add i0.size = ⟨g0, off + 1, none⟩) := by show _ = _; rw [hz1]; rfl
                          by_cases hs : y ∈ seen
                          · rw [decide_eq_true hs] at HLY
                            have HB5 := Lib.hid (HBF.out.skip hs)
                            clear hs HBF HQU
                            have hm42 : m ≤ 42 := by omega
                            as_aux_lemma =>
                              go_wp2_with (first | (at_lookup; refine wpList_lookS _ rfl (.tmp 59) (.tmp 60) rfl SB rfl _ rfl _ HLY.out ?_) | (refine wpList_cut_que _ rfl (.tmp 54) 33 rfl 9 i0 Tryz.underlying33 hi ⟨g0, off, none⟩ m cap0 rfl hnc ?_; rw [HAA.out]; generalize (Value.slice (some (if cap0 = 1 then (⟨g0, off, none⟩ : Addr) else ⟨g0, off + 1, none⟩)) m (cap0 - 1)) = vq9 at HQ2 ⊢))
                              go_roundg (gk - 1)
                              case measure => omega
                              case rel => exact ⟨seen, Q, k, by have := HMQ.out; omega, by omega, HB5.out, HS.out, by rw [← HMQ.out]; exact HQ2.out, HBB.out⟩
                          · rw [decide_eq_false hs] at HLY
                            have HB5 := Lib.hid (HBF.out.step)
                            have hcs := costB_step fs seen y hs
                            have hk9 : k < maxLen := by unfold maxLen; omega
                            clear hs HBF HQ2
                            as_aux_lemma =>
                              go_upto_region 21 with (first | (at_lookup; refine wpList_lookS _ rfl (.tmp 59) (.tmp 60) rfl SB rfl _ rfl _ HLY.out ?_) | (at_mapUpdate; refine wpList_moreS _ rfl (.tmp 63) (.tmp 64) (.const (.bool true)) rfl SB k seen rfl HS.out hk9 y rfl rfl ?_; intro w5 hs5 hg5))
                              have S5 := Lib.hid hs5
                              have Q5 : Hid (QRow w5 (SB + 1) 9 1 (.slice (some ⟨g0, off, none⟩) (m + 1) cap0) (m + 1) ([encL y] ++ Q.map encL)) := HQU.out.keep (fun q hq hb => hg5.block q hq (fun e => by injection e with e; omega))
                              have B5 : Hid (Below w1'.heap.size w1' w5) := HBB.out.grown hg5 HBB.out.size (fun b hb => by injection hb with hb; have := HSB.out; omega)
                              have T5 := Lib.hid (T1.out.below B5.out)
                              have HLT5 : Hid ((Instr.lookup 70 (.map (some M)) (.string ⟨(lineK y.val).toArray⟩) false).run Tryz.prog w5 = .ok (V y.val) w5) := T5.out.look y.val y.isLt
                              clear hs5 hg5 HS HQU HBB HLY c0 hglt hk9
                              by_cases ho : outsF fs y.val = []
                              · have hvn := T5.out.nil y.val y.isLt ho
                                rw [hvn] at HLT5
                                rw [ho] at HB5 hcs
                                have Q6 := Lib.hid (QRow.cut (size := 1) (ys := [encL y]) rfl Q5.out)
                                clear ho hvn T5 Q5
                                as_aux_lemma =>
                                  go_wp2_with (first | (at_lookup; refine wpList_lookT _ rfl (.tmp 66) (.tmp 67) rfl M rfl _ rfl _ HLT5.out ?_) | (at_builtin; refine wpList_append_que_nil rfl (.tmp 65) (.tmp 68) 33 rfl 9 i0 Tryz.underlying33 hi ⟨g0, off, none⟩ (m + 1) cap0 rfl hnc rfl ?_) | (refine wpList_cut_que _ rfl (.tmp 54) 33 rfl 9 i0 Tryz.underlying33 hi ⟨g0, off, none⟩ m cap0 rfl hnc ?_; rw [HAA.out]; generalize (Value.slice (some (if cap0 = 1 then (⟨g0, off, none⟩ : Addr) else ⟨g0, off + 1, none⟩)) m (cap0 - 1)) = vq9 at Q6 ⊢))
                                  go_roundg (gk - 1)
                                  case measure => omega
                                  case rel => exact ⟨seen ++ [y], Q, k + 1, by have := HMQ.out; simp at hcs; omega, by omega, by have := HB5.out; rwa [List.append_nil] at this, S5.out, by rw [← HMQ.out]; exact Q6.out, B5.out⟩
                              · obtain ⟨L, hL⟩ : ∃ L, (outsF fs y.val).length = L + 1 := ⟨(outsF fs y.val).length - 1, by have := List.length_pos_iff.2 ho; omega⟩
                                have hrw := T5.out.row y.val y.isLt
                                unfold LRow at hrw
                                rw [hL] at hrw
                                obtain ⟨gv, cv, hV, -, -⟩ := own_row1 hrw
                                have HNC : Hid (∀ j u, ((outsF fs y.val).map encL)[j]? = some u → w5.cell? ((⟨gv, 0, none⟩ : Addr).add j) = some u) := hrw.cells (by rw [hV]; rfl)
                                have HON : Hid (∀ u ∈ (outsF fs y.val).map encL, u.oneCell' = true) := fun u hu => by
                                  obtain ⟨z, -, rfl⟩ := List.mem_map.1 hu
                                  rfl
                                have HLN : Hid (((outsF fs y.val).map encL).length = (L + 1) * 1) := by show _ = _; rw [List.length_map, hL, Nat.mul_one]
                                rw [hV] at HLT5
                                have hL42 : L ≤ 42 := by omega
                                have hm42 : m ≤ 42 := by omega
                                have h63 : m + 1 + (L + 1) ≤ maxLen := by unfold maxLen; omega
                                have hby : (m + 1 + (L + 1)) * 16 ≤ 140737488355328 := by omega
                                have hwb : SB + 1 ≤ w5.heap.size := by
                                  obtain ⟨_, _, _, e, h1, h2, _⟩ := Q5.out.form
                                  omega
                                have HLL := Lib.hid hL
                                clear hrw hV ho hL T5
                                generalize hout : outsF fs y.val = ys at HB5 hcs HNC HON HLN HLL
                                clear hout
                                as_aux_lemma =>
                                  go_upto_region 17 with (first | (at_lookup; refine wpList_lookT _ rfl (.tmp 66) (.tmp 67) rfl M rfl _ rfl _ HLT5.out ?_) | (at_builtin; refine wpList_append_que _ rfl (.tmp 65) (.tmp 68) 33 rfl (SB + 1) 9 i0 (.string ⟨#[]⟩) 1 16 Tryz.underlying33 hi hz0 hz1 hz2 rfl (by decide) _ (m + 1) ([encL y] ++ Q.map encL) rfl Q5.out ⟨gv, 0, none⟩ (L + 1) cv (ys.map encL) rfl HLN.out HNC.out HON.out h63 hby hwb (by omega) ?_; intro v7 w7 hq7 hg7 _))
                                  have hvb : (Value.slice (some ⟨g0, off, none⟩) (m + 1) cap0).ownBlock ≠ some SB ∧ ∀ b, (Value.slice (some ⟨g0, off, none⟩) (m + 1) cap0).ownBlock = some b → SB + 1 ≤ b := by
                                    obtain ⟨g1, o1, c1, e, h1, _⟩ := Q5.out.form
                                    injection e with e
                                    injection e with e
                                    injection e with e
                                    exact ⟨fun e2 => by have e3 : some g0 = some SB := e2; injection e3 with e3; omega, fun b e2 => by have e3 : some g0 = some b := e2; injection e3 with e3; omega⟩
                                  have S7 := Lib.hid (S5.out.keep hg7 (Ne.symm hvb.1))
                                  have B7 : Hid (Below w1'.heap.size w1' w7) := B5.out.grown hg7 B5.out.size (fun b hb => by have := hvb.2 b hb; have := HSB.out; omega)
                                  have hq8 : QRow w7 (SB + 1) 9 1 v7 (m + (L + 1) + 1) ([encL y] ++ (Q.map encL ++ ys.map encL)) := by
                                    rw [← List.append_assoc, show m + (L + 1) + 1 = m + 1 + (L + 1) by omega]
                                    exact hq7
                                  obtain ⟨g8, off8, cap8, hv8, _, _, hnc8, _, _⟩ := hq8.form
                                  subst hv8
                                  have Q8 := Lib.hid (QRow.cut (size := 1) (ys := [encL y]) rfl hq8)
                                  have HAA8 : Hid ((⟨g8, off8, none⟩ : Addr).add i0.size = ⟨g8, off8 + 1, none⟩) := by show _ = _; rw [hz1]; rfl
                                  obtain ⟨mm, hmm9⟩ : ∃ mm, mm = m + (L + 1) := ⟨_, rfl⟩
                                  have HME := Lib.hid hmm9
                                  rw [← hmm9] at hnc8 Q8 ⊢
                                  clear hmm9 hvb hq7 hq8 hg7 S5 Q5 B5 HLT5 HNC HON HLN hwb h63 hby hnc HAA
                                  as_aux_lemma =>
                                    go_wp2_with (refine wpList_cut_que _ rfl (.tmp 54) 33 rfl 9 i0 Tryz.underlying33 hi ⟨g8, off8, none⟩ mm cap8 rfl hnc8 ?_; rw [HAA8.out]; generalize (Value.slice (some (if cap8 = 1 then (⟨g8, off8, none⟩ : Addr) else ⟨g8, off8 + 1, none⟩)) mm (cap8 - 1)) = vq9 at Q8 ⊢)
                                    go_roundg (gk - 1)
                                    case measure => omega
                                    case rel => exact ⟨seen ++ [y], Q ++ ys, k + 1, by have := HMQ.out; have := HLL.out; rw [List.length_append]; omega, by omega, HB5.out, S7.out, by rw [List.length_append, ← HMQ.out, HLL.out, List.map_append, ← HME.out]; exact Q8.out, B7.out⟩
end Go.Proofs.YtkdadbpajhdelaaGreatDoor

set_option linter.unusedVariables false
set_option linter.unusedSimpArgs false
namespace Go.Proofs.YtkdadbpajhdelaaGreatDoor
open Go.RowKit Go.Sort Go.Lib Go.Shelf

set_option maxHeartbeats 1000000 in
theorem lessS_no (a b : List UInt8) (w : World) (h : ¬ a < b) : Calls Tryz.prog 29 #[.string ⟨a.toArray⟩, .string ⟨b.toArray⟩] w fun e w' => e = .returned (.bool false) ∧ w = w' := by
  have h2 : Op.bytesLess a b = false := by rw [bytesLess_eq]; exact decide_eq_false h
  go_enter Tryz.func29, Tryz.ntmps29
  go_wp2
  go_ret
  exact ⟨rfl, rfl⟩
def SortedP (w : World) (e : Ending) (w' : World) : Prop := e = .returned (.bool true) ∧ ∃ q, w' = w.drewN q
set_option maxHeartbeats 1000000 in
theorem isSortedS (w : World) (base : Nat) (v : Value) (n : Nat) (xs : List (List UInt8)) (h : w.ownsRow base 9 1 v n (xs.map encS)) (hs : xs.Pairwise (fun a b => leB a b = true)) (hn : n ≤ 1000000) :
    Calls Tryz.prog 8 #[v] w (SortedP w) := by
  have hl : xs.length = n := by have := h.1; simpa using this
  obtain ⟨a, cap, rfl⟩ := own_shape h
  have HR : Hid (∀ k, k < n → ∃ g, a = some ⟨g, 0, none⟩ ∧ g < w.heap.size ∧ w.cell? ⟨g, k, none⟩ = some (.string ⟨(xs.getD k []).toArray⟩)) := fun k hk => by
    obtain ⟨g, rfl, hg0, hg1⟩ := own_pos h (by omega)
    refine ⟨g, rfl, hg1, ?_⟩
    rw [h.cellAt k (by omega)]
    simp [encS, hl, hk, List.getD_eq_getElem?_getD]
  have HS : Hid (∀ k, k + 1 < n → ¬ xs.getD (k + 1) [] < xs.getD k []) := fun k hk hlt => by
    have h9 := List.pairwise_iff_getElem.1 hs k (k + 1) (by omega) (by omega) (by omega)
    simp only [leB, decide_eq_true_eq] at h9
    rw [List.getD_eq_getElem?_getD, List.getD_eq_getElem?_getD, List.getElem?_eq_getElem (by omega), List.getElem?_eq_getElem (by omega)] at hlt
    exact absurd hlt (List.not_lt.2 h9)
  clear h hs hl
  go_enter Tryz.func8, Tryz.ntmps8
  go_wp2_with fail
  go_loopw [3] (fun it wr => ∃ i : Int, -1 ≤ i ∧ i < n ∧ it = .int .i64 i ∧ Hid (∃ q, wr = w.drewN q)) (fun it _ => (intOf it).toNat)
  case atStart => exact ⟨_, by omega, by omega, rfl, 0, rfl⟩
  case round =>
    obtain ⟨i, i0, i1, rfl, HQ⟩ := hrel
    by_cases hlt : 0 < i
    · obtain ⟨k, rfl⟩ : ∃ k : Nat, i = (k : Int) + 1 := ⟨(i - 1).toNat, by omega⟩
      obtain ⟨b, rfl, hbw, d0⟩ := HR.out (k + 1) (by omega)
      have d1 : w.cell? ⟨b, k, none⟩ = some (.string ⟨(xs.getD k []).toArray⟩) := by
        obtain ⟨b2, hb2, -, d1⟩ := HR.out k (by omega)
        injection hb2 with hb2
        injection hb2 with hb2
        subst hb2
        exact d1
      have c0 : wr.cell? ⟨b, k + 1, none⟩ = some (.string ⟨(xs.getD (k + 1) []).toArray⟩) := by obtain ⟨q, e⟩ := HQ.out; rw [e]; exact d0
      have c1 : wr.cell? ⟨b, k, none⟩ = some (.string ⟨(xs.getD k []).toArray⟩) := by obtain ⟨q, e⟩ := HQ.out; rw [e]; exact d1
      have hle := HS.out k (by omega)
      clear d0 d1
      generalize xs.getD k [] = x at c1 hle
      generalize xs.getD (k + 1) [] = y at c0 hle
      have t0 : ((k : Int) + 1).toNat = k + 1 := by omega
      have t4 : (0 : Int) ≤ (k : Int) + 1 := by omega
      have t6 : (k : Int) < n := by omega
      have t5 : IntKind.i64.wrap (k : Int) = (k : Int) := IntWalk.i64_in _ (by omega)
      have HLE := Lib.hid hle
      clear hle
      go_wp2_with fail
      go_quiet (first | (go_at_call 29; refine Calls.quiet_of_same (v := .bool false) ((lessS_no _ _ _ HLE.out).mono ?_); rintro e w' ⟨rfl, rfl⟩; exact ⟨rfl, rfl⟩))
      clear t5
      go_wp2_with fail
      go_roundw
      case rel => exact ⟨k, by omega, by omega, by go_num, (by obtain ⟨q, e⟩ := HQ.out; exact ⟨q + nq, by rw [e, World.drewN_drewN]⟩)⟩
      case measure => simp [intOf]
    · go_wp2_with fail
      go_ret
      exact ⟨rfl, HQ.out⟩
set_option maxRecDepth 100000 in
set_option maxHeartbeats 2000000 in
theorem fwSee_call (lb tb hb ab bb : ByteArray) (z : Int) (C I g n c i : Nat) (W : World) (x y : Bool) (hx : (lb.toList == ab.toList) = x) (hy : (tb.toList == bb.toList) = y) (hC : C < W.heap.size) (hI : I < W.heap.size) (hg : g < W.heap.size) (cC : W.cell? ⟨C, 0, none⟩ = some (.slice (some ⟨g, 0, none⟩) n c)) (cI : W.cell? ⟨I, 0, none⟩ = some (.int .i64 ((i : Int) + 1))) (hin : i + 1 < n) (hn : n ≤ 10)
    (ca : W.cell? ⟨g, i, none⟩ = some (.string ab)) (cb : W.cell? ⟨g, i + 1, none⟩ = some (.string bb)) :
    Calls Tryz.prog 13 #[.agg #[.string lb, .int .i64 z, .string tb, .string hb], .pointer (some ⟨C, 0, none⟩), .pointer (some ⟨I, 0, none⟩)] W (BoolP (x && y) W) := by
  have hA : Below W.heap.size W (W.alloc (.cells #[.string lb, .int .i64 z, .string tb, .string hb] 46)) := ext_alloc (Below.refl _ _)
  have X1 : Hid (Blk (W.alloc (.cells #[.string lb, .int .i64 z, .string tb, .string hb] 46)) W.heap.size [.string lb, .int .i64 z, .string tb, .string hb] 46) := Blk.new _ _ _
  have eC := (hA.cell (p := ⟨C, 0, none⟩) hC).trans cC
  have eI := (hA.cell (p := ⟨I, 0, none⟩) hI).trans cI
  have ea := (hA.cell (p := ⟨g, i, none⟩) hg).trans ca
  have eb := (hA.cell (p := ⟨g, i + 1, none⟩) hg).trans cb
  have HA := Lib.hid hA
  have t1 : IntKind.i64.wrap (i : Int) = (i : Int) := IntWalk.i64_in _ (by omega)
  have t2 : (0 : Int) ≤ (i : Int) + 1 := by omega
  have t3 : (i : Int) < n := by omega
  have t4 : (i : Int) + 1 < n := by omega
  have t5 : ((i : Int) + 1).toNat = i + 1 := by omega
  clear hA cC cI ca cb hC hI hg
  go_enter Tryz.func13, Tryz.ntmps13
  go_upto_region 1 with (fail)
  generalize (W.alloc (.cells #[.string lb, .int .i64 z, .string tb, .string hb] 46)) = w1 at X1 eC eI ea eb HA ⊢
  generalize hXX : W.heap.size = X at X1 ⊢
  have x0 := X1.out.cell 0 rfl
  have x2 := X1.out.cell 2 rfl
  have HX := Lib.hid hXX
  clear hXX
  cases x
  · go_quiet (fail)
    go_wp2_with fail
    go_ret
    exact ⟨rfl, ext_drewN HA.out⟩
  · go_quiet (fail)
    go_wp2_with fail
    go_ret
    exact ⟨rfl, ext_drewN HA.out⟩
theorem idxFw_nil (a : Option Addr) (c : Nat) (fv : Value) (w : World) : Calls Tryz.prog 35 #[.slice a 0 c, fv] w fun e w' => e = .returned (.int .i64 (-1)) ∧ w = w' := by
  go_enter Tryz.func35, Tryz.ntmps35
  go_wp2_with fail
  go_loopw [8] (fun i wr => i = .int .i64 0 ∧ wr = w) (fun i _ => 0)
  case atStart => exact ⟨rfl, rfl⟩
  case round =>
    obtain ⟨rfl, rfl⟩ := hrel
    go_wp2_with fail
    go_ret
    exact ⟨rfl, rfl⟩
theorem hasFw_any (g : Nat) (lb : Array Value) (eg : ∀ args w, (callFunc g args).run Tryz.prog w = .ok (.enter g args) w) (w : World) (base : Nat) (v : Value) (fs : List Fwd) (h : FwRow w base v fs) (hl : fs.length ≤ 7) (p : Fwd → Bool) (hp : PredBelow Tryz.prog g lb (fun x : Fwd => .agg (Fwd.cells x).toArray) p w) :
    Calls Tryz.prog 12 #[v, .func (.func g) #[] lb] w (BoolP (fs.any p) w) := by
  obtain ⟨a, cap, rfl⟩ := own_shape h
  have HA : Hid (fs.any p = decide (0 ≤ Lib.idxBy (fun _ y => p y) fs default)) := (Lib.idxBy_nonneg_iff (fun _ y => p y) fs default).symm
  have HI : Hid (Calls Tryz.prog 35 #[.slice a fs.length cap, .func (.func g) #[] lb] w fun e w' => e = .returned (.int .i64 (Lib.idxBy (fun _ y => p y) fs default)) ∧ Below w.heap.size w w') := by
    by_cases h0 : fs.length = 0
    · obtain rfl : fs = [] := List.length_eq_zero_iff.1 h0
      exact (idxFw_nil a cap _ w).mono (by rintro e w' ⟨rfl, rfl⟩; exact ⟨rfl, Below.refl _ _⟩)
    · obtain ⟨b, rfl, hb0, hb⟩ := own_pos h (by omega)
      have := Tryz.slices_idxFw Fwd.cells (fun _ => rfl) p g lb eg b 0 fs.length cap fs w hp (Nat.le_refl _) (by omega) hb (fun j hj i v hv => by
        rw [Nat.zero_add]
        have hi : i < 4 := (List.getElem?_eq_some_iff.1 hv).1
        rw [bang_is hj] at hv
        exact own_field Fwd.cells (fun _ => rfl) h j i default hj hi hv)
      rw [List.take_of_length_le (Nat.le_refl _)] at this
      exact this
  generalize fs.length = n at HI hl ⊢
  clear h hp
  generalize Lib.idxBy (fun _ y => p y) fs default = D at HA HI
  generalize fs.any p = B at HA ⊢
  by_cases hD : 0 ≤ D
  · obtain rfl : B = true := by rw [HA.out]; simpa using hD
    clear HA
    go_enter Tryz.func12, Tryz.ntmps12
    go_wp2_with fail
    refine HI.out.mono ?_
    rintro e w' ⟨rfl, hb'⟩
    have HB := Lib.hid hb'
    clear hb'
    go_wp2_with fail
    go_ret
    exact ⟨rfl, HB.out⟩
  · obtain rfl : B = false := by rw [HA.out]; simpa using hD
    clear HA
    go_enter Tryz.func12, Tryz.ntmps12
    go_wp2_with fail
    refine HI.out.mono ?_
    rintro e w' ⟨rfl, hb'⟩
    have HB := Lib.hid hb'
    clear hb'
    go_wp2_with fail
    go_ret
    exact ⟨by show Ending.returned (Value.bool (decide (0 ≤ D))) = _; simp [hD], HB.out⟩
theorem line_eq5 : ∀ (a : Fin 5) (b : Fin 5), (lineK a == lineK b) = decide (a = b) := by decide
/-- The closure, as the test of slices.ContainsFunc. -/
theorem fwSee_pred (C I g n c i : Nat) (w : World) (a b : Fin 5) (hC : C < w.heap.size) (hI : I < w.heap.size) (hg : g < w.heap.size) (cC : w.cell? ⟨C, 0, none⟩ = some (.slice (some ⟨g, 0, none⟩) n c)) (cI : w.cell? ⟨I, 0, none⟩ = some (.int .i64 ((i : Int) + 1))) (hin : i + 1 < n) (hn : n ≤ 10)
    (ca : w.cell? ⟨g, i, none⟩ = some (.string ⟨(lineK a).toArray⟩)) (cb : w.cell? ⟨g, i + 1, none⟩ = some (.string ⟨(lineK b).toArray⟩)) :
    PredBelow Tryz.prog 13 #[.pointer (some ⟨C, 0, none⟩), .pointer (some ⟨I, 0, none⟩)] (fun x : Fwd => .agg (Fwd.cells x).toArray) (fun x => decide (x.line.val = a.val) && decide (x.to_ = b)) w := fun W x hb =>
  (fwSee_call ⟨(lineK x.line).toArray⟩ ⟨(lineK x.to_).toArray⟩ ⟨(hourK x.hr).toArray⟩ ⟨(lineK a).toArray⟩ ⟨(lineK b).toArray⟩ _ C I g n c i W _ _ (by rw [Go.ByteArray.toList_eq, Go.ByteArray.toList_eq]; exact line_same _ _) (by rw [Go.ByteArray.toList_eq, Go.ByteArray.toList_eq]; exact line_eq5 _ _) (Nat.lt_of_lt_of_le hC hb.size) (Nat.lt_of_lt_of_le hI hb.size) (Nat.lt_of_lt_of_le hg hb.size) ((hb.cell (p := ⟨C, 0, none⟩) hC).trans cC) ((hb.cell (p := ⟨I, 0, none⟩) hI).trans cI) hin hn ((hb.cell (p := ⟨g, i, none⟩) hg).trans ca) ((hb.cell (p := ⟨g, i + 1, none⟩) hg).trans cb)).mono fun e w' h => ⟨h.1, ext_trans hb h.2⟩
end Go.Proofs.YtkdadbpajhdelaaGreatDoor

namespace Go.Proofs.YtkdadbpajhdelaaGreatDoor
open Go.RowKit
set_option linter.unusedVariables false

theorem within_q (n lo hi : Int) (w : World) (h1 : lo ≤ n) (h2 : n ≤ hi) :
    Calls Tryz.prog 173 #[.int .i64 n, .int .i64 lo, .int .i64 hi] w fun e w' => e = .returned (.bool true) ∧ w = w' := by
  go_enter Tryz.func173, Tryz.ntmps173
  go_wp2
  go_ret
  exact ⟨rfl, rfl⟩

def anAgent : Value := .agg #[.string ⟨#[97]⟩, .slice none 0 0, .int .i64 0, .int .i64 5, .slice none 0 0, .int .i64 0]

set_option maxHeartbeats 1000000 in
theorem checkAgent_one (w : World) :
    Calls Tryz.prog 135 #[anAgent] w fun e w' => e = .returned (.int .i64 0) ∧ Below w.heap.size w w' := by
  unfold anAgent
  go_enter Tryz.func135, Tryz.ntmps135
  go_wp2_with fail
  refine wp_loop_rounds 1 ?_
  rw [rounds_succ]
  go_wp2_with fail
  refine wp_loop_rounds 1 ?_
  rw [rounds_succ]
  go_wp2_with (go_at_call 173; refine (within_q _ _ _ _ (by omega) (by omega)).mono ?_; rintro e w' ⟨rfl, rfl⟩)
  go_ret
  exact ⟨rfl, (Below.refl _ _).alloc (Nat.le_refl _) _⟩

theorem isKey_a (w : World) : Calls Tryz.prog 30 #[.string ⟨#[97]⟩] w fun e w' => e = .returned (.bool true) ∧ Below w.heap.size w w' := isKey_any [97] w (by decide)

set_option maxHeartbeats 1000000 in
theorem checkAgents_one (w : World) (b : Nat) (hb : b < w.heap.size) (h0 : w.cell? ⟨b, 0, none⟩ = some (.string ⟨#[97]⟩)) (h1 : w.cell? ⟨b, 1, none⟩ = some (.slice none 0 0)) (h2 : w.cell? ⟨b, 2, none⟩ = some (.int .i64 0)) (h3 : w.cell? ⟨b, 3, none⟩ = some (.int .i64 5)) (h4 : w.cell? ⟨b, 4, none⟩ = some (.slice none 0 0)) (h5 : w.cell? ⟨b, 5, none⟩ = some (.int .i64 0)) :
    Calls Tryz.prog 84 #[.slice (some ⟨b, 0, none⟩) 1 1] w fun e w' => e = .returned (.int .i64 0) ∧ Below w.heap.size w w' := by
  go_enter Tryz.func84, Tryz.ntmps84
  go_wp2_with fail
  refine wp_loop_rounds 2 ?_
  rw [rounds_succ]
  go_wp2_with fail
  refine (isKey_a _).mono ?_
  rintro e w1 ⟨rfl, hB1⟩
  obtain ⟨hc, hf⟩ := bcell hB1
  go_wp2_with fail
  go_quiet (fail)
  go_wp2_with fail
  refine (checkAgent_one _).mono ?_
  rintro e w2 ⟨rfl, hB2⟩
  go_wp2_with fail
  rw [rounds_succ]
  go_wp2_with fail
  go_ret
  exact ⟨rfl, (by (try show Below _ _ _); repeat (with_reducible first | exact Below.refl _ _ | assumption | exact Hid.out (by assumption) | refine ext_alloc ?_ | refine ext_drewN ?_ | refine ext_drew ?_ | refine ext_setCell ?_ (Nat.le_refl _) | refine ext_setCell ?_ (Nat.le_succ _) | refine ext_trans ?_ (by assumption) | (refine ext_setCell ?_ (by simp)) | (refine ext_setCell ?_ (by simp at *; omega))))⟩

theorem present1_any (at_ f t : Int) (w : World) (b : Nat) (hb : b < w.heap.size) (hc : w.cell? ⟨b, 0, none⟩ = some (.int .i64 at_)) (h1 : f ≤ at_) (h2 : at_ < t) :
    Calls Tryz.prog 136 #[.agg #[.int .i64 f, .int .i64 t], .pointer (some ⟨b, 0, none⟩)] w fun e w' => e = .returned (.bool true) ∧ Below w.heap.size w w' := by
  go_enter Tryz.func136, Tryz.ntmps136
  go_wp2_with fail
  go_ret
  exact ⟨rfl, (by (try show Below _ _ _); repeat (with_reducible first | exact Below.refl _ _ | assumption | exact Hid.out (by assumption) | refine ext_alloc ?_ | refine ext_drewN ?_ | refine ext_drew ?_ | refine ext_setCell ?_ (Nat.le_refl _) | refine ext_setCell ?_ (Nat.le_succ _) | refine ext_trans ?_ (by assumption) | (refine ext_setCell ?_ (by simp)) | (refine ext_setCell ?_ (by simp at *; omega))))⟩

theorem containsFunc_nil (f : Value) (w : World) :
    Calls Tryz.prog 137 #[.slice none 0 0, f] w fun e w' => e = .returned (.bool false) ∧ w = w' := by
  go_enter Tryz.func137, Tryz.ntmps137
  go_wp2
  refine wp_loop_rounds 1 ?_
  rw [rounds_succ]
  go_wp2
  go_ret
  exact ⟨rfl, rfl⟩

set_option maxHeartbeats 1000000 in
theorem present_one (w : World) :
    Calls Tryz.prog 85 #[anAgent, .int .i64 4] w fun e w' => e = .returned (.bool true) ∧ Below w.heap.size w w' := by
  unfold anAgent
  go_enter Tryz.func85, Tryz.ntmps85
  go_wp2_with fail
  refine (present1_any 4 0 5 _ (w.heap.size + 1) (by simp) (by simp) (by omega) (by omega)).mono ?_
  rintro e w1 ⟨rfl, hB1⟩
  obtain ⟨hc, hf⟩ := bcell hB1
  go_wp2_with fail
  refine (containsFunc_nil _ _).mono ?_
  rintro e w2 ⟨rfl, rfl⟩
  go_wp2_with fail
  go_ret
  exact ⟨rfl, (by (try show Below _ _ _); repeat (with_reducible first | exact Below.refl _ _ | assumption | exact Hid.out (by assumption) | refine ext_alloc ?_ | refine ext_drewN ?_ | refine ext_drew ?_ | refine ext_setCell ?_ (Nat.le_refl _) | refine ext_setCell ?_ (Nat.le_succ _) | refine ext_trans ?_ (by assumption) | (refine ext_setCell ?_ (by simp)) | (refine ext_setCell ?_ (by simp at *; omega))))⟩

set_option maxHeartbeats 1000000 in
theorem present_ready (w : World) :
    Calls Tryz.prog 37 #[anAgent, .int .i64 4] w fun e w' => e = .returned (.tuple #[.bool true, .int .i64 0]) ∧ Below w.heap.size w w' := by
  unfold anAgent
  go_enter Tryz.func37, Tryz.ntmps37
  go_wp2_with fail
  refine (checkAgents_one _ (w.heap.size + 1) (by simp) (by simp) (by simp) (by simp) (by simp) (by simp) (by simp)).mono ?_
  rintro e w1 ⟨rfl, hB1⟩
  obtain ⟨hc, hf⟩ := bcell hB1
  go_wp2_with fail
  refine (isMoment_any _ _).mono ?_
  rintro e w2 ⟨rfl, rfl⟩
  go_wp2_with fail
  refine (present_one _).mono ?_
  rintro e w3 ⟨rfl, hB3⟩
  go_wp2_with fail
  go_ret2
  exact ⟨rfl, (by (try show Below _ _ _); repeat (with_reducible first | exact Below.refl _ _ | assumption | exact Hid.out (by assumption) | refine ext_alloc ?_ | refine ext_drewN ?_ | refine ext_drew ?_ | refine ext_setCell ?_ (Nat.le_refl _) | refine ext_setCell ?_ (Nat.le_succ _) | refine ext_trans ?_ (by assumption) | (refine ext_setCell ?_ (by simp)) | (refine ext_setCell ?_ (by simp at *; omega))))⟩
end Go.Proofs.YtkdadbpajhdelaaGreatDoor

namespace Go.Proofs.YtkdadbpajhdelaaGreatDoor
open Go.RowKit
set_option linter.unusedVariables false

theorem within_v (n lo hi : Int) (w : World) (h1 : lo ≤ n) (h2 : n ≤ hi) :
    Calls Tryz.prog 87 #[.int .i64 n, .int .i64 lo, .int .i64 hi] w fun e w' => e = .returned (.bool true) ∧ w = w' := by
  go_enter Tryz.func87, Tryz.ntmps87
  go_wp2
  go_ret
  exact ⟨rfl, rfl⟩

theorem isKey_b (w : World) : Calls Tryz.prog 30 #[.string ⟨#[98]⟩] w fun e w' => e = .returned (.bool true) ∧ Below w.heap.size w w' := isKey_any [98] w (by decide)
theorem isKey_m (w : World) : Calls Tryz.prog 30 #[.string ⟨#[109]⟩] w fun e w' => e = .returned (.bool true) ∧ Below w.heap.size w w' := isKey_any [109] w (by decide)

def aBox : Value := .agg #[.string ⟨#[98]⟩, .int .i64 1, .int .i64 1, .int .i64 0, .int .i64 0, .slice none 0 0, .bool false, .int .i64 0, .int .i64 0]
def aMess : Value := .agg #[.string ⟨#[109]⟩, .string ⟨#[]⟩, .int .i64 0, .int .i64 1, .int .i64 1, .int .i64 0]

set_option maxHeartbeats 1000000 in
theorem checkBox_one (w : World) :
    Calls Tryz.prog 138 #[aBox] w fun e w' => e = .returned (.int .i64 0) ∧ Below w.heap.size w w' := by
  unfold aBox
  go_enter Tryz.func138, Tryz.ntmps138
  go_wp2_with (go_at_call 87; refine (within_v _ _ _ _ (by omega) (by omega)).mono ?_; rintro e w' ⟨rfl, rfl⟩)
  refine wp_loop_rounds 1 ?_
  rw [rounds_succ]
  go_wp2_with (go_at_call 87; refine (within_v _ _ _ _ (by omega) (by omega)).mono ?_; rintro e w' ⟨rfl, rfl⟩)
  go_ret
  exact ⟨rfl, (by (try show Below _ _ _); repeat (with_reducible first | exact Below.refl _ _ | assumption | exact Hid.out (by assumption) | refine ext_alloc ?_ | refine ext_drewN ?_ | refine ext_drew ?_ | refine ext_setCell ?_ (Nat.le_refl _) | refine ext_setCell ?_ (Nat.le_succ _) | refine ext_trans ?_ (by assumption) | (refine ext_setCell ?_ (by simp)) | (refine ext_setCell ?_ (by simp at *; omega))))⟩

set_option maxHeartbeats 1000000 in
theorem checkBoxes_one (w : World) (b : Nat) (hb : b < w.heap.size) (h0 : w.cell? ⟨b, 0, none⟩ = some (.string ⟨#[98]⟩)) (h1 : w.cell? ⟨b, 1, none⟩ = some (.int .i64 1)) (h2 : w.cell? ⟨b, 2, none⟩ = some (.int .i64 1)) (h3 : w.cell? ⟨b, 3, none⟩ = some (.int .i64 0)) (h4 : w.cell? ⟨b, 4, none⟩ = some (.int .i64 0)) (h5 : w.cell? ⟨b, 5, none⟩ = some (.slice none 0 0)) (h6 : w.cell? ⟨b, 6, none⟩ = some (.bool false)) (h7 : w.cell? ⟨b, 7, none⟩ = some (.int .i64 0)) (h8 : w.cell? ⟨b, 8, none⟩ = some (.int .i64 0)) :
    Calls Tryz.prog 86 #[.slice (some ⟨b, 0, none⟩) 1 1] w fun e w' => e = .returned (.int .i64 0) ∧ Below w.heap.size w w' := by
  go_enter Tryz.func86, Tryz.ntmps86
  go_wp2_with fail
  refine wp_loop_rounds 2 ?_
  rw [rounds_succ]
  go_wp2_with fail
  refine (isKey_b _).mono ?_
  rintro e w1 ⟨rfl, hB1⟩
  obtain ⟨hc, hf⟩ := bcell hB1
  go_wp2_with fail
  go_quiet (fail)
  go_wp2_with fail
  refine (checkBox_one _).mono ?_
  rintro e w2 ⟨rfl, hB2⟩
  go_wp2_with fail
  rw [rounds_succ]
  go_wp2_with fail
  go_ret
  exact ⟨rfl, (by (try show Below _ _ _); repeat (with_reducible first | exact Below.refl _ _ | assumption | exact Hid.out (by assumption) | refine ext_alloc ?_ | refine ext_drewN ?_ | refine ext_drew ?_ | refine ext_setCell ?_ (Nat.le_refl _) | refine ext_setCell ?_ (Nat.le_succ _) | refine ext_trans ?_ (by assumption) | (refine ext_setCell ?_ (by simp)) | (refine ext_setCell ?_ (by simp at *; omega))))⟩

set_option maxHeartbeats 1000000 in
theorem ends_one (w : World) : Calls Tryz.prog 88 #[aBox, aMess] w fun e w' => e = .returned (.int .i64 86400000) ∧ Below w.heap.size w w' := by
  unfold aBox aMess
  go_enter Tryz.func88, Tryz.ntmps88
  go_wp2_with fail
  go_ret
  exact ⟨rfl, (by (try show Below _ _ _); repeat (with_reducible first | exact Below.refl _ _ | assumption | exact Hid.out (by assumption) | refine ext_alloc ?_ | refine ext_drewN ?_ | refine ext_drew ?_ | refine ext_setCell ?_ (Nat.le_refl _) | refine ext_setCell ?_ (Nat.le_succ _) | refine ext_trans ?_ (by assumption) | (refine ext_setCell ?_ (by simp)) | (refine ext_setCell ?_ (by simp at *; omega))))⟩

set_option maxHeartbeats 2000000 in
theorem ends_ready (w : World) : Calls Tryz.prog 38 #[aBox, aMess] w fun e w' => e = .returned (.tuple #[.int .i64 86400000, .int .i64 0]) ∧ Below w.heap.size w w' := by
  unfold aBox aMess
  go_enter Tryz.func38, Tryz.ntmps38
  go_wp2_with fail
  refine (checkBoxes_one _ _ ?_ ?_ ?_ ?_ ?_ ?_ ?_ ?_ ?_ ?_).mono ?_
  iterate 10 (focus (first | (simp; done) | (go_simp; done)))
  rintro e w1 ⟨rfl, hB1⟩
  obtain ⟨hc, hf⟩ := bcell hB1
  go_wp2_with fail
  refine (isKey_m _).mono ?_
  rintro e w2 ⟨rfl, hB2⟩
  obtain ⟨hc2, hf2⟩ := bcell hB2
  have hz0 : w.heap.size < w1.heap.size := by have := hB1.size; simp at this; omega
  have hz1 : w.heap.size + 1 < w1.heap.size := by have := hB1.size; simp at this; omega
  go_wp2_with (first | (go_at_call 31; refine (isMoment_any _ _).mono ?_; rintro e w' ⟨rfl, rfl⟩) | (go_at_call 87; refine (within_v _ _ _ _ (by omega) (by omega)).mono ?_; rintro e w' ⟨rfl, rfl⟩))
  refine (ends_one _).mono ?_
  rintro e w3 ⟨rfl, hB3⟩
  go_wp2_with fail
  go_ret2
  exact ⟨rfl, (by (try show Below _ _ _); repeat (with_reducible first | exact Below.refl _ _ | assumption | exact Hid.out (by assumption) | refine ext_alloc ?_ | refine ext_drewN ?_ | refine ext_drew ?_ | refine ext_setCell ?_ (Nat.le_refl _) | refine ext_setCell ?_ (Nat.le_succ _) | refine ext_trans ?_ (by assumption) | (refine ext_setCell ?_ (by simp)) | (refine ext_setCell ?_ (by simp at *; omega))))⟩
end Go.Proofs.YtkdadbpajhdelaaGreatDoor

namespace Go.Proofs.YtkdadbpajhdelaaGreatDoor
open Go.RowKit
set_option linter.unusedVariables false

structure Cls where
  pre : List UInt8
  name : List UInt8
  setup : Int
  first : Int
  step : Int
  rate : Int

def Cls.cells (c : Cls) : List Value := [.string ⟨c.pre.toArray⟩, .string ⟨c.name.toArray⟩, .int .i64 c.setup, .int .i64 c.first, .int .i64 c.step, .int .i64 c.rate]
def noCls : Cls := ⟨[], [], 0, 0, 0, 0⟩

/-- A slice of classes that lies in memory. -/
def ClsRow (w : World) (a : Option Addr) (n : Nat) (cs : List Cls) : Prop :=
  n = cs.length ∧ n ≤ 200 ∧ (n = 0 ∨ ∃ b off, a = some ⟨b, off, none⟩ ∧ b < w.heap.size ∧ ∀ i, i < n → ∀ j, j < 6 → w.cell? ⟨b, off + i * 6 + j, none⟩ = (cs.getD i noCls).cells[j]?)

theorem ClsRow.below {w w' : World} {a : Option Addr} {n : Nat} {cs : List Cls} (h : ClsRow w a n cs) (hb : Below w.heap.size w w') : ClsRow w' a n cs := by
  obtain ⟨h1, h2, h3⟩ := h
  refine ⟨h1, h2, h3.imp id ?_⟩
  rintro ⟨b, off, ha, hl, hc⟩
  exact ⟨b, off, ha, Nat.lt_of_lt_of_le hl hb.size, fun i hi j hj => (hb.cell (p := ⟨b, off + i * 6 + j, none⟩) hl).trans (hc i hi j hj)⟩

/-- A slice of strings that lies in memory. -/
def StrRow (w : World) (a : Option Addr) (n : Nat) (ss : List (List UInt8)) : Prop :=
  n = ss.length ∧ n ≤ 200 ∧ (n = 0 ∨ ∃ b off, a = some ⟨b, off, none⟩ ∧ b < w.heap.size ∧ ∀ i, i < n → w.cell? ⟨b, off + i, none⟩ = some (.string ⟨(ss.getD i []).toArray⟩))

theorem StrRow.below {w w' : World} {a : Option Addr} {n : Nat} {ss : List (List UInt8)} (h : StrRow w a n ss) (hb : Below w.heap.size w w') : StrRow w' a n ss := by
  obtain ⟨h1, h2, h3⟩ := h
  refine ⟨h1, h2, h3.imp id ?_⟩
  rintro ⟨b, off, ha, hl, hc⟩
  exact ⟨b, off, ha, Nat.lt_of_lt_of_le hl hb.size, fun i hi => (hb.cell (p := ⟨b, off + i, none⟩) hl).trans (hc i hi)⟩

theorem within_a (n lo hi : Int) (w : World) (h1 : lo ≤ n) (h2 : n ≤ hi) :
    Calls Tryz.prog 91 #[.int .i64 n, .int .i64 lo, .int .i64 hi] w fun e w' => e = .returned (.bool true) ∧ w = w' := by
  go_enter Tryz.func91, Tryz.ntmps91
  go_wp2
  go_ret
  exact ⟨rfl, rfl⟩

/-- What the numbers of a class may begin with. -/
def isPreB (l : List UInt8) : Bool := l.isEmpty || (Lib.hasPrefix l [43] && (decide ((Lib.trimPrefix l [43]).length ≤ 15) && allIn (Lib.trimPrefix l [43]) digitSet))

theorem isPrefix_any (l : List UInt8) (w : World) (hs : l.length ≤ 9223372036854775807) :
    Calls Tryz.prog 139 #[.string ⟨l.toArray⟩] w fun e w' => e = .returned (.bool (isPreB l)) ∧ Below w.heap.size w w' := by
  have hcon := Tryz.strings_CutPrefix ⟨l.toArray⟩ ⟨#[43]⟩ w
  have hle : (Lib.trimPrefix l [43]).length ≤ l.length := by unfold Lib.trimPrefix; split <;> simp
  have hd : Hid (isPreB l = (l.isEmpty || (Lib.hasPrefix l [43] && (decide ((Lib.trimPrefix l [43]).length ≤ 15) && (Lib.trimS (Lib.trimPrefix l [43]) digitSet).isEmpty)))) := by rfl
  change Calls _ _ _ w fun e w' => e = .returned (.tuple #[.string ⟨(Lib.trimPrefix l [43]).toArray⟩, .bool (Lib.hasPrefix l [43])]) ∧ w' = w at hcon
  generalize Lib.trimPrefix l [43] = d at hcon hd hle
  generalize Lib.hasPrefix l [43] = b at hcon hd
  have hcon2 := fun w => trim_digits ⟨d.toArray⟩ w (by show d.length ≤ _; omega)
  change ∀ w, Calls _ _ _ w fun e w' => e = .returned (.string ⟨(Lib.trimS d digitSet).toArray⟩) ∧ Below w.heap.size w w' at hcon2
  generalize Lib.trimS d digitSet = r at hcon2 hd
  cases hl : l with
  | nil =>
    subst hl
    cases b <;>
    · go_enter Tryz.func139, Tryz.ntmps139
      go_wp2_with (first | (go_at_call 140; refine hcon.mono ?_; rintro e w' ⟨rfl, rfl⟩) | (go_at_call 80; refine (hcon2 _).mono ?_; rintro e w' ⟨rfl, hB⟩))
      go_ret
      exact ⟨by rw [hd.out]; rfl, Below.refl _ _⟩
  | cons c l' =>
    rw [hl] at hcon hd
    have hne : (c :: l').isEmpty = false := rfl
    cases b with
    | false =>
      go_enter Tryz.func139, Tryz.ntmps139
      go_wp2_with (first | (go_at_call 140; refine hcon.mono ?_; rintro e w' ⟨rfl, rfl⟩) | (go_at_call 80; refine (hcon2 _).mono ?_; rintro e w' ⟨rfl, hB⟩))
      go_ret
      exact ⟨by rw [hd.out]; rfl, Below.refl _ _⟩
    | true =>
      by_cases h15 : d.length ≤ 15
      · go_enter Tryz.func139, Tryz.ntmps139
        go_wp2_with (first | (go_at_call 140; refine hcon.mono ?_; rintro e w' ⟨rfl, rfl⟩) | (go_at_call 80; refine (hcon2 _).mono ?_; rintro e w' ⟨rfl, hB⟩))
        go_ret
        exact ⟨by rw [hd.out, decide_eq_true h15]; rfl, hB⟩
      · go_enter Tryz.func139, Tryz.ntmps139
        go_wp2_with (first | (go_at_call 140; refine hcon.mono ?_; rintro e w' ⟨rfl, rfl⟩) | (go_at_call 80; refine (hcon2 _).mono ?_; rintro e w' ⟨rfl, hB⟩))
        go_ret
        exact ⟨by rw [hd.out, decide_eq_false (by omega)]; rfl, Below.refl _ _⟩

structure GoodCls (c : Cls) : Prop where
  pre : isPreB c.pre = true
  preLen : c.pre.length ≤ 1000
  name : isKeyB c.name = true
  nameLen : c.name.length ≤ 1000
  setup0 : 0 ≤ c.setup
  setup1 : c.setup ≤ 1000000
  rate0 : 0 ≤ c.rate
  rate1 : c.rate ≤ 1000000
  first0 : 0 ≤ c.first
  first1 : c.first ≤ 86400000
  step0 : 1 ≤ c.step
  step1 : c.step ≤ 86400000

theorem cls_cells {w : World} {b off i : Nat} {c : Cls} (h : ∀ j, j < 6 → w.cell? ⟨b, off + i * 6 + j, none⟩ = c.cells[j]?) :
    w.cell? ⟨b, off + i * 6, none⟩ = some (.string ⟨c.pre.toArray⟩) ∧ w.cell? ⟨b, off + i * 6 + 1, none⟩ = some (.string ⟨c.name.toArray⟩) ∧ w.cell? ⟨b, off + i * 6 + 2, none⟩ = some (.int .i64 c.setup) ∧ w.cell? ⟨b, off + i * 6 + 3, none⟩ = some (.int .i64 c.first) ∧ w.cell? ⟨b, off + i * 6 + 4, none⟩ = some (.int .i64 c.step) ∧ w.cell? ⟨b, off + i * 6 + 5, none⟩ = some (.int .i64 c.rate) :=
  ⟨h 0 (by omega), h 1 (by omega), h 2 (by omega), h 3 (by omega), h 4 (by omega), h 5 (by omega)⟩

set_option maxHeartbeats 1000000 in
theorem checkTariff_ok (w : World) (a : Option Addr) (n cap : Nat) (cs : List Cls) (free : Int) (a2 : Option Addr) (n2 cap2 : Nat) (ss : List (List UInt8))
    (hr : ClsRow w a n cs) (hg : ∀ i, i < n → GoodCls (cs.getD i noCls)) (ho : ∀ i, 0 < i → i < n → leS (cs.getD i noCls).pre (cs.getD (i - 1) noCls).pre = false) (hs : StrRow w a2 n2 ss) (hi : ∀ i, i < n2 → isKeyB (ss.getD i []) = true ∧ (ss.getD i []).length ≤ 1000) (ho2 : ∀ i, 0 < i → i < n2 → leS (ss.getD i []) (ss.getD (i - 1) []) = false) (hf0 : 0 ≤ free) (hf1 : free ≤ 2592000000) :
    Calls Tryz.prog 89 #[.agg #[.slice a n cap, .int .i64 free, .slice a2 n2 cap2]] w fun e w' => e = .returned (.int .i64 0) ∧ Below w.heap.size w w' := by
  obtain ⟨hn, hn2, hr⟩ := hr
  have Hg := Lib.hid hg
  have Hr := Lib.hid hr
  have Hn := Lib.hid hn
  have Ho := Lib.hid ho
  have Hi := Lib.hid hi
  have Ho2 := Lib.hid ho2
  clear hg hr hn ho hi ho2
  obtain ⟨hn3, hn4, hs⟩ := hs
  have Hn3 := Lib.hid hn3
  have Hs := Lib.hid hs
  clear hs hn3
  go_enter Tryz.func89, Tryz.ntmps89
  go_wp2_with fail
  go_loopw [14] (fun i wr => ∃ k : Nat, k ≤ n ∧ i = .int .i64 k ∧ Hid (Below (w.alloc (.cells #[.slice a n cap, .int .i64 free, .slice a2 n2 cap2] 107)).heap.size (w.alloc (.cells #[.slice a n cap, .int .i64 free, .slice a2 n2 cap2] 107)) wr)) (fun i _ => n - (intOf i).toNat)
  case atStart => exact ⟨0, Nat.zero_le _, rfl, Below.refl _ _⟩
  case round =>
    obtain ⟨k, hk, rfl, HB⟩ := hrel
    by_cases hlt : k < n
    · have g := Hg.out k hlt
      rcases Hr.out with h0 | ⟨b, off, rfl, hb, hc⟩
      · omega
      have hbw : Below w.heap.size w wr := ext_trans (ext_alloc (Below.refl _ _)) HB.out
      obtain ⟨c0, c1, c2, c3, c4, c5⟩ := cls_cells (w := wr) (fun j hj => (hbw.cell (p := ⟨b, off + k * 6 + j, none⟩) hb).trans (hc k hlt j hj))
      have x0 : wr.cell? ⟨w.heap.size, 0, none⟩ = some (.slice (some ⟨b, off, none⟩) n cap) := (HB.out.cell (p := ⟨w.heap.size, 0, none⟩) (by simp)).trans (by simp)
      have zr : w.heap.size < wr.heap.size := by have := HB.out.size; simp at this; omega
      have zb : b < wr.heap.size := by omega
      have HX : Hid (∀ j, 0 < k → j < 6 → wr.cell? ⟨b, off + (k - 1) * 6 + j, none⟩ = (cs.getD (k - 1) noCls).cells[j]?) := fun j h0 hj => (hbw.cell (p := ⟨b, off + (k - 1) * 6 + j, none⟩) hb).trans (hc (k - 1) (by omega) j hj)
      have HO : Hid (0 < k → leS (cs.getD k noCls).pre (cs.getD (k - 1) noCls).pre = false) := fun h => Ho.out k h hlt
      clear hc Hr
      generalize cs.getD k noCls = cl at g c0 c1 c2 c3 c4 c5 HO
      generalize cs.getD (k - 1) noCls = pv at HX HO
      go_wp2_with fail
      refine (isPrefix_any _ _ (by have := g.preLen; omega)).mono ?_
      rw [g.pre]
      rintro e w1 ⟨rfl, hB1⟩
      obtain ⟨q1, -⟩ := bcell hB1
      go_wp2_with fail
      refine (isKey_any _ _ (by have := g.nameLen; omega)).mono ?_
      rw [g.name]
      rintro e w2 ⟨rfl, hB2⟩
      obtain ⟨q2, -⟩ := bcell hB2
      have z1 : wr.heap.size < w1.heap.size := by have := hB1.size; simp at this; omega
      have zb1 : b < w1.heap.size := by omega
      have zw1 : w.heap.size < w1.heap.size := by omega
      obtain ⟨g1, g2, g3, g4, g5, g6, g7, g8, g9, g10, g11, g12⟩ := g
      clear g1 g3
      go_wp2_with (go_at_call 91; refine (within_a _ _ _ _ (by omega) (by omega)).mono ?_; rintro e w' ⟨rfl, rfl⟩)
      by_cases hk0 : k = 0
      · subst hk0
        go_quiet (fail)
        go_wp2_with fail
        go_roundw
        case rel => exact ⟨1, by omega, rfl, (by (try show Below _ _ _); repeat (with_reducible first | exact Below.refl _ _ | assumption | exact Hid.out (by assumption) | refine ext_alloc ?_ | refine ext_drewN ?_ | refine ext_drew ?_ | refine ext_setCell ?_ (Nat.le_refl _) | refine ext_setCell ?_ (Nat.le_succ _) | refine ext_trans ?_ (by assumption) | (refine ext_setCell ?_ (by simp)) | (refine ext_setCell ?_ (by simp at *; omega))))⟩
        case measure => simp [intOf]; omega
      · have p0 : wr.cell? ⟨b, off + (k - 1) * 6, none⟩ = some (.string ⟨pv.pre.toArray⟩) := HX.out 0 (by omega) (by omega)
        have kp : (0 : Int) < (k : Int) := by omega
        have kp2 : 0 < k := by omega
        have kq : ((k : Int) - 1).toNat = k - 1 := by omega
        have kr : 0 ≤ (k : Int) - 1 := by omega
        have ks : (k : Int) - 1 < n := by omega
        obtain ⟨o1, o2⟩ := leS_false (HO.out kp2)
        go_quiet (fail)
        go_wp2_with fail
        go_roundw
        case rel => exact ⟨k + 1, by omega, by go_num, (by (try show Below _ _ _); repeat (with_reducible first | exact Below.refl _ _ | assumption | exact Hid.out (by assumption) | refine ext_alloc ?_ | refine ext_drewN ?_ | refine ext_drew ?_ | refine ext_setCell ?_ (Nat.le_refl _) | refine ext_setCell ?_ (Nat.le_succ _) | refine ext_trans ?_ (by assumption) | (refine ext_setCell ?_ (by simp)) | (refine ext_setCell ?_ (by simp at *; omega))))⟩
        case measure => simp [intOf]; omega
    · obtain ⟨wo, rfl⟩ : ∃ wo : World, wo = wr := ⟨_, rfl⟩
      have x1 : wo.cell? ⟨w.heap.size, 1, none⟩ = some (.int .i64 free) := (HB.out.cell (p := ⟨w.heap.size, 1, none⟩) (by simp)).trans (by simp)
      have x2 : wo.cell? ⟨w.heap.size, 2, none⟩ = some (.slice a2 n2 cap2) := (HB.out.cell (p := ⟨w.heap.size, 2, none⟩) (by simp)).trans (by simp)
      go_wp2_with (go_at_call 91; refine (within_a _ _ _ _ (by omega) (by omega)).mono ?_; rintro e w' ⟨rfl, rfl⟩)
      go_loopw [79] (fun i wr => ∃ k : Nat, k ≤ n2 ∧ i = .int .i64 k ∧ Hid (Below (w.alloc (.cells #[.slice a n cap, .int .i64 free, .slice a2 n2 cap2] 107)).heap.size (w.alloc (.cells #[.slice a n cap, .int .i64 free, .slice a2 n2 cap2] 107)) wr)) (fun i _ => n2 - (intOf i).toNat)
      case atStart => exact ⟨0, Nat.zero_le _, rfl, HB⟩
      case round =>
        obtain ⟨k, hk, rfl, HB⟩ := hrel
        have hbw : Below w.heap.size w wr := ext_trans (ext_alloc (Below.refl _ _)) HB.out
        have x2 : wr.cell? ⟨w.heap.size, 2, none⟩ = some (.slice a2 n2 cap2) := (HB.out.cell (p := ⟨w.heap.size, 2, none⟩) (by simp)).trans (by simp)
        have zr : w.heap.size < wr.heap.size := by have := HB.out.size; simp at this; omega
        by_cases hlt : k < n2
        · obtain ⟨g1, g2⟩ := Hi.out k hlt
          rcases Hs.out with h0 | ⟨b, off, rfl, hb, hc⟩
          · omega
          have zb : b < wr.heap.size := by omega
          have c0 := (hbw.cell (p := ⟨b, off + k, none⟩) hb).trans (hc k hlt)
          have HX : Hid (0 < k → wr.cell? ⟨b, off + (k - 1), none⟩ = some (.string ⟨(ss.getD (k - 1) []).toArray⟩)) := fun h0 => (hbw.cell (p := ⟨b, off + (k - 1), none⟩) hb).trans (hc (k - 1) (by omega))
          have HO : Hid (0 < k → leS (ss.getD k []) (ss.getD (k - 1) []) = false) := fun h => Ho2.out k h hlt
          clear hc Hs
          generalize ss.getD k [] = cl at g1 g2 c0 HO
          generalize ss.getD (k - 1) [] = pv at HX HO
          go_wp2_with fail
          refine (isKey_any _ _ (by omega)).mono ?_
          rw [g1]
          rintro e w2 ⟨rfl, hB2⟩
          obtain ⟨q2, -⟩ := bcell hB2
          clear g1
          by_cases hk0 : k = 0
          · subst hk0
            go_wp2_with fail
            go_roundw
            case rel => exact ⟨1, by omega, rfl, (by (try show Below _ _ _); repeat (with_reducible first | exact Below.refl _ _ | assumption | exact Hid.out (by assumption) | refine ext_alloc ?_ | refine ext_drewN ?_ | refine ext_drew ?_ | refine ext_setCell ?_ (Nat.le_refl _) | refine ext_setCell ?_ (Nat.le_succ _) | refine ext_trans ?_ (by assumption) | (refine ext_setCell ?_ (by simp)) | (refine ext_setCell ?_ (by simp at *; omega))))⟩
            case measure => simp [intOf]; omega
          · have p0 := HX.out (by omega)
            have kp : (0 : Int) < (k : Int) := by omega
            have kp2 : 0 < k := by omega
            have kq : ((k : Int) - 1).toNat = k - 1 := by omega
            have kr : 0 ≤ (k : Int) - 1 := by omega
            have ks : (k : Int) - 1 < n2 := by omega
            obtain ⟨o1, o2⟩ := leS_false (HO.out kp2)
            go_wp2_with fail
            go_roundw
            case rel => exact ⟨k + 1, by omega, by go_num, (by (try show Below _ _ _); repeat (with_reducible first | exact Below.refl _ _ | assumption | exact Hid.out (by assumption) | refine ext_alloc ?_ | refine ext_drewN ?_ | refine ext_drew ?_ | refine ext_setCell ?_ (Nat.le_refl _) | refine ext_setCell ?_ (Nat.le_succ _) | refine ext_trans ?_ (by assumption) | (refine ext_setCell ?_ (by simp)) | (refine ext_setCell ?_ (by simp at *; omega))))⟩
            case measure => simp [intOf]; omega
        · go_wp2_with fail
          go_ret
          exact ⟨rfl, hbw⟩
end Go.Proofs.YtkdadbpajhdelaaGreatDoor
