/- What is proved here: lemmas and contracts for the statement, put together out of smaller texts (HidRow, HidMath, DplAsk, DplWts, HidWalk, HidIdx). No condition beyond those stated. -/
import Derived.Test.YtamlhapiehchoaaGreatDoorHnPkH
import Derived.Test.YtamlhapiehchoaaGreatDoorHnPkI
import Derived.Lib.SliceRun
import Derived.Test.YtamlhapiehchoaaGreatDoorHnPkA
import Derived.Deep.DeepCutAuto
import Derived.Test.YtamlhapiehchoaaGreatDoorHnPkD
import Derived.Test.YtamlhapiehchoaaGreatDoorShelfHit
set_option linter.unusedVariables false
set_option linter.unusedSimpArgs false
namespace Go.Proofs.YtamlhapiehchoaaGreatDoor
open Go.RowKit Go.Lib

def pvCells (x : PatV) : List Value := [.slice x.a x.n x.cap, .int .u8 x.p.tail]
def pvRow (l : List PatV) : List Value := (l.map pvCells).flatten
theorem pvRow_len (l : List PatV) : (pvRow l).length = l.length * 2 := by
  unfold pvRow
  have := flat_len2 (sz := 2) (cs := l.map pvCells) (fun c hc => by obtain ⟨y, _, rfl⟩ := List.mem_map.1 hc; rfl)
  simpa using this
theorem pvRow_snoc (l : List PatV) (x : PatV) : pvRow (l ++ [x]) = pvRow l ++ pvCells x := by simp [pvRow]
theorem own_cell0 {w : World} {base : Nat} {e : TypeId} {size : Nat} {v : Value} {n : Nat} {xs : List Value} (h : w.ownsRow base e size v n xs) {g : Nat} (hv : v.ownBlock = some g) {u : Value} (hu : xs[0]? = some u) : w.cell? ⟨g, 0, none⟩ = some u := by
  rcases h.2 with ⟨rfl, h0⟩ | ⟨g', cap, cur, rfl, _, hg, _, _, _, ht⟩
  · cases hv
  · injection hv with hv
    simp only at hv
    subst hv
    have hlt : 0 < n * size := by
      rw [← h.1]
      exact (List.getElem?_eq_some_iff.1 hu).1
    rw [← ht, List.getElem?_take_of_lt hlt] at hu
    simp only [World.cell?, hg]
    simpa using hu
/-- A block whose first cell is no set of a pattern. -/
def NoSet (w : World) (row : Option Nat) : Prop := ∀ g, row = some g → ∀ m, w.cell? ⟨g, 0, none⟩ ≠ some (.int .u16 m)
theorem PatAt.gb {w w' : World} {a : Option Addr} {n : Nat} {p : Pat} {row : Option Nat} (h : PatAt w a n p) (hg : w.grownBy w' row) (hr : NoSet w row) : PatAt w' a n p := by
  refine ⟨h.len, ?_⟩
  rcases Nat.eq_zero_or_pos n with h0 | h0
  · exact .inl h0
  · rcases h.row with h1 | ⟨g, ha, hgl, hc⟩
    · exact .inl h1
    · refine .inr ⟨g, ha, Nat.lt_of_lt_of_le hgl hg.size, fun i hi => ?_⟩
      have hne : some g ≠ row := fun e => hr g e.symm _ (hc 0 h0)
      rw [World.cell?_of_block (a := ⟨g, i, none⟩) (hg.block g hgl hne)]
      exact hc i hi
structure PRow (w : World) (base : Nat) (v : Value) (l : List PatV) : Prop where
  own : w.ownsRow base 82 2 v l.length (pvRow l)
  each : ∀ x ∈ l, PatAt w x.a x.n x.p ∧ PatOk x.p
  nil : l = [] → v = .slice none 0 0
theorem PRow.start (w : World) (base : Nat) : PRow w base (.slice none 0 0) [] := ⟨World.ownsRow_nil _ _ _ _, (fun x hx => absurd hx List.not_mem_nil), fun _ => rfl⟩
theorem PRow.below {w w' : World} {base : Nat} {v : Value} {l : List PatV} (h : PRow w base v l) (hb : Below w.heap.size w w') : PRow w' base v l := ⟨own_more h.own hb, fun x hx => ⟨(h.each x hx).1.below hb, (h.each x hx).2⟩, h.nil⟩
theorem PRow.noSet {w : World} {base : Nat} {v : Value} {l : List PatV} (h : PRow w base v l) : NoSet w v.ownBlock := by
  intro g hg m hc
  cases l with
  | nil => rw [h.nil rfl] at hg; cases hg
  | cons x l =>
    rw [own_cell0 h.own hg (u := .slice x.a x.n x.cap) rfl] at hc
    cases hc
theorem PRow.gb {w w' : World} {base : Nat} {v : Value} {l : List PatV} {row : Option Nat} (h : PRow w base v l) (hg : w.grownBy w' row) (hn : NoSet w row) (hd : ∀ b, v.ownBlock = some b → row ≠ some b) : PRow w' base v l :=
  ⟨own_gb h.own hg hd, fun x hx => ⟨(h.each x hx).1.gb hg hn, (h.each x hx).2⟩, h.nil⟩
theorem PRow.more {w w' : World} {base : Nat} {v v' : Value} {l : List PatV} {x : PatV} (h : PRow w base v l) (hg : w.grownBy w' v.ownBlock) (ho : w'.ownsRow base 82 2 v' (l.length + 1) (pvRow l ++ pvCells x)) (hx : PatAt w x.a x.n x.p) (hk : PatOk x.p) : PRow w' base v' (l ++ [x]) :=
  ⟨by rw [List.length_append, pvRow_snoc]; exact ho, fun y hy => by
    rcases List.mem_append.1 hy with hy | hy
    · exact ⟨(h.each y hy).1.gb hg h.noSet, (h.each y hy).2⟩
    · simp at hy; subst hy; exact ⟨hx.gb hg h.noSet, hk⟩, fun e => by simp at e⟩
theorem PRow.vals {w : World} {base : Nat} {v : Value} {l : List PatV} (h : PRow w base v l) : ∃ a c, v = .slice a l.length c ∧ PatsV w a l.length l := by
  rcases h.own.2 with ⟨rfl, h0⟩ | ⟨g, cap, cur, rfl, _, hg, _, _, _, ht⟩
  · exact ⟨none, 0, by rw [h0], rfl, .inl h0⟩
  · refine ⟨_, cap, rfl, rfl, .inr ⟨g, rfl, (Array.getElem?_eq_some_iff.1 hg).1, ?_, ?_, ?_⟩⟩
    · intro i hi
      have hu : (pvRow l)[i * 2 + 0]? = some (.slice (l.getD i noPatV).a (l.getD i noPatV).n (l.getD i noPatV).cap) := flat_atF pvCells 2 (fun x => rfl) l i 0 noPatV hi (by omega)
      rw [← ht, Nat.add_zero, List.getElem?_take_of_lt (by omega)] at hu
      simp only [World.cell?, hg]
      simpa using hu
    · intro i hi
      have hu : (pvRow l)[i * 2 + 1]? = some (.int .u8 (l.getD i noPatV).p.tail) := flat_atF pvCells 2 (fun x => rfl) l i 1 noPatV hi (by omega)
      rw [← ht, List.getElem?_take_of_lt (by omega)] at hu
      simp only [World.cell?, hg]
      simpa using hu
    · intro i hi
      have hm : l.getD i noPatV ∈ l := by
        rw [List.getD_eq_getElem?_getD, List.getElem?_eq_getElem hi]
        exact List.getElem_mem hi
      exact h.each _ hm
theorem infoPatV : (Tryz.prog.info? 82).map (fun i => (i.zero, i.size, i.bytes)) = some (some (.agg #[.slice none 0 0, .int .u8 0]), 2, 32) := by kernel_rfl
theorem infoHitV : (Tryz.prog.info? 37).map (fun i => (i.zero, i.size, i.bytes)) = some (some (.agg #[.string ⟨#[]⟩, .int .i64 0, .int .i64 0, .string ⟨#[]⟩, .string ⟨#[]⟩]), 5, 64) := by kernel_rfl
theorem own_pat0 (w : World) (base : Nat) (hb : base ≤ w.heap.size) : (w.alloc (.cells #[] 82)).ownsRow base 82 2 (.slice (some ⟨w.heap.size, 0, none⟩) 0 0) 0 [] := World.ownsRow_lit w #[] 0 hb (by simp only [maxLen]; omega) rfl
def CloneVPost (l : List PatV) (w : World) (e : Ending) (w' : World) : Prop := ∃ v', e = .returned v' ∧ PRow w' w.heap.size v' l ∧ Below w.heap.size w w'
set_option maxRecDepth 100000 in
set_option maxHeartbeats 2000000 in
theorem cloneV_any (w : World) (base : Nat) (v : Value) (l : List PatV) (h : PRow w base v l) (hl : l.length ≤ 1000) : Calls Tryz.prog 49 #[v] w (CloneVPost l w) := by
  obtain ⟨i0, hi, hz0, hz1, hz2⟩ := info_parts infoPatV
  have q24 : ∀ (w : World) (a : Option Addr) (n c n' c' : Nat), (binOp .eql 119 (.slice a n c) (.slice none n' c')).run Tryz.prog w = .ok (.bool a.isNone) w := fun w a n c n' c' => Lib.run_eql_slice_nil w _ _ a n c n' c' Tryz.underlying119
  rcases shape_own h.own with ⟨h0, rfl⟩ | ⟨g, c, rfl, hbg, hgl⟩
  · have hx : l = [] := List.eq_nil_of_length_eq_zero h0
    subst hx
    clear h
    go_enter Tryz.func49, Tryz.ntmps49
    go_wp2_with fail
    go_ret
    exact ⟨_, rfl, PRow.start _ _, (by (try show Below _ _ _); repeat (with_reducible first | exact Below.refl _ _ | assumption | exact Hid.out (by assumption) | refine ext_alloc ?_ | refine ext_drewN ?_ | refine ext_drew ?_ | refine ext_setCell ?_ (Nat.le_refl _) | refine ext_setCell ?_ (Nat.le_succ _) | refine ext_trans ?_ (by assumption) | (refine ext_setCell ?_ (by simp)) | (refine ext_setCell ?_ (by simp at *; omega))))⟩
  · have hne : l ≠ [] := fun e => by have := h.nil e; cases this
    have HLN : Hid ((pvRow l).length = l.length * 2) := pvRow_len l
    have hA : Below w.heap.size w (w.alloc (.cells #[] 82)) := ext_alloc (Below.refl _ _)
    have HCE : Hid (∀ (j : Nat) u, (pvRow l)[j]? = some u → (w.alloc (.cells #[] 82)).cell? ((⟨g, 0, none⟩ : Addr).add j) = some u) := fun j u hu => (own_more h.own hA).cells (g := g) rfl j u hu
    have HON : Hid (∀ u ∈ pvRow l, u.oneCell' = true) := fun u hu => by
      obtain ⟨cs, h1, h2⟩ := List.mem_flatten.1 hu
      obtain ⟨y, -, rfl⟩ := List.mem_map.1 h1
      simp only [pvCells, List.mem_cons, List.not_mem_nil, or_false] at h2
      rcases h2 with rfl | rfl <;> rfl
    have HOA := Lib.hid (own_pat0 w w.heap.size (Nat.le_refl _))
    have HOK : Hid (∀ (v' : Value) (W : World), W.ownsRow w.heap.size 82 2 v' l.length (pvRow l) → Below w.heap.size w W → CloneVPost l w (.returned v') W) := fun v' W h1 h2 => ⟨v', rfl, ⟨h1, fun x hx => ⟨(h.each x hx).1.below h2, (h.each x hx).2⟩, fun e => absurd e hne⟩, h2⟩
    generalize hPP : CloneVPost l w = PP at HOK ⊢
    generalize pvRow l = fl at HLN HCE HON HOK
    generalize l.length = n at HLN HOK hl ⊢
    clear h hPP hA hne hbg
    go_enter Tryz.func49, Tryz.ntmps49
    go_wp2_with (at_builtin; refine wpList_append_own_at _ rfl (.tmp 5) (.tmp 6) 119 rfl w.heap.size 82 i0 _ 2 32 Tryz.underlying119 hi hz0 hz1 hz2 rfl (by omega) _ 0 _ rfl HOA.out ⟨g, 0, none⟩ n c fl rfl HLN.out HCE.out HON.out (by simp only [maxLen]; omega) (by omega) (by simp) ?_; intro v6 w6 hown6 hgr6 _ _)
    have HO6 : Hid (w6.ownsRow w.heap.size 82 2 v6 n fl) := by
      show World.ownsRow _ _ _ _ _ _ _
      rw [Nat.zero_add, List.nil_append] at hown6
      exact hown6
    have HB6 : Hid (Below w.heap.size w w6) := upto_grown hgr6 (Nat.le_refl _) (fun b e => (HOA.out.lt b e).1)
    clear hown6 hgr6
    exact HOK.out _ _ HO6.out HB6.out
/-- Hits: where, which rule. -/
def htCells (cs : List DCtx) (x : Nat × Nat) : List Value := [.string ⟨(cs.getD x.1 noDCtx).key.toArray⟩, .int .i64 x.2, .int .i64 ((cs.getD x.1 noDCtx).rules.getD x.2 noDRule).to_, .string ⟨((cs.getD x.1 noDCtx).rules.getD x.2 noDRule).name.toArray⟩, .string ⟨#[]⟩]
def htRow (cs : List DCtx) (l : List (Nat × Nat)) : List Value := (l.map (htCells cs)).flatten
theorem htRow_snoc (cs : List DCtx) (l : List (Nat × Nat)) (x : Nat × Nat) : htRow cs (l ++ [x]) = htRow cs l ++ htCells cs x := by simp [htRow]
structure HRow (cs : List DCtx) (w : World) (base : Nat) (v : Value) (l : List (Nat × Nat)) : Prop where
  own : w.ownsRow base 37 5 v l.length (htRow cs l)
  nil : l = [] → v = .slice none 0 0
theorem HRow.start (cs : List DCtx) (w : World) (base : Nat) : HRow cs w base (.slice none 0 0) [] := ⟨World.ownsRow_nil _ _ _ _, fun _ => rfl⟩
theorem HRow.below {cs : List DCtx} {w w' : World} {base : Nat} {v : Value} {l : List (Nat × Nat)} (h : HRow cs w base v l) (hb : Below w.heap.size w w') : HRow cs w' base v l := ⟨own_more h.own hb, h.nil⟩
theorem HRow.noSet {cs : List DCtx} {w : World} {base : Nat} {v : Value} {l : List (Nat × Nat)} (h : HRow cs w base v l) : NoSet w v.ownBlock := by
  intro g hg m hc
  cases l with
  | nil => rw [h.nil rfl] at hg; cases hg
  | cons x l =>
    rw [own_cell0 h.own hg (u := .string ⟨(cs.getD x.1 noDCtx).key.toArray⟩) rfl] at hc
    cases hc
theorem HRow.gb {cs : List DCtx} {w w' : World} {base : Nat} {v : Value} {l : List (Nat × Nat)} {row : Option Nat} (h : HRow cs w base v l) (hg : w.grownBy w' row) (hd : ∀ b, v.ownBlock = some b → row ≠ some b) : HRow cs w' base v l := ⟨own_gb h.own hg hd, h.nil⟩
theorem HRow.more {cs : List DCtx} {w' : World} {base : Nat} {v' : Value} {l : List (Nat × Nat)} {x : Nat × Nat} (ho : w'.ownsRow base 37 5 v' (l.length + 1) (htRow cs l ++ htCells cs x)) : HRow cs w' base v' (l ++ [x]) :=
  ⟨by rw [List.length_append, htRow_snoc]; exact ho, fun e => by simp at e⟩
end Go.Proofs.YtamlhapiehchoaaGreatDoor

set_option linter.unusedVariables false
set_option linter.unusedSimpArgs false
namespace Go.Proofs.YtamlhapiehchoaaGreatDoor
open Go.RowKit

theorem ord_nodup (adj : Nat → List Nat) : ∀ (f i : Nat) (out : List Nat), out.Nodup → (ordIn adj f i out).Nodup
  | 0, i, out, h => h
  | f + 1, i, out, h => by
    unfold ordIn
    split
    · exact h
    · rename_i hn
      have h1 : (out ++ [i]).Nodup := by
        rw [List.nodup_append]
        refine ⟨h, by simp, ?_⟩
        intro a ha b hb e
        simp at hb
        subst hb
        subst e
        exact hn ha
      have : ∀ (l : List Nat) (o : List Nat), o.Nodup → (l.foldl (fun o j => ordIn adj f j o) o).Nodup := by
        intro l
        induction l with
        | nil => intro o ho; exact ho
        | cons x l ih => intro o ho; exact ih _ (ord_nodup adj f x o ho)
      exact this _ _ h1
theorem bef_self {a : Els} (ha : ElsOk a) : befI a a = 0 := (bef_zero ha ha).2 rfl
/-- What decides is the best of those that hit. -/
theorem decTo_best {rs : List DRule} {op : DRule → Bool} {d : List Nat} (hok : ∀ j, j < rs.length → ElsOk (rs.getD j noDRule).els) : ∀ (n k : Nat), n ≤ rs.length → decTo rs op d n = some k → ∀ j, j < n → hitB op d (rs.getD j noDRule) = true →
    ¬ befI (rs.getD j noDRule).els (rs.getD k noDRule).els < 0 ∧ (befI (rs.getD j noDRule).els (rs.getD k noDRule).els = 0 → k ≤ j)
  | n + 1, k, hn, h, j, hj, hh => by
    have hen := hok n (by omega)
    have hej := hok j (by omega)
    unfold decTo at h
    split at h
    · rename_i h1
      injection h with h
      subst h
      rw [Bool.and_eq_true] at h1
      by_cases hjn : j = n
      · subst hjn
        rw [bef_self hen]
        exact ⟨by omega, fun _ => Nat.le_refl _⟩
      · have hjn2 : j < n := by omega
        cases hp : decTo rs op d n with
        | none => rw [decTo_none hp j hjn2] at hh; cases hh
        | some b =>
          rw [hp] at h1
          have hb : befI (rs.getD n noDRule).els (rs.getD b noDRule).els < 0 := by
            have := h1.2
            unfold betterB at this
            simpa using this
          have heb := hok b (by have := (decTo_some hp).1; omega)
          obtain ⟨h2, h3⟩ := decTo_best hok n b (by omega) hp j hjn2 hh
          refine ⟨fun h4 => h2 (bef_trans hej hen heb h4 hb), fun h4 => ?_⟩
          have h5 := str_inj hej hen ((bef_zero hej hen).1 h4)
          rw [h5] at h2
          exact absurd hb h2
    · rename_i h1
      by_cases hjn : j = n
      · subst hjn
        have hb : betterB rs j (decTo rs op d j) = false := by
          cases hbb : betterB rs j (decTo rs op d j) with
          | false => rfl
          | true => exact absurd (by rw [hh, hbb]; rfl) h1
        rw [h] at hb
        unfold betterB at hb
        have hk := (decTo_some h).1
        exact ⟨by simpa using hb, fun _ => by omega⟩
      · exact decTo_best hok n k (by omega) h j (by omega) hh
theorem decAll_at {cs : List DCtx} {op : DRule → Bool} {d : List Nat} {k i : Nat} : ∀ {L : List Nat}, decAll cs op d L = some (k, i) → ∃ a, a < L.length ∧ L.getD a 0 = k ∧ decIn (cs.getD k noDCtx).rules op d = some i ∧ ∀ b, b < a → decIn (cs.getD (L.getD b 0) noDCtx).rules op d = none
  | x :: L, h => by
    unfold decAll at h
    split at h
    · rename_i j hj
      injection h with h
      injection h with h1 h2
      subst h1
      subst h2
      exact ⟨0, by simp, rfl, hj, fun b hb => by omega⟩
    · rename_i hj
      obtain ⟨a, h1, h2, h3, h4⟩ := decAll_at h
      refine ⟨a + 1, by simp; omega, h2, h3, fun b hb => ?_⟩
      cases b with
      | zero => exact hj
      | succ b => exact h4 b (by omega)
/-- Where a rule of a context is hidden: others cover it that come ahead of it. -/
def AheadOf (cs : List DCtx) (L : List Nat) (a i : Nat) (q : Pat) : Prop :=
  (∃ b, b < a ∧ ∃ j, j < (cs.getD (L.getD b 0) noDCtx).rules.length ∧ ((cs.getD (L.getD b 0) noDCtx).rules.getD j noDRule).hours = [] ∧ q = ((cs.getD (L.getD b 0) noDCtx).rules.getD j noDRule).els.pat) ∨
  (∃ j, j < (cs.getD (L.getD a 0) noDCtx).rules.length ∧ ((cs.getD (L.getD a 0) noDCtx).rules.getD j noDRule).hours = [] ∧ q = ((cs.getD (L.getD a 0) noDCtx).rules.getD j noDRule).els.pat ∧
    (befI ((cs.getD (L.getD a 0) noDCtx).rules.getD j noDRule).els ((cs.getD (L.getD a 0) noDCtx).rules.getD i noDRule).els < 0 ∨ (befI ((cs.getD (L.getD a 0) noDCtx).rules.getD j noDRule).els ((cs.getD (L.getD a 0) noDCtx).rules.getD i noDRule).els = 0 ∧ j < i)))
def HidAt (cs : List DCtx) (L : List Nat) (k i : Nat) : Prop := ∃ a, a < L.length ∧ L.getD a 0 = k ∧ i < (cs.getD k noDCtx).rules.length ∧ ∃ os : List Pat, CovP ((cs.getD k noDCtx).rules.getD i noDRule).els.pat os ∧ ∀ q ∈ os, AheadOf cs L a i q
theorem nodup_at {L : List Nat} (h : L.Nodup) {a b : Nat} (ha : a < L.length) (hb : b < L.length) (e : L.getD a 0 = L.getD b 0) : a = b := by
  rw [List.getD_eq_getElem?_getD, List.getD_eq_getElem?_getD, List.getElem?_eq_getElem ha, List.getElem?_eq_getElem hb] at e
  have he : L[a] = L[b] := e
  rw [List.nodup_iff_pairwise_ne, List.pairwise_iff_getElem] at h
  rcases Nat.lt_trichotomy a b with hlt | rfl | hlt
  · exact absurd he (h a b ha hb hlt)
  · rfl
  · exact absurd he.symm (h b a hb ha hlt)
theorem hid_never {cs : List DCtx} {L : List Nat} {op : DRule → Bool} {d : List Nat} {k i : Nat} (hok : ∀ x ∈ L, ∀ j, j < (cs.getD x noDCtx).rules.length → ElsOk ((cs.getD x noDCtx).rules.getD j noDRule).els) (hn : L.Nodup) (hop : ∀ r : DRule, r.hours = [] → op r = true)
    (hd : ∀ j, j < d.length → d.getD j 0 < 12) (h1 : 1 ≤ d.length) (h2 : d.length ≤ 30) (hh : HidAt cs L k i) : decAll cs op d L ≠ some (k, i) := by
  intro he
  obtain ⟨a, ha, rfl, hi, os, hc, hos⟩ := hh
  obtain ⟨a2, ha2, hk2, hd2, hb2⟩ := decAll_at he
  obtain rfl : a2 = a := nodup_at hn ha2 ha hk2
  have hhit := (decTo_some hd2).2
  have hm : matchB ((cs.getD (L.getD a2 0) noDCtx).rules.getD i noDRule).els.pat d = true := by
    unfold hitB at hhit
    rw [Bool.and_eq_true] at hhit
    exact hhit.1
  obtain ⟨q, hq, hqm⟩ := hc d hd h1 h2 hm
  rcases hos q hq with ⟨b, hb, j, hj, hhr, rfl⟩ | ⟨j, hj, hhr, rfl, hbef⟩
  · have hsome : (decIn (cs.getD (L.getD b 0) noDCtx).rules op d).isSome = true := decIn_isSome.2 ⟨j, hj, by unfold hitB; rw [hqm, hop _ hhr]; rfl⟩
    rw [hb2 b hb] at hsome
    cases hsome
  · have hmem : L.getD a2 0 ∈ L := by
      rw [List.getD_eq_getElem?_getD, List.getElem?_eq_getElem ha]
      exact List.getElem_mem ha
    obtain ⟨h3, h4⟩ := decTo_best (hok _ hmem) _ i (Nat.le_refl _) hd2 j hj (by unfold hitB; rw [hqm, hop _ hhr]; rfl)
    rcases hbef with h5 | ⟨h5, h6⟩
    · exact h3 h5
    · have := h4 h5
      omega
end Go.Proofs.YtamlhapiehchoaaGreatDoor

set_option linter.unusedVariables false
set_option linter.unusedSimpArgs false
namespace Go.Proofs.YtamlhapiehchoaaGreatDoor
open Go.RowKit Go.Lib

set_option maxRecDepth 100000 in
set_option maxHeartbeats 4000000 in
theorem ask_any (w : World) (p : DPlan) (hp : DPlanFine w p) (i : Nat) (hi : i < 3) (d : List Nat) (hd : ∀ j, j < d.length → d.getD j 0 < 12) (hd1 : 1 ≤ d.length) (hdl : d.length ≤ 30) (at_ : Int) (hat : isMomB at_ = true) :
    Calls Tryz.prog 32 #[.agg p.cells.toArray, .string ⟨(ctxKey i).toArray⟩, .string ⟨(d.map signN).toArray⟩, .int .i64 at_] w (CtxsPost p (ordP p i) w) := by
  have HOP := Lib.hid (fun W (hW : Below w.heap.size w W) => open_p W p (hp.below hW) i hi)
  have HID := Lib.hid (fun W => isDialled_yes W ⟨(d.map signN).toArray⟩ d rfl hd hd1 hdl)
  have HMO := Lib.hid (fun W => isMoment_any at_ W)
  rw [hat] at HMO
  clear hp hd hd1 hdl hat
  generalize (⟨(d.map signN).toArray⟩ : ByteArray) = ds at HID ⊢
  generalize ctxKey i = ki at HOP ⊢
  have HPP : Hid (∀ W W' v, Below w.heap.size w W → W'.ownsRow W.heap.size 58 3 v (ordP p i).length (ctxRow p (ordP p i)) → Below w.heap.size w W' → CtxsPost p (ordP p i) w (.returned (.tuple #[v, .int .i64 0])) W') := fun W W' v hW h1 h2 => ⟨v, rfl, ⟨h1.1, h1.2.imp id (by rintro ⟨g, cap, cur, e, hb, rest⟩; exact ⟨g, cap, cur, e, Nat.le_trans hW.size hb, rest⟩)⟩, h2⟩
  generalize hpc : p.cells.toArray = pc at HOP ⊢
  have hpc2 : ∃ a b, pc = #[.slice p.ca p.cn p.cc, .slice p.ha p.hn p.hc] ∧ a = b := ⟨0, 0, by rw [← hpc]; rfl, rfl⟩
  obtain ⟨_, _, rfl, _⟩ := hpc2
  clear hpc
  generalize p.ca = ca at HOP ⊢
  generalize p.cn = cn at HOP ⊢
  generalize p.cc = cc at HOP ⊢
  generalize p.ha = ha at HOP ⊢
  generalize p.hn = hn at HOP ⊢
  generalize p.hc = hc at HOP ⊢
  have HB1 : Hid (Below w.heap.size w (w.alloc (.cells #[.slice ca cn cc, .slice ha hn hc] 29))) := ext_alloc (Below.refl _ _)
  go_enter Tryz.func32, Tryz.ntmps32
  go_upto_region 1 with (fail)
  have P1 : Hid (Blk (w.alloc (.cells #[.slice ca cn cc, .slice ha hn hc] 29)) w.heap.size [.slice ca cn cc, .slice ha hn hc] 29) := Blk.new w _ _
  generalize w.alloc (.cells #[.slice ca cn cc, .slice ha hn hc] 29) = w1 at P1 HB1 ⊢
  have p0 := P1.out.cell 0 rfl
  have p1 := P1.out.cell 1 rfl
  go_wp2_with fail
  refine (HOP.out _ HB1.out).mono ?_
  rintro e w2 ⟨v, rfl, ho, hb⟩
  have HB2 := Lib.hid (ext_trans HB1.out hb)
  have HF : Hid (∀ W', Below w2.heap.size w2 W' → CtxsPost p (ordP p i) w (.returned (.tuple #[v, .int .i64 0])) W') := fun W' hW => HPP.out w1 W' v HB1.out (own_more ho hW) (ext_trans HB2.out hW)
  clear ho hb HPP HOP P1 p0 p1
  go_wp2_with fail
  refine (HID.out _).mono ?_
  rintro e w3 ⟨rfl, hb3⟩
  have HB3 := Lib.hid hb3
  clear hb3
  go_wp2_with (go_at_call 59; refine (HMO.out _).mono ?_; rintro e w' ⟨rfl, rfl⟩)
  go_ret2
  exact HF.out _ HB3.out
set_option maxRecDepth 100000 in
set_option maxHeartbeats 4000000 in
theorem longer_any (w : World) (a : Option Addr) (n c : Nat) (r : DRule) (hr : ElsOk r.els) (h : PatAt w a n r.els.pat) (d : List Nat) (hd : ∀ j, j < d.length → d.getD j 0 < 12) (hdl : d.length ≤ 30) : Calls Tryz.prog 36 #[patVal a n c r.els.pat, .string ⟨(d.map signN).toArray⟩] w (BoolP (longerB r d) w) := by
  have hpo := Els.ok hr
  have hlen := h.len
  have h4 := hpo.len
  have hsz : (⟨(d.map signN).toArray⟩ : ByteArray).size = d.length := by show (d.map signN).toArray.size = _; simp
  have HBG := Lib.hid (fun W (hW : Below w.heap.size w W) => begins2_any W a n c r.els.pat (h.below hW) hpo ⟨(d.map signN).toArray⟩ d rfl hd (by omega))
  have HLB : Hid (longerB r d = (someB r.els.pat d && (decide (d.length < 30) && (decide (r.els.pat.tail ≠ 0) || decide (d.length < n))))) := by show _ = _; rw [hlen]; rfl
  have ht := hpo.tail
  clear h hr hpo hd
  generalize longerB r d = res at HLB ⊢
  generalize someB r.els.pat d = sb at HBG HLB
  generalize matchB r.els.pat d = mb at HBG
  generalize hpat : r.els.pat = pt at HBG HLB ht ⊢
  have hn4 : n ≤ 4 := by rw [hpat] at hlen h4; omega
  clear hpat hlen h4
  obtain ⟨sets, tail⟩ := pt
  unfold patVal at HBG ⊢
  simp only at HBG HLB ht ⊢
  generalize (⟨(d.map signN).toArray⟩ : ByteArray) = ds at HBG hsz ⊢
  generalize d.length = m at HLB hsz hdl
  have X1 : Hid (Blk (w.alloc (.cells #[.slice a n c, .int .u8 tail] 82)) w.heap.size [.slice a n c, .int .u8 tail] 82) := Blk.new w _ _
  have HB1 : Hid (Below w.heap.size w (w.alloc (.cells #[.slice a n c, .int .u8 tail] 82))) := ext_alloc (Below.refl _ _)
  go_enter Tryz.func36, Tryz.ntmps36
  go_upto_region 1 with (fail)
  generalize w.alloc (.cells #[.slice a n c, .int .u8 tail] 82) = w1 at X1 HB1 ⊢
  have x0 := X1.out.cell 0 rfl
  have x1 := X1.out.cell 1 rfl
  go_wp2_with fail
  refine (HBG.out _ HB1.out).mono ?_
  rintro e w2 ⟨rfl, hb⟩
  have HB2 := Lib.hid (ext_trans HB1.out hb)
  have X2 := Lib.hid (X1.out.below hb)
  clear x0 x1 X1 HB1 HBG hb
  have x0 := X2.out.cell 0 rfl
  have x1 := X2.out.cell 1 rfl
  cases sb
  · obtain rfl : res = false := HLB.out
    clear HLB
    go_wp2_with fail
    go_ret
    exact ⟨rfl, HB2.out⟩
  · by_cases hm : m < 30
    · have hge : ¬ ((m : Int) ≥ 30) := by omega
      have HLB2 : Hid (res = (decide (tail ≠ 0) || decide (m < n))) := by show _ = _; rw [HLB.out, decide_eq_true hm]; rfl
      clear HLB
      rcases ht with rfl | rfl | rfl
      · by_cases hmn : m < n
        · have hgt : (n : Int) > (m : Int) := by omega
          obtain rfl : res = true := by rw [HLB2.out, decide_eq_true hmn]; rfl
          go_wp2_with fail
          go_ret
          exact ⟨by simp [hmn, hsz], HB2.out⟩
        · have hgt : ¬ (n : Int) > (m : Int) := by omega
          obtain rfl : res = false := by rw [HLB2.out, decide_eq_false hmn]; rfl
          go_wp2_with fail
          go_ret
          exact ⟨by simp [hmn, hsz], HB2.out⟩
      · obtain rfl : res = true := HLB2.out
        have hn5 : (n : Int) + 1 ≤ 30 := by omega
        go_wp2_with fail
        go_ret
        exact ⟨by simp, HB2.out⟩
      · obtain rfl : res = true := HLB2.out
        have hn5 : (n : Int) ≤ 30 := by omega
        go_wp2_with fail
        go_ret
        exact ⟨by simp, HB2.out⟩
    · have hge : (m : Int) ≥ 30 := by omega
      obtain rfl : res = false := by rw [HLB.out, decide_eq_false hm]; rfl
      clear HLB
      go_wp2_with fail
      go_ret
      exact ⟨rfl, HB2.out⟩
end Go.Proofs.YtamlhapiehchoaaGreatDoor

set_option linter.unusedVariables false
set_option linter.unusedSimpArgs false
namespace Go.Proofs.YtamlhapiehchoaaGreatDoor
open Go.RowKit Go.Lib

theorem any_next {α : Type} (f : α → Bool) (l : List α) (z : α) (q : Nat) (hq : q < l.length) : (l.take (q + 1)).any f = ((l.take q).any f || f (l.getD q z)) := by
  rw [List.take_add_one, List.getElem?_eq_getElem hq, List.any_append, List.getD_eq_getElem?_getD, List.getElem?_eq_getElem hq]
  simp
/-- The contexts of a list lie in memory one behind the other. -/
theorem ctx_row {w : World} {base : Nat} {p : DPlan} {l : List Nat} {v : Value} (h : w.ownsRow base 58 3 v l.length (ctxRow p l)) : (l = [] ∧ v = .slice none 0 0) ∨ ∃ g c, v = .slice (some ⟨g, 0, none⟩) l.length c ∧ ∀ q, q < l.length → ∀ W, Below w.heap.size w W → W.cell? ⟨g, q * 3, none⟩ = some (.string ⟨(p.ctxs.getD (l.getD q 0) noDCtx).key.toArray⟩) ∧ W.cell? ⟨g, q * 3 + 1, none⟩ = some (.slice (p.ctxs.getD (l.getD q 0) noDCtx).ra (p.ctxs.getD (l.getD q 0) noDCtx).rn (p.ctxs.getD (l.getD q 0) noDCtx).rc) ∧ W.cell? ⟨g, q * 3 + 2, none⟩ = some (.slice (p.ctxs.getD (l.getD q 0) noDCtx).ia (p.ctxs.getD (l.getD q 0) noDCtx).inn (p.ctxs.getD (l.getD q 0) noDCtx).ic) := by
  rcases shape_own h with ⟨h0, rfl⟩ | ⟨g, c, rfl, h1, h2⟩
  · exact Or.inl ⟨List.eq_nil_of_length_eq_zero h0, rfl⟩
  · refine Or.inr ⟨g, c, rfl, fun q hq W hW => ?_⟩
    obtain ⟨a9, c9, e9, hc⟩ := Cells.of_own h (fun x hx => by obtain ⟨y, _, rfl⟩ := List.mem_map.1 hx; rfl) (by decide)
    obtain ⟨b, off, e, hb, hcc⟩ := hc.at1 (f := fun k => (p.ctxs.getD k noDCtx).cells) 0 (by omega)
    injection e9 with e1
    rw [← e1] at e
    injection e with e
    injection e with e2 e3
    subst e2 e3
    have q0 := hcc q hq 0 (by decide)
    have q1 := hcc q hq 1 (by decide)
    have q2 := hcc q hq 2 (by decide)
    rw [Nat.zero_add] at q0 q1 q2
    exact ⟨(hW.cell (p := ⟨g, q * 3, none⟩) hb).trans q0, (hW.cell (p := ⟨g, q * 3 + 1, none⟩) hb).trans q1, (hW.cell (p := ⟨g, q * 3 + 2, none⟩) hb).trans q2⟩
def nowB (cs : List DCtx) (op : DRule → Bool) (d : List Nat) (l : List Nat) : Bool := l.any fun k => (decIn (cs.getD k noDCtx).rules op d).isSome
def WaitPost (a b : Bool) (w : World) (e : Ending) (w' : World) : Prop := e = .returned (.tuple #[.bool a, .bool b, .int .i64 0]) ∧ Below w.heap.size w w'
theorem opt_ge (o : Option Nat) : decide (0 ≤ optI o) = o.isSome := by cases o <;> simp [optI]
set_option maxRecDepth 100000 in
set_option maxHeartbeats 8000000 in
theorem waits_any (w : World) (p : DPlan) (hp : DPlanFine w p) (i : Nat) (hi : i < 3) (d : List Nat) (hd : ∀ j, j < d.length → d.getD j 0 < 12) (hd1 : 1 ≤ d.length) (hdl : d.length ≤ 30) (at_ : Int) (hat : isMomB at_ = true) (a0 : 0 ≤ at_) (a1 : at_ ≤ 345686400000) :
    Calls Tryz.prog 9 #[.agg p.cells.toArray, .string ⟨(ctxKey i).toArray⟩, .string ⟨(d.map signN).toArray⟩, .int .i64 at_] w (WaitPost (nowB p.ctxs (opR p at_) d (ordP p i)) (moreB p.ctxs (opR p at_) d (ordP p i)) w) := by
  have HAS := Lib.hid (fun W (hW : Below w.heap.size w W) => ask_any W p (hp.below hW) i hi d hd hd1 hdl at_ hat)
  have HDC := Lib.hid (fun k (hk : k < 3) W (hW : Below w.heap.size w W) => decides_any W p (hp.below hW) k hk d hd hdl at_ a0 a1)
  have HCN : Hid (∀ W, Below w.heap.size w W → ∀ s, s ∈ ([[], [104, 97], [104, 98]] : List (List UInt8)) → Calls Tryz.prog 35 #[.agg p.cells.toArray, .string ⟨s.toArray⟩, .int .i64 at_] W (BoolP (openR p.hrs at_ s) W)) := fun W hW s hs => counts_any W p (hp.below hW) s hs at_ a0 a1
  have HOP : Hid (∀ r, opR p at_ r = openR p.hrs at_ r.hours) := fun r => rfl
  have HLG := Lib.hid (fun W a n c (r : DRule) (hr : ElsOk r.els) (h : PatAt W a n r.els.pat) => longer_any W a n c r hr h d hd hdl)
  have HRR : Hid (∀ k : Nat, k < 3 → ∀ j, j < (p.ctxs.getD k noDCtx).rn → (p.ctxs.getD k noDCtx).rn = (p.ctxs.getD k noDCtx).rules.length ∧ DRuleOk ((p.ctxs.getD k noDCtx).rules.getD j noDRule) ∧ ∃ b off, (p.ctxs.getD k noDCtx).ra = some ⟨b, off, none⟩ ∧ ∀ W, Below w.heap.size w W → W.rangeAt b (off + j * 6) (((p.ctxs.getD k noDCtx).rules.getD j noDRule).cells)) := fun k hk j hj => by
    have hr := (hp.each k hk).rules
    obtain ⟨b, off, e, hbl, hcl⟩ := hr.at (by omega)
    obtain ⟨q0, q1, q2, q3, q4, q5⟩ := hcl j hj
    exact ⟨hr.len, hr.each j (by have := hr.len; omega), b, off, e, fun W hW => rule_range ((hW.cell (p := ⟨b, off + j * 6, none⟩) hbl).trans q0) ((hW.cell (p := ⟨b, off + j * 6 + 1, none⟩) hbl).trans q1) ((hW.cell (p := ⟨b, off + j * 6 + 2, none⟩) hbl).trans q2) ((hW.cell (p := ⟨b, off + j * 6 + 3, none⟩) hbl).trans q3) ((hW.cell (p := ⟨b, off + j * 6 + 4, none⟩) hbl).trans q4) ((hW.cell (p := ⟨b, off + j * 6 + 5, none⟩) hbl).trans q5)⟩
  have HRL : Hid (∀ k : Nat, k < 3 → (p.ctxs.getD k noDCtx).rn = (p.ctxs.getD k noDCtx).rules.length ∧ (p.ctxs.getD k noDCtx).rn ≤ 10) := fun k hk => ⟨(hp.each k hk).rules.len, (hp.each k hk).rules.few⟩
  have HL3 : Hid (∀ x ∈ ordP p i, x < 3) := (ordP_ok hp hi).1
  have hl7 := (ordP_ok hp hi).2
  clear hp hd hd1 hdl hat a0 a1
  unfold CtxsPost at HAS
  generalize hop : opR p at_ = op at HOP HDC ⊢
  clear hop
  have HCR : Hid (∀ (w : World) (base : Nat) (v : Value), w.ownsRow base 58 3 v (ordP p i).length (ctxRow p (ordP p i)) → _) := fun w base v h => ctx_row h
  generalize ctxRow p (ordP p i) = cr at HAS HCR
  generalize ordP p i = l at HAS HL3 hl7 HCR ⊢
  obtain ⟨ca, cn, cc, ctxs, ha, hn, hcp, hrs⟩ := p
  simp only at HDC HOP HRR HRL HCR ⊢
  have HAS2 : Hid (∀ W, Below w.heap.size w W → Calls Tryz.prog 32 #[.agg #[.slice ca cn cc, .slice ha hn hcp], .string ⟨(ctxKey i).toArray⟩, .string ⟨(d.map signN).toArray⟩, .int .i64 at_] W fun e w' => ∃ v, e = .returned (.tuple #[v, .int .i64 0]) ∧ w'.ownsRow W.heap.size 58 3 v l.length cr ∧ Below W.heap.size W w') := HAS.out
  have HDC2 : Hid (∀ k : Nat, k < 3 → ∀ W, Below w.heap.size w W → Calls Tryz.prog 33 #[.agg #[.slice ca cn cc, .slice ha hn hcp], .agg (ctxs.getD k noDCtx).cells.toArray, .string ⟨(d.map signN).toArray⟩, .int .i64 at_] W (IntP (optI (decIn (ctxs.getD k noDCtx).rules op d)) W)) := HDC.out
  have HCN2 : Hid (∀ W, Below w.heap.size w W → ∀ s, s ∈ ([[], [104, 97], [104, 98]] : List (List UInt8)) → Calls Tryz.prog 35 #[.agg #[.slice ca cn cc, .slice ha hn hcp], .string ⟨s.toArray⟩, .int .i64 at_] W (BoolP (openR hrs at_ s) W)) := HCN.out
  clear HAS HDC HCN
  have HLG2 : Hid (∀ W (a : Option Addr) n c (r : DRule) (hr : ElsOk r.els) (h : PatAt W a n r.els.pat), Calls Tryz.prog 36 #[patVal a n c r.els.pat, .string ⟨(d.map signN).toArray⟩] W (BoolP (longerB r d) W)) := HLG.out
  clear HLG
  generalize (⟨(d.map signN).toArray⟩ : ByteArray) = ds at HAS2 HDC2 HLG2 ⊢
  generalize ctxKey i = ki at HAS2 ⊢
  show Calls Tryz.prog 9 #[.agg #[.slice ca cn cc, .slice ha hn hcp], .string ⟨ki.toArray⟩, .string ds, .int .i64 at_] w (WaitPost (nowB ctxs op d l) (moreB ctxs op d l) w)
  have P1 : Hid (Blk (w.alloc (.cells #[.slice ca cn cc, .slice ha hn hcp] 29)) w.heap.size [.slice ca cn cc, .slice ha hn hcp] 29) := Blk.new w _ _
  have HB1 : Hid (Below w.heap.size w (w.alloc (.cells #[.slice ca cn cc, .slice ha hn hcp] 29))) := ext_alloc (Below.refl _ _)
  go_enter Tryz.func9, Tryz.ntmps9
  go_upto_region 1 with (fail)
  generalize (w.alloc (.cells #[.slice ca cn cc, .slice ha hn hcp] 29)) = w1 at P1 HB1 ⊢
  generalize w.heap.size = P at P1 ⊢
  have p0 := P1.out.cell 0 rfl
  have p1 := P1.out.cell 1 rfl
  as_aux_lemma =>
    go_wp2_with fail
    refine (HAS2.out _ HB1.out).mono ?_
    rintro e w2 ⟨v, rfl, ho, hb⟩
    have HB2 := Lib.hid (ext_trans HB1.out hb)
    have P2 := Lib.hid (P1.out.below hb)
    have hcr := HCR.out w2 _ v ho
    obtain ⟨va, vc, rfl, hrow⟩ : ∃ va vc, v = .slice va l.length vc ∧ (0 < l.length → ∃ g, va = some ⟨g, 0, none⟩ ∧ ∀ q, q < l.length → ∀ W, Below w2.heap.size w2 W → W.cell? ⟨g, q * 3, none⟩ = some (.string ⟨(ctxs.getD (l.getD q 0) noDCtx).key.toArray⟩) ∧ W.cell? ⟨g, q * 3 + 1, none⟩ = some (.slice (ctxs.getD (l.getD q 0) noDCtx).ra (ctxs.getD (l.getD q 0) noDCtx).rn (ctxs.getD (l.getD q 0) noDCtx).rc) ∧ W.cell? ⟨g, q * 3 + 2, none⟩ = some (.slice (ctxs.getD (l.getD q 0) noDCtx).ia (ctxs.getD (l.getD q 0) noDCtx).inn (ctxs.getD (l.getD q 0) noDCtx).ic)) := by
      rcases hcr with ⟨h0, rfl⟩ | ⟨g, c, rfl, h⟩
      · exact ⟨none, 0, by rw [h0]; rfl, fun h => by rw [h0] at h; cases h⟩
      · exact ⟨_, c, rfl, fun _ => ⟨g, rfl, h⟩⟩
    have HROW := Lib.hid hrow
    clear ho hb HB1 P1 p0 p1 HAS2 HCR hcr hrow
    as_aux_lemma =>
      go_wp2_with fail
      go_loopw [13, 14, 34] (fun vn vm it wr => ∃ q : Nat, q ≤ l.length ∧ it = .int .i64 q ∧ vn = .bool (nowB ctxs op d (l.take q)) ∧ vm = .bool (moreB ctxs op d (l.take q)) ∧ Hid (Below w2.heap.size w2 wr)) (fun _ _ it _ => l.length - (intOf it).toNat)
      case atStart => exact ⟨0, Nat.zero_le _, rfl, rfl, rfl, Below.refl _ _⟩
      case round =>
        obtain ⟨q, hq, rfl, rfl, rfl, HQ⟩ := hrel
        by_cases hlq : q < l.length
        case neg =>
          have hqn : ¬ (q : Int) < (l.length : Int) := by omega
          rw [List.take_of_length_le (by omega)]
          have HE : Hid (WaitPost (nowB ctxs op d l) (moreB ctxs op d l) w (.returned (.tuple #[.bool (nowB ctxs op d l), .bool (moreB ctxs op d l), .int .i64 0])) wr) := ⟨rfl, ext_trans HB2.out HQ.out⟩
          clear HROW HQ HB2 P2 HRR HRL HDC2 HCN2 HOP HL3 HLG2
          as_aux_lemma =>
            go_wp2_with fail
            go_ret3
            exact HE.out
        obtain ⟨g, rfl, hg⟩ := HROW.out (by omega)
        obtain ⟨c0, c1, c2⟩ := hg q hlq wr HQ.out
        have hk3 : l.getD q 0 < 3 := HL3.out _ (by rw [List.getD_eq_getElem?_getD, List.getElem?_eq_getElem hlq]; exact List.getElem_mem _)
        have HNX : Hid (nowB ctxs op d (l.take (q + 1)) = (nowB ctxs op d (l.take q) || (decIn (ctxs.getD (l.getD q 0) noDCtx).rules op d).isSome)) := any_next _ l 0 q hlq
        have HMX : Hid (moreB ctxs op d (l.take (q + 1)) = (moreB ctxs op d (l.take q) || ((ctxs.getD (l.getD q 0) noDCtx).rules.any fun r => op r && longerB r d))) := any_next (fun k => (ctxs.getD k noDCtx).rules.any fun r => op r && longerB r d) l 0 q hlq
        generalize l.getD q 0 = k at c0 c1 c2 hk3 HNX HMX
        have HDK := Lib.hid (HDC2.out k hk3)
        have HRK := Lib.hid (HRR.out k hk3)
        obtain ⟨hrn, hrf⟩ := HRL.out k hk3
        generalize ctxs.getD k noDCtx = c at c0 c1 c2 HNX HMX HDK HRK hrn hrf
        obtain ⟨key, ra, rn, rc, rules, ia, inn, ic, incs⟩ := c
        simp only at c0 c1 c2 HNX HMX HRK hrn hrf
        have HDK2 : Hid (∀ W, Below w.heap.size w W → Calls Tryz.prog 33 #[.agg #[.slice ca cn cc, .slice ha hn hcp], .agg #[.string ⟨key.toArray⟩, .slice ra rn rc, .slice ia inn ic], .string ds, .int .i64 at_] W (IntP (optI (decIn rules op d)) W)) := HDK.out
        have HRN := Lib.hid hrn
        have hq0 : ¬ ((q : Int) < 0) := by omega
        have hql : (q : Int) < (l.length : Int) := by omega
        generalize nowB ctxs op d (l.take q) = nq at HNX ⊢
        generalize moreB ctxs op d (l.take q) = mq at HMX ⊢
        obtain ⟨nq2, hnq2⟩ : ∃ x, x = nowB ctxs op d (l.take (q + 1)) := ⟨_, rfl⟩
        obtain ⟨mq2, hmq2⟩ : ∃ x, x = moreB ctxs op d (l.take (q + 1)) := ⟨_, rfl⟩
        rw [← hnq2] at HNX
        rw [← hmq2] at HMX
        have HNE := Lib.hid hnq2
        have HME2 := Lib.hid hmq2
        clear hnq2 hmq2
        have hA : Below wr.heap.size wr (wr.alloc (.cells #[.string ⟨key.toArray⟩, .slice ra rn rc, .slice ia inn ic] 58)) := ext_alloc (Below.refl _ _)
        have C3 : Hid (Blk (wr.alloc (.cells #[.string ⟨key.toArray⟩, .slice ra rn rc, .slice ia inn ic] 58)) wr.heap.size [.string ⟨key.toArray⟩, .slice ra rn rc, .slice ia inn ic] 58) := Blk.new _ _ _
        have HQ3 := Lib.hid (ext_trans HQ.out hA)
        clear hg hrn hA HQ HDK HRR HRL HDC2 HL3
        have HB3 := Lib.hid (ext_trans HB2.out HQ3.out)
        have P3 := Lib.hid (P2.out.below HQ3.out)
        as_aux_lemma =>
          go_upto_region 8 with (fail)
          clear c0 c1 c2
          generalize wr.alloc (.cells #[.string ⟨key.toArray⟩, .slice ra rn rc, .slice ia inn ic] 58) = w3 at C3 HQ3 HB3 P3 ⊢
          generalize wr.heap.size = C at C3 ⊢
          have p0 := P3.out.cell 0 rfl
          have p1 := P3.out.cell 1 rfl
          have c0 := C3.out.cell 0 rfl
          have c1 := C3.out.cell 1 rfl
          have c2 := C3.out.cell 2 rfl
          go_cut [13] (fun v wx => v = .bool nq2 ∧ Hid (Below w3.heap.size w3 wx))
          case first =>
            have HDD := Lib.hid (HDK2.out w3 HB3.out)
            have hog := opt_ge (decIn rules op d)
            generalize optI (decIn rules op d) = oi at HDD hog
            generalize (decIn rules op d).isSome = os at HNX hog
            cases nq
            · obtain rfl : nq2 = os := HNX.out
              have hog2 : decide (oi ≥ 0) = nq2 := hog
              clear hog HNX
              as_aux_lemma =>
                go_wp2_with fail
                refine HDD.out.mono ?_
                rintro e w4 ⟨rfl, hb⟩
                have HB4 := Lib.hid hb
                clear hb p0 p1 c0 c1 c2
                go_wp2_with fail
                go_meet
                exact ⟨by first | rfl | (rw [← hog2]), HB4.out⟩
            · obtain rfl : nq2 = true := HNX.out
              clear HNX
              as_aux_lemma =>
                go_wp2_with fail
                go_meet
                exact ⟨rfl, Below.refl _ _⟩
          case rest =>
            obtain ⟨rfl, HB4⟩ := hcut
            obtain ⟨w4, rfl⟩ : ∃ x : World, x = wc := ⟨_, rfl⟩
            have HB5 := Lib.hid (ext_trans HB3.out HB4.out)
            have HQ5 := Lib.hid (ext_trans HQ3.out HB4.out)
            have P5 := Lib.hid (P3.out.below HB4.out)
            have C5 := Lib.hid (C3.out.below HB4.out)
            clear p0 p1 c0 c1 c2 HB4 HB3 HQ3 P3 C3 HDK2 HNX
            have c1 := C5.out.cell 1 rfl
            as_aux_lemma =>
              go_wp2_with fail
              go_loopw [14, 50] (fun vm it wr => ∃ j : Nat, j ≤ rn ∧ it = .int .i64 j ∧ vm = .bool (mq || (rules.take j).any fun r => op r && longerB r d) ∧ Hid (Below w4.heap.size w4 wr)) (fun _ it _ => rn - (intOf it).toNat)
              case atStart => exact ⟨0, Nat.zero_le _, rfl, by simp, Below.refl _ _⟩
              case round =>
                obtain ⟨j, hj, rfl, rfl, HJ⟩ := hrel
                clear c1
                by_cases hlj : j < rn
                case neg =>
                  have hjn : ¬ (j : Int) < (rn : Int) := by omega
                  have HMM : Hid ((mq || (rules.take j).any fun r => op r && longerB r d) = mq2) := by show _ = _; rw [HMX.out, List.take_of_length_le (by have := HRN.out; omega)]
                  have HQ6 := Lib.hid (ext_trans HQ5.out HJ.out)
                  rw [HMM.out]
                  clear HMX HMM HRK
                  as_aux_lemma =>
                    go_wp2_with fail
                    go_roundw
                    case rel => exact ⟨q + 1, by omega, by go_num, by rw [HNE.out], by rw [HME2.out], HQ6⟩
                    case measure => simp [intOf]; omega
                obtain ⟨hrnl, hok, b0, off, rfl, hrg⟩ := HRK.out j hlj
                clear hrnl
                have HRG0 := hrg wr (ext_trans HB5.out HJ.out)
                have HJX : Hid ((mq || (rules.take (j + 1)).any fun r => op r && longerB r d) = ((mq || (rules.take j).any fun r => op r && longerB r d) || (op (rules.getD j noDRule) && longerB (rules.getD j noDRule) d))) := by show _ = _; rw [any_next _ rules noDRule j (by have := HRN.out; omega), Bool.or_assoc]
                obtain ⟨hels, hstrip, hpre, hto, hnamed, hbare, hhours⟩ := hok
                have HOJ : Hid (op (rules.getD j noDRule) = openR hrs at_ (rules.getD j noDRule).hours) := HOP.out _
                have HHX := Lib.hid (fun W hW => HCN2.out W hW _ hhours)
                have HRD : Hid (∀ W, Calls Tryz.prog 34 #[.string ⟨(rules.getD j noDRule).els.str.toArray⟩] W (ReadPat (rules.getD j noDRule).els.pat W)) := fun W => read_any W _ hels _ rfl
                have HLJ : Hid (∀ W (a : Option Addr) n c (h : PatAt W a n (rules.getD j noDRule).els.pat), Calls Tryz.prog 36 #[patVal a n c (rules.getD j noDRule).els.pat, .string ds] W (BoolP (longerB (rules.getD j noDRule) d) W)) := fun W a n c h => HLG2.out W a n c _ hels h
                clear hels hstrip hpre hto hnamed hbare hhours hrg
                unfold DRule.cells at HRG0
                generalize longerB (rules.getD j noDRule) d = lb at HJX HLJ
                generalize op (rules.getD j noDRule) = oh at HJX HOJ
                generalize (mq || (rules.take j).any fun r => op r && longerB r d) = mj at HJX ⊢
                obtain ⟨mj2, hmj2⟩ : ∃ x, x = (mq || (rules.take (j + 1)).any fun r => op r && longerB r d) := ⟨_, rfl⟩
                rw [← hmj2] at HJX
                have HME := Lib.hid hmj2.symm
                clear hmj2
                generalize rules.getD j noDRule = rl at HRG0 HOJ HHX HRD HLJ
                obtain ⟨rel, rn_, rp, rt, rm, rh⟩ := rl
                simp only at HRG0 HOJ HHX HRD HLJ
                rw [← HOJ.out] at HHX
                generalize rel.str = rs at HRG0 HRD
                generalize rel.pat = pt at HRD HLJ
                have HRG := Lib.hid HRG0
                clear HRG0 HOJ
                have hj0 : ¬ ((j : Int) < 0) := by omega
                have hjn : (j : Int) < (rn : Int) := by omega
                have hz0 := Blk.new wr [.string ⟨#[]⟩, .int .i64 0, .string ⟨#[]⟩, .int .i64 0, .string ⟨#[]⟩, .string ⟨#[]⟩] 63
                have HTH : Hid (World.there (wr.alloc (.cells #[.string ⟨#[]⟩, .int .i64 0, .string ⟨#[]⟩, .int .i64 0, .string ⟨#[]⟩, .string ⟨#[]⟩] 63)) wr.heap.size 0 6) := hz0.th 6 (Nat.le_refl 6)
                have hA : Below wr.heap.size wr (wr.alloc (.cells #[.string ⟨#[]⟩, .int .i64 0, .string ⟨#[]⟩, .int .i64 0, .string ⟨#[]⟩, .string ⟨#[]⟩] 63)) := ext_alloc (Below.refl _ _)
                have hV : Below wr.heap.size wr (World.setCells (wr.alloc (.cells #[.string ⟨#[]⟩, .int .i64 0, .string ⟨#[]⟩, .int .i64 0, .string ⟨#[]⟩, .string ⟨#[]⟩] 63)) wr.heap.size 0 [.string ⟨rs.toArray⟩, .int .i64 rn_, .string ⟨rp.toArray⟩, .int .i64 rt, .string ⟨rm.toArray⟩, .string ⟨rh.toArray⟩]) := belowW_put (Nat.le_refl _) hA _
                have R6 : Hid (Blk (World.setCells (wr.alloc (.cells #[.string ⟨#[]⟩, .int .i64 0, .string ⟨#[]⟩, .int .i64 0, .string ⟨#[]⟩, .string ⟨#[]⟩] 63)) wr.heap.size 0 [.string ⟨rs.toArray⟩, .int .i64 rn_, .string ⟨rp.toArray⟩, .int .i64 rt, .string ⟨rm.toArray⟩, .string ⟨rh.toArray⟩]) wr.heap.size [.string ⟨rs.toArray⟩, .int .i64 rn_, .string ⟨rp.toArray⟩, .int .i64 rt, .string ⟨rm.toArray⟩, .string ⟨rh.toArray⟩] 63) := hz0.put6 (.string ⟨rs.toArray⟩) (.int .i64 rn_) (.string ⟨rp.toArray⟩) (.int .i64 rt) (.string ⟨rm.toArray⟩) (.string ⟨rh.toArray⟩)
                have HJ6 := Lib.hid (ext_trans HJ.out hV)
                clear hz0 hA hV HJ
                as_aux_lemma =>
                  go_wp2_with (first | (refine wpList_load_mid rfl 63 (.tmp 52) rfl b0 (off + j * 6) rfl [.string ⟨rs.toArray⟩, .int .i64 rn_, .string ⟨rp.toArray⟩, .int .i64 rt, .string ⟨rm.toArray⟩, .string ⟨rh.toArray⟩] _ HRG.out Tryz.underlying63 rfl Tryz.druleSz ?_) | (refine wpList_store_mid rfl 63 (.tmp 18) (.tmp 53) rfl wr.heap.size 0 #[.string ⟨rs.toArray⟩, .int .i64 rn_, .string ⟨rp.toArray⟩, .int .i64 rt, .string ⟨rm.toArray⟩, .string ⟨rh.toArray⟩] rfl rfl HTH.out Tryz.druleSz (by simp [Value.oneCell']) ?_; generalize (World.setCells (wr.alloc (.cells #[.string ⟨#[]⟩, .int .i64 0, .string ⟨#[]⟩, .int .i64 0, .string ⟨#[]⟩, .string ⟨#[]⟩] 63)) wr.heap.size 0 [.string ⟨rs.toArray⟩, .int .i64 rn_, .string ⟨rp.toArray⟩, .int .i64 rt, .string ⟨rm.toArray⟩, .string ⟨rh.toArray⟩]) = w6 at R6 HJ6 ⊢; clear HTH HRG; refine Hid.out ?_))
                  refine Lib.hid ?_
                  generalize wr.heap.size = R at R6 ⊢
                  have r0 := R6.out.cell 0 rfl
                  as_aux_lemma =>
                    go_wp2_with fail
                    refine (HRD.out _).mono ?_
                    rintro e w7 ⟨xa, xn, xc, rfl, hpx, hb⟩
                    have HJ7 := Lib.hid (ext_trans HJ6.out hb)
                    have R7 := Lib.hid (R6.out.below hb)
                    have hA : Below w7.heap.size w7 (w7.alloc (.cells #[.slice xa xn xc, .int .u8 pt.tail] 82)) := ext_alloc (Below.refl _ _)
                    have X8 : Hid (Blk (w7.alloc (.cells #[.slice xa xn xc, .int .u8 pt.tail] 82)) w7.heap.size [.slice xa xn xc, .int .u8 pt.tail] 82) := Blk.new w7 _ _
                    have HJ8 := Lib.hid (ext_trans HJ7.out hA)
                    have R8 := Lib.hid (R7.out.below hA)
                    have HPX8 := Lib.hid (hpx.below hA)
                    clear hb hpx r0 hA HJ6 HJ7 R6 R7 HRD
                    as_aux_lemma =>
                      unfold patVal
                      go_upto_region 13 with (fail)
                      generalize w7.alloc (.cells #[.slice xa xn xc, .int .u8 pt.tail] 82) = w8 at X8 HJ8 R8 HPX8 ⊢
                      generalize w7.heap.size = X at X8 ⊢
                      have HB8 := Lib.hid (ext_trans HB5.out HJ8.out)
                      have P8 := Lib.hid (P5.out.below HJ8.out)
                      cases mj
                      case true =>
                        obtain rfl : mj2 = true := by rw [HJX.out]; simp
                        clear HJX HLJ HHX X8 R8 HPX8
                        as_aux_lemma =>
                          go_wp2_with fail
                          go_roundw
                          case rel => exact ⟨j + 1, by omega, by go_num, by rw [HME.out], HJ8⟩
                          case measure => simp [intOf]; omega
                      have p0 := P8.out.cell 0 rfl
                      have p1 := P8.out.cell 1 rfl
                      have r5 := R8.out.cell 5 rfl
                      have HCT := Lib.hid (HHX.out w8 HB8.out)
                      as_aux_lemma =>
                        go_wp2_with fail
                        refine HCT.out.mono ?_
                        rintro e w9 ⟨rfl, hb⟩
                        have HJ9 := Lib.hid (ext_trans HJ8.out hb)
                        have X9 := Lib.hid (X8.out.below hb)
                        have HPX9 := Lib.hid (HPX8.out.below hb)
                        clear hb p0 p1 r5 HCT HHX X8 HPX8 HJ8
                        cases oh
                        case false =>
                          obtain rfl : mj2 = false := by rw [HJX.out]; simp
                          clear HJX HLJ X9 HPX9
                          as_aux_lemma =>
                            go_wp2_with fail
                            go_roundw
                            case rel => exact ⟨j + 1, by omega, by go_num, by rw [HME.out], HJ9⟩
                            case measure => simp [intOf]; omega
                        obtain rfl : mj2 = lb := by rw [HJX.out]; simp
                        have x0 := X9.out.cell 0 rfl
                        have x1 := X9.out.cell 1 rfl
                        have HLC := Lib.hid (HLJ.out w9 xa xn xc HPX9.out)
                        unfold patVal at HLC
                        clear HJX HLJ
                        as_aux_lemma =>
                          go_wp2_with fail
                          refine HLC.out.mono ?_
                          rintro e w10 ⟨rfl, hb⟩
                          have HJ10 := Lib.hid (ext_trans HJ9.out hb)
                          clear hb x0 x1
                          go_wp2_with fail
                          go_roundw
                          case rel => exact ⟨j + 1, by omega, by go_num, by rw [HME.out], HJ10⟩
                          case measure => simp [intOf]; omega
end Go.Proofs.YtamlhapiehchoaaGreatDoor

set_option linter.unusedVariables false
set_option linter.unusedSimpArgs false
namespace Go.Proofs.YtamlhapiehchoaaGreatDoor
open Go.RowKit Go.Lib

/-- How many rules the first contexts of a list have. -/
def cntR (cs : List DCtx) (L : List Nat) : Nat → Nat
  | 0 => 0
  | a + 1 => cntR cs L a + (cs.getD (L.getD a 0) noDCtx).rules.length
theorem cntR_mono (cs : List DCtx) (L : List Nat) : ∀ (b a : Nat), a ≤ b → cntR cs L a ≤ cntR cs L b
  | 0, a, h => by obtain rfl : a = 0 := by omega
                  exact Nat.le_refl _
  | b + 1, a, h => by
    by_cases e : a = b + 1
    · subst e; exact Nat.le_refl _
    · have := cntR_mono cs L b a (by omega)
      show _ ≤ cntR cs L b + _
      omega
def EarlierOf (cs : List DCtx) (L : List Nat) (a : Nat) (q : Pat) : Prop := ∃ b, b < a ∧ ∃ j, j < (cs.getD (L.getD b 0) noDCtx).rules.length ∧ ((cs.getD (L.getD b 0) noDCtx).rules.getD j noDRule).hours = [] ∧ q = ((cs.getD (L.getD b 0) noDCtx).rules.getD j noDRule).els.pat
theorem EarlierOf.mono {cs : List DCtx} {L : List Nat} {a b : Nat} {q : Pat} (h : EarlierOf cs L a q) (hab : a ≤ b) : EarlierOf cs L b q := by
  obtain ⟨c, hc, r⟩ := h
  exact ⟨c, by omega, r⟩
def HidPost (cs : List DCtx) (L : List Nat) (w : World) (e : Ending) (w' : World) : Prop :=
  (e = .returned (.tuple #[.slice none 0 0, .int .i64 2]) ∧ Below w.heap.size w w') ∨
  (∃ v hs base, e = .returned (.tuple #[v, .int .i64 0]) ∧ HRow cs w' base v hs ∧ (∀ x ∈ hs, HidAt cs L x.1 x.2) ∧ hs.length ≤ 12 ∧ w.heap.size ≤ base ∧ Below w.heap.size w w')
theorem bl_hdw0 (e : Operand → Value) (he : ∀ v, e (.const v) = v) (o : Oper) (w : World) (i0 : Nat) (p0_0 : ByteArray) (z0_1 : Int) (z0_2 : Int) (p0_3 : ByteArray) (p0_4 : ByteArray) (ho : o.op = .buildSlice 51 1 #[(0, .tmp i0)]) (h0 : e (.tmp i0) = .agg #[.string p0_0, .int .i64 z0_1, .int .i64 z0_2, .string p0_3, .string p0_4]) :
   (execOp e o).run Tryz.prog w = .ok (.value (.slice (some ⟨w.heap.size, 0, none⟩) 1 1)) (w.alloc (.cells #[.string p0_0, .int .i64 z0_1, .int .i64 z0_2, .string p0_3, .string p0_4] 37)) := by
  unfold execOp
  rw [ho]
  simp only [List.map_toArray, List.map_cons, List.map_nil, h0]
  kernel_rfl
set_option maxRecDepth 100000 in
set_option maxHeartbeats 16000000 in
theorem hidden_any (w : World) (p : DPlan) (hp : DPlanFine w p) (i0_ : Nat) (hi0 : i0_ < 3) :
    Calls Tryz.prog 17 #[.agg p.cells.toArray, .string ⟨(ctxKey i0_).toArray⟩] w (HidPost p.ctxs (ordP p i0_) w) := by
  obtain ⟨i1, hi, hz0, hz1, hz2⟩ := info_parts infoPatV
  obtain ⟨i2, hj, hy0, hy1, hy2⟩ := info_parts infoHitV
  have HOP := Lib.hid (fun W (hW : Below w.heap.size w W) => open_p W p (hp.below hW) i0_ hi0)
  have HRR : Hid (∀ k : Nat, k < 3 → ∃ b off, (0 < (p.ctxs.getD k noDCtx).rn → (p.ctxs.getD k noDCtx).ra = some ⟨b, off, none⟩) ∧ ∀ j, j < (p.ctxs.getD k noDCtx).rn → DRuleOk ((p.ctxs.getD k noDCtx).rules.getD j noDRule) ∧ ∀ W, Below w.heap.size w W → W.rangeAt b (off + j * 6) (((p.ctxs.getD k noDCtx).rules.getD j noDRule).cells)) := fun k hk => by
    have hr := (hp.each k hk).rules
    by_cases h0 : 0 < (p.ctxs.getD k noDCtx).rn
    · obtain ⟨b, off, e, hbl, hcl⟩ := hr.at h0
      refine ⟨b, off, fun _ => e, fun j hj => ?_⟩
      obtain ⟨q0, q1, q2, q3, q4, q5⟩ := hcl j hj
      exact ⟨hr.each j (by have := hr.len; omega), fun W hW => rule_range ((hW.cell (p := ⟨b, off + j * 6, none⟩) hbl).trans q0) ((hW.cell (p := ⟨b, off + j * 6 + 1, none⟩) hbl).trans q1) ((hW.cell (p := ⟨b, off + j * 6 + 2, none⟩) hbl).trans q2) ((hW.cell (p := ⟨b, off + j * 6 + 3, none⟩) hbl).trans q3) ((hW.cell (p := ⟨b, off + j * 6 + 4, none⟩) hbl).trans q4) ((hW.cell (p := ⟨b, off + j * 6 + 5, none⟩) hbl).trans q5)⟩
    · exact ⟨0, 0, fun h => absurd h h0, fun j hj => absurd hj (by omega)⟩
  have HRL : Hid (∀ k : Nat, k < 3 → (p.ctxs.getD k noDCtx).rn = (p.ctxs.getD k noDCtx).rules.length ∧ (p.ctxs.getD k noDCtx).rn ≤ 10) := fun k hk => ⟨(hp.each k hk).rules.len, (hp.each k hk).rules.few⟩
  have HL3 : Hid (∀ x ∈ ordP p i0_, x < 3) := (ordP_ok hp hi0).1
  have hl7 := (ordP_ok hp hi0).2
  clear hp
  unfold CtxsPost at HOP
  have HCR : Hid (∀ (w : World) (base : Nat) (v : Value), w.ownsRow base 58 3 v (ordP p i0_).length (ctxRow p (ordP p i0_)) → _) := fun w base v h => ctx_row h
  generalize ctxRow p (ordP p i0_) = cr at HOP HCR
  generalize ordP p i0_ = l at HOP HL3 hl7 HCR ⊢
  obtain ⟨ca, cn, cc, ctxs, ha, hn, hcp, hrs⟩ := p
  simp only at HRR HRL HCR ⊢
  have HOP2 : Hid (∀ W, Below w.heap.size w W → Calls Tryz.prog 48 #[.agg #[.slice ca cn cc, .slice ha hn hcp], .string ⟨(ctxKey i0_).toArray⟩] W fun e w' => ∃ v, e = .returned (.tuple #[v, .int .i64 0]) ∧ w'.ownsRow W.heap.size 58 3 v l.length cr ∧ Below W.heap.size W w') := HOP.out
  clear HOP
  generalize ctxKey i0_ = ki at HOP2 ⊢
  show Calls Tryz.prog 17 #[.agg #[.slice ca cn cc, .slice ha hn hcp], .string ⟨ki.toArray⟩] w (HidPost ctxs l w)
  have P1 : Hid (Blk (w.alloc (.cells #[.slice ca cn cc, .slice ha hn hcp] 29)) w.heap.size [.slice ca cn cc, .slice ha hn hcp] 29) := Blk.new w _ _
  have HB1 : Hid (Below w.heap.size w (w.alloc (.cells #[.slice ca cn cc, .slice ha hn hcp] 29))) := ext_alloc (Below.refl _ _)
  go_enter Tryz.func17, Tryz.ntmps17
  go_upto_region 1 with (fail)
  generalize (w.alloc (.cells #[.slice ca cn cc, .slice ha hn hcp] 29)) = w1 at P1 HB1 ⊢
  generalize w.heap.size = P at P1 ⊢
  have p0 := P1.out.cell 0 rfl
  have p1 := P1.out.cell 1 rfl
  as_aux_lemma =>
    go_wp2_with fail
    refine (HOP2.out _ HB1.out).mono ?_
    rintro e w2 ⟨v, rfl, ho, hb⟩
    have HB2 := Lib.hid (ext_trans HB1.out hb)
    have hcr := HCR.out w2 _ v ho
    obtain ⟨va, vc, rfl, hrow⟩ : ∃ va vc, v = .slice va l.length vc ∧ (0 < l.length → ∃ g, va = some ⟨g, 0, none⟩ ∧ ∀ q, q < l.length → ∀ W, Below w2.heap.size w2 W → W.cell? ⟨g, q * 3, none⟩ = some (.string ⟨(ctxs.getD (l.getD q 0) noDCtx).key.toArray⟩) ∧ W.cell? ⟨g, q * 3 + 1, none⟩ = some (.slice (ctxs.getD (l.getD q 0) noDCtx).ra (ctxs.getD (l.getD q 0) noDCtx).rn (ctxs.getD (l.getD q 0) noDCtx).rc) ∧ W.cell? ⟨g, q * 3 + 2, none⟩ = some (.slice (ctxs.getD (l.getD q 0) noDCtx).ia (ctxs.getD (l.getD q 0) noDCtx).inn (ctxs.getD (l.getD q 0) noDCtx).ic)) := by
      rcases hcr with ⟨h0, rfl⟩ | ⟨g, c, rfl, h⟩
      · exact ⟨none, 0, by rw [h0]; rfl, fun h => by rw [h0] at h; cases h⟩
      · exact ⟨_, c, rfl, fun _ => ⟨g, rfl, h⟩⟩
    have HROW := Lib.hid hrow
    clear ho hb HB1 P1 p0 p1 HOP2 HCR hcr hrow
    as_aux_lemma =>
      go_wp2_with fail
      go_loopw [8, 40] (fun vm it wr => ∃ (q m : Nat), q ≤ l.length ∧ it = .int .i64 q ∧ vm = .int .i64 m ∧ Hid (m = cntR ctxs l q) ∧ m ≤ 10 * q ∧ Hid (Below w2.heap.size w2 wr)) (fun _ it _ => l.length - (intOf it).toNat)
      case atStart => exact ⟨0, 0, Nat.zero_le _, rfl, rfl, rfl, by omega, Below.refl _ _⟩
      case round =>
        obtain ⟨q, m, hq, rfl, rfl, HMC, hm10, HQ⟩ := hrel
        by_cases hlq : q < l.length
        case pos =>
          obtain ⟨g, rfl, hg⟩ := HROW.out (by omega)
          obtain ⟨c0, c1, c2⟩ := hg q hlq wr HQ.out
          have hk3 : l.getD q 0 < 3 := HL3.out _ (by rw [List.getD_eq_getElem?_getD, List.getElem?_eq_getElem hlq]; exact List.getElem_mem _)
          have HCQ : Hid (cntR ctxs l (q + 1) = cntR ctxs l q + (ctxs.getD (l.getD q 0) noDCtx).rules.length) := rfl
          obtain ⟨hrn, hrf⟩ := HRL.out _ hk3
          rw [← hrn, ← HMC.out] at HCQ
          generalize ctxs.getD (l.getD q 0) noDCtx = c at c0 c1 c2 hrn hrf HCQ
          obtain ⟨key, ra, rn, rc, rules, ia, inn, ic, incs⟩ := c
          simp only at c0 c1 c2 hrf HCQ
          have hq0 : ¬ ((q : Int) < 0) := by omega
          have hql : (q : Int) < (l.length : Int) := by omega
          have hA : Below wr.heap.size wr (wr.alloc (.cells #[.string ⟨key.toArray⟩, .slice ra rn rc, .slice ia inn ic] 58)) := ext_alloc (Below.refl _ _)
          have C3 : Hid (Blk (wr.alloc (.cells #[.string ⟨key.toArray⟩, .slice ra rn rc, .slice ia inn ic] 58)) wr.heap.size [.string ⟨key.toArray⟩, .slice ra rn rc, .slice ia inn ic] 58) := Blk.new _ _ _
          have HQ3 := Lib.hid (ext_trans HQ.out hA)
          clear hg hA HQ hrn HMC
          as_aux_lemma =>
            go_upto_region 8 with (fail)
            clear c0 c1 c2
            generalize (wr.alloc (.cells #[.string ⟨key.toArray⟩, .slice ra rn rc, .slice ia inn ic] 58)) = w3 at C3 HQ3 ⊢
            generalize wr.heap.size = C at C3 ⊢
            have c1 := C3.out.cell 1 rfl
            as_aux_lemma =>
              go_wp2_with fail
              go_roundw
              case rel => exact ⟨q + 1, m + rn, by omega, by go_num, by go_num, HCQ.out.symm, by omega, HQ3⟩
              case measure => simp [intOf]; omega
        obtain rfl : q = l.length := by omega
        by_cases hm12 : 12 < m
        · have hmi : ((m : Int) > 12) = True := by simp; omega
          have HE : Hid (HidPost ctxs l w (.returned (.tuple #[.slice none 0 0, .int .i64 2])) wr) := .inl ⟨rfl, ext_trans HB2.out HQ.out⟩
          clear hmi
          as_aux_lemma =>
            go_wp2_with fail
            go_ret2
            exact HE.out
        have HC12 : Hid (∀ a, a ≤ l.length → cntR ctxs l a ≤ 12) := fun a ha => by
          have h1 := cntR_mono ctxs l _ a ha
          have h2 := HMC.out
          omega
        clear HMC hm10
        have hmn : ¬ (12 < (m : Int)) := by omega
        obtain ⟨B, hBe⟩ : ∃ B, B = w2.heap.size := ⟨_, rfl⟩
        have HBE := Lib.hid hBe
        clear hBe
        have HP0 := Lib.hid (PRow.start wr B)
        have HH0 := Lib.hid (HRow.start ctxs wr B)
        as_aux_lemma =>
          go_wp2_with fail
          clear hmn hm12
          go_loopw [11, 12, 54] (fun ve vo it wq => ∃ (q : Nat) (lE : List PatV) (hs : List (Nat × Nat)), q ≤ l.length ∧ it = .int .i64 q ∧ Hid (PRow wq B ve lE) ∧ Hid (HRow ctxs wq B vo hs) ∧ Hid (Below w2.heap.size w2 wq) ∧ Hid ((∀ x ∈ lE, EarlierOf ctxs l q x.p) ∧ lE.length ≤ cntR ctxs l q ∧ (∀ x ∈ hs, HidAt ctxs l x.1 x.2) ∧ hs.length ≤ cntR ctxs l q)) (fun _ _ it _ => l.length - (intOf it).toNat)
          case atStart => exact ⟨0, [], [], Nat.zero_le _, rfl, HP0, HH0, HQ, (fun x hx => absurd hx List.not_mem_nil), Nat.zero_le _, (fun x hx => absurd hx List.not_mem_nil), Nat.zero_le _⟩
          case round =>
            clear HP0 HH0 HQ
            obtain ⟨q, lE, hs, hq, rfl, HPE, HHO, HQ, HFA⟩ := hrel
            by_cases hlq : q < l.length
            case neg =>
              obtain rfl : q = l.length := by omega
              have HE : Hid (HidPost ctxs l w (.returned (.tuple #[u12, .int .i64 0])) wr) := .inr ⟨u12, hs, B, rfl, HHO.out, HFA.out.2.2.1, Nat.le_trans HFA.out.2.2.2 (HC12.out _ (Nat.le_refl _)), (by have := HBE.out; have := HB2.out.size; omega), ext_trans HB2.out HQ.out⟩
              as_aux_lemma =>
                go_wp2_with fail
                go_ret2
                exact HE.out
            obtain ⟨g, rfl, hg⟩ := HROW.out (by omega)
            obtain ⟨c0, c1, c2⟩ := hg q hlq wr HQ.out
            have hk3 : l.getD q 0 < 3 := HL3.out _ (by rw [List.getD_eq_getElem?_getD, List.getElem?_eq_getElem hlq]; exact List.getElem_mem _)
            have HCQ : Hid (cntR ctxs l (q + 1) = cntR ctxs l q + (ctxs.getD (l.getD q 0) noDCtx).rules.length) := rfl
            have HC9 : Hid (cntR ctxs l (q + 1) ≤ 12) := HC12.out _ (by omega)
            obtain ⟨hrn, hrf⟩ := HRL.out _ hk3
            obtain ⟨b0, off, hra, hrk⟩ := HRR.out _ hk3
            rw [← hrn] at HCQ
            have HK3 := Lib.hid hk3
            generalize hce : ctxs.getD (l.getD q 0) noDCtx = c at c0 c1 c2 hrn hrf HCQ hra hrk
            have HCE := Lib.hid hce
            obtain ⟨key, ra, rn, rc, rules, ia, inn, ic, incs⟩ := c
            simp only at c0 c1 c2 hrf HCQ hrn hra hrk
            have HRN := Lib.hid hrn
            have HRA := Lib.hid hra
            have HRK := Lib.hid hrk
            have hq0 : ¬ ((q : Int) < 0) := by omega
            have hql : (q : Int) < (l.length : Int) := by omega
            have hA : Below wr.heap.size wr (wr.alloc (.cells #[.string ⟨key.toArray⟩, .slice ra rn rc, .slice ia inn ic] 58)) := ext_alloc (Below.refl _ _)
            have C3 : Hid (Blk (wr.alloc (.cells #[.string ⟨key.toArray⟩, .slice ra rn rc, .slice ia inn ic] 58)) wr.heap.size [.string ⟨key.toArray⟩, .slice ra rn rc, .slice ia inn ic] 58) := Blk.new _ _ _
            have HQ3 := Lib.hid (ext_trans HQ.out hA)
            have HP3 := Lib.hid (HPE.out.below hA)
            have HH3 := Lib.hid (HHO.out.below hA)
            have hBC : B ≤ wr.heap.size := by have := HBE.out; have := HQ.out.size; omega
            clear hg hA HQ hrn hra hrk hce HPE HHO hk3
            as_aux_lemma =>
              go_upto_region 17 with (fail)
              clear c0 c1 c2
              generalize (wr.alloc (.cells #[.string ⟨key.toArray⟩, .slice ra rn rc, .slice ia inn ic] 58)) = w3 at C3 HQ3 HP3 HH3 ⊢
              generalize wr.heap.size = C at C3 hBC ⊢
              have c1 := C3.out.cell 1 rfl
              as_aux_lemma =>
                go_wp2_with fail
                go_loopw [12, 61] (fun vo it wq => ∃ (i : Nat) (h2 : List (Nat × Nat)), i ≤ rn ∧ it = .int .i64 i ∧ Hid (HRow ctxs wq B vo h2) ∧ Hid (PRow wq B u11 lE) ∧ Hid (Blk wq C [.string ⟨key.toArray⟩, .slice ra rn rc, .slice ia inn ic] 58) ∧ Hid (Below w2.heap.size w2 wq) ∧ Hid ((∀ x ∈ h2, HidAt ctxs l x.1 x.2) ∧ h2.length ≤ cntR ctxs l q + i)) (fun _ it _ => rn - (intOf it).toNat)
                case atStart => exact ⟨0, hs, Nat.zero_le _, rfl, HH3, HP3, C3, HQ3, HFA.out.2.2.1, HFA.out.2.2.2⟩
                case round =>
                  clear c1 C3 HQ3 HP3 HH3
                  obtain ⟨i, h2, hir, rfl, HHO, HPE, C4, HQ4, HF4⟩ := hrel
                  by_cases hli : i < rn
                  case neg =>
                    obtain rfl : i = rn := by omega
                    have c1 := C4.out.cell 1 rfl
                    as_aux_lemma =>
                      go_wp2_with fail
                      go_loopw [11, 130] (fun ve it wq => ∃ (j : Nat) (l5 : List PatV), j ≤ i ∧ it = .int .i64 j ∧ Hid (PRow wq B ve l5) ∧ Hid (HRow ctxs wq B u12 h2) ∧ Hid (Below w2.heap.size w2 wq) ∧ Hid ((∀ x ∈ l5, EarlierOf ctxs l (q + 1) x.p) ∧ l5.length ≤ cntR ctxs l q + j)) (fun _ it _ => i - (intOf it).toNat)
                      case atStart => exact ⟨0, lE, Nat.zero_le _, rfl, HPE, HHO, HQ4, (fun x hx => (HFA.out.1 x hx).mono (Nat.le_succ _)), HFA.out.2.1⟩
                      case round =>
                        clear c1 HPE HHO C4 HQ4
                        obtain ⟨j, l5, hjr, rfl, HPE, HHO, HQ5, HF5⟩ := hrel
                        by_cases hlj : j < i
                        case neg =>
                          obtain rfl : j = i := by omega
                          as_aux_lemma =>
                            go_wp2_with fail
                            go_roundw
                            case rel => exact ⟨q + 1, l5, h2, by omega, by go_num, HPE, HHO, HQ5, HF5.out.1, by rw [HCQ.out]; exact HF5.out.2, HF4.out.1, by rw [HCQ.out]; exact HF4.out.2⟩
                            case measure => simp [intOf]; omega
                        obtain rfl : ra = some ⟨b0, off, none⟩ := HRA.out (by omega)
                        have HB4 := Lib.hid (ext_trans HB2.out HQ5.out)
                        obtain ⟨hok, hrg⟩ := HRK.out j hlj
                        have HRG0 := hrg wr HB4.out
                        have HELS3 : Hid (ElsOk (rules.getD j noDRule).els) := hok.els
                        have HHR3 : Hid ((rules.getD j noDRule).hours ∈ ([[], [104, 97], [104, 98]] : List (List UInt8))) := hok.hours
                        have HRD : Hid (∀ W, Calls Tryz.prog 34 #[.string ⟨(rules.getD j noDRule).els.str.toArray⟩] W (ReadPat (rules.getD j noDRule).els.pat W)) := fun W => read_any W _ hok.els _ rfl
                        clear hok hrg
                        unfold DRule.cells at HRG0
                        generalize hrl : rules.getD j noDRule = rl at HRG0 HELS3 HHR3 HRD
                        have HRL3 := Lib.hid hrl
                        clear hrl
                        obtain ⟨rel3, rn3_, rp3, rt3, rm3, rh3⟩ := rl
                        simp only at HRG0 HELS3 HHR3 HRD
                        generalize rel3.str = rs3 at HRG0 HRD
                        have HRG := Lib.hid HRG0
                        clear HRG0
                        have hj0 : ¬ ((j : Int) < 0) := by omega
                        have hjn : (j : Int) < (i : Int) := by omega
                        have hz0 := Blk.new wr [.string ⟨#[]⟩, .int .i64 0, .string ⟨#[]⟩, .int .i64 0, .string ⟨#[]⟩, .string ⟨#[]⟩] 63
                        have HTH : Hid (World.there (wr.alloc (.cells #[.string ⟨#[]⟩, .int .i64 0, .string ⟨#[]⟩, .int .i64 0, .string ⟨#[]⟩, .string ⟨#[]⟩] 63)) wr.heap.size 0 6) := hz0.th 6 (Nat.le_refl 6)
                        have hA : Below wr.heap.size wr (wr.alloc (.cells #[.string ⟨#[]⟩, .int .i64 0, .string ⟨#[]⟩, .int .i64 0, .string ⟨#[]⟩, .string ⟨#[]⟩] 63)) := ext_alloc (Below.refl _ _)
                        have V6 : Hid (Below wr.heap.size wr (World.setCells (wr.alloc (.cells #[.string ⟨#[]⟩, .int .i64 0, .string ⟨#[]⟩, .int .i64 0, .string ⟨#[]⟩, .string ⟨#[]⟩] 63)) wr.heap.size 0 [.string ⟨rs3.toArray⟩, .int .i64 rn3_, .string ⟨rp3.toArray⟩, .int .i64 rt3, .string ⟨rm3.toArray⟩, .string ⟨rh3.toArray⟩])) := belowW_put (Nat.le_refl _) hA _
                        have R6 : Hid (Blk (World.setCells (wr.alloc (.cells #[.string ⟨#[]⟩, .int .i64 0, .string ⟨#[]⟩, .int .i64 0, .string ⟨#[]⟩, .string ⟨#[]⟩] 63)) wr.heap.size 0 [.string ⟨rs3.toArray⟩, .int .i64 rn3_, .string ⟨rp3.toArray⟩, .int .i64 rt3, .string ⟨rm3.toArray⟩, .string ⟨rh3.toArray⟩]) wr.heap.size [.string ⟨rs3.toArray⟩, .int .i64 rn3_, .string ⟨rp3.toArray⟩, .int .i64 rt3, .string ⟨rm3.toArray⟩, .string ⟨rh3.toArray⟩] 63) := hz0.put6 (.string ⟨rs3.toArray⟩) (.int .i64 rn3_) (.string ⟨rp3.toArray⟩) (.int .i64 rt3) (.string ⟨rm3.toArray⟩) (.string ⟨rh3.toArray⟩)
                        clear hz0 hA
                        as_aux_lemma =>
                          go_wp2_with (first | (refine wpList_load_mid rfl 63 (.tmp 132) rfl b0 (off + j * 6) rfl [.string ⟨rs3.toArray⟩, .int .i64 rn3_, .string ⟨rp3.toArray⟩, .int .i64 rt3, .string ⟨rm3.toArray⟩, .string ⟨rh3.toArray⟩] _ HRG.out Tryz.underlying63 rfl Tryz.druleSz ?_) | (refine wpList_store_mid rfl 63 (.tmp 26) (.tmp 133) rfl wr.heap.size 0 #[.string ⟨rs3.toArray⟩, .int .i64 rn3_, .string ⟨rp3.toArray⟩, .int .i64 rt3, .string ⟨rm3.toArray⟩, .string ⟨rh3.toArray⟩] rfl rfl HTH.out Tryz.druleSz (by simp [Value.oneCell']) ?_; generalize (World.setCells (wr.alloc (.cells #[.string ⟨#[]⟩, .int .i64 0, .string ⟨#[]⟩, .int .i64 0, .string ⟨#[]⟩, .string ⟨#[]⟩] 63)) wr.heap.size 0 [.string ⟨rs3.toArray⟩, .int .i64 rn3_, .string ⟨rp3.toArray⟩, .int .i64 rt3, .string ⟨rm3.toArray⟩, .string ⟨rh3.toArray⟩]) = w63 at R6 V6 ⊢; clear HTH HRG; refine Hid.out ?_))
                          refine Lib.hid ?_
                          obtain ⟨R3, hRe⟩ : ∃ R, R = wr.heap.size := ⟨_, rfl⟩
                          have HRE3 := Lib.hid hRe
                          rw [← hRe] at R6 ⊢
                          clear hRe hj0 hjn
                          have r0 := R6.out.cell 0 rfl
                          as_aux_lemma =>
                            go_wp2_with fail
                            refine (HRD.out _).mono ?_
                            rintro e w73 ⟨xa3, xn3, xc3, rfl, hpx, hb⟩
                            have V7 := Lib.hid (ext_trans V6.out hb)
                            have R7 := Lib.hid (R6.out.below hb)
                            have hA : Below w73.heap.size w73 (w73.alloc (.cells #[.slice xa3 xn3 xc3, .int .u8 rel3.pat.tail] 82)) := ext_alloc (Below.refl _ _)
                            have X83 : Hid (Blk (w73.alloc (.cells #[.slice xa3 xn3 xc3, .int .u8 rel3.pat.tail] 82)) w73.heap.size [.slice xa3 xn3 xc3, .int .u8 rel3.pat.tail] 82) := Blk.new w73 _ _
                            have V83 := Lib.hid (ext_trans V7.out hA)
                            have R83 := Lib.hid (R7.out.below hA)
                            have HPX83 := Lib.hid (hpx.below hA)
                            clear hb hpx r0 hA V6 V7 R6 R7 HRD
                            as_aux_lemma =>
                              unfold patVal
                              go_upto_region 37 with (fail)
                              generalize w73.alloc (.cells #[.slice xa3 xn3 xc3, .int .u8 rel3.pat.tail] 82) = w83 at X83 V83 R83 HPX83 ⊢
                              generalize w73.heap.size = X3 at X83 ⊢
                              have HPE6 := Lib.hid (HPE.out.below V83.out)
                              have HHO6 := Lib.hid (HHO.out.below V83.out)
                              have HQ6 := Lib.hid (ext_trans HQ5.out V83.out)
                              have hB6 : B ≤ w83.heap.size := by have := HBE.out; have := HQ6.out.size; omega
                              have r5 := R83.out.cell 5 rfl
                              clear V83 HPE HHO HQ5 HB4
                              have hrh : rh3 = [] ∨ rh3 ≠ [] := by cases rh3 <;> simp
                              have HEL : Hid (rh3 = [] → EarlierOf ctxs l (q + 1) rel3.pat) := fun he => ⟨q, Nat.lt_succ_self q, j, by rw [HCE.out]; show j < rules.length; have := HRN.out; omega, by rw [HCE.out]; show (rules.getD j noDRule).hours = []; rw [HRL3.out]; exact he, by rw [HCE.out]; show _ = (rules.getD j noDRule).els.pat; rw [HRL3.out]⟩
                              have hok3 : PatOk rel3.pat := Els.ok HELS3.out
                              have HOK3 := Lib.hid hok3
                              clear hrh hok3
                              have hmem : rh3 = [] ∨ rh3 = [104, 97] ∨ rh3 = [104, 98] := by
                                have h1 := HHR3.out
                                rcases List.mem_cons.1 h1 with h1 | h1
                                · exact .inl h1
                                rcases List.mem_cons.1 h1 with h1 | h1
                                · exact .inr (.inl h1)
                                rcases List.mem_cons.1 h1 with h1 | h1
                                · exact .inr (.inr h1)
                                · cases h1
                              rcases hmem with rfl | rfl | rfl
                              case inr.inl =>
                                clear X83 HPX83
                                as_aux_lemma =>
                                  go_wp2_with fail
                                  go_roundw
                                  case rel => exact ⟨j + 1, l5, by omega, by go_num, HPE6, HHO6, HQ6, HF5.out.1, by have := HF5.out.2; omega⟩
                                  case measure => simp [intOf]; omega
                              case inr.inr =>
                                clear X83 HPX83
                                as_aux_lemma =>
                                  go_wp2_with fail
                                  go_roundw
                                  case rel => exact ⟨j + 1, l5, by omega, by go_num, HPE6, HHO6, HQ6, HF5.out.1, by have := HF5.out.2; omega⟩
                                  case measure => simp [intOf]; omega
                              have x0 := X83.out.cell 0 rfl
                              have x1 := X83.out.cell 1 rfl
                              have HLM : Hid (l5.length + 1 ≤ maxLen ∧ (l5.length + 1) * 32 ≤ 140737488355328) := by
                                have h1 := HF5.out.2
                                have h2 := HC12.out q (by omega)
                                exact ⟨by unfold maxLen; omega, by omega⟩
                              as_aux_lemma =>
                                go_upto_region 38 with (fail)
                                clear r5
                                obtain ⟨wn, hwn⟩ : ∃ w', w' = w83.alloc (.cells #[.slice xa3 xn3 xc3, .int .u8 rel3.pat.tail] 82) := ⟨_, rfl⟩
                                have hbn : Below w83.heap.size w83 wn := by rw [hwn]; exact ext_alloc (Below.refl _ _)
                                have VN := Lib.hid hbn
                                have HZN : Hid (Blk wn w83.heap.size [.slice xa3 xn3 xc3, .int .u8 rel3.pat.tail] 82) := by rw [hwn]; exact Blk.new _ _ _
                                have HNW : Hid (∀ j u, (pvCells ⟨xa3, xn3, xc3, rel3.pat⟩)[j]? = some u → wn.cell? ((⟨w83.heap.size, 0, none⟩ : Addr).add j) = some u) := fun j u hj => by
                                  rw [show (⟨w83.heap.size, 0, none⟩ : Addr).add j = ⟨w83.heap.size, j, none⟩ by cases j <;> simp [Addr.add]]
                                  exact HZN.out.cell j hj
                                have HPN := Lib.hid (HPE6.out.below hbn)
                                have HON := Lib.hid HPN.out.own
                                have HWN := Lib.hid hwn
                                clear hbn hwn
                                as_aux_lemma =>
                                  go_upto_region 39 with (at_builtin; rw [← HWN.out]; refine wpList_append_own_at _ rfl (.tmp 143) (.tmp 145) 119 rfl B 82 i1 (.agg #[.slice none 0 0, .int .u8 0]) 2 32 Tryz.underlying119 hi hz0 hz1 hz2 rfl (by decide) u11 l5.length (pvRow l5) rfl HON.out ⟨w83.heap.size, 0, none⟩ 1 1 (pvCells ⟨xa3, xn3, xc3, rel3.pat⟩) rfl rfl HNW.out (by intro u hu; simp [pvCells] at hu; rcases hu with rfl | rfl <;> rfl) HLM.out.1 HLM.out.2 (by have := VN.out.size; omega) ?_; intro vn v9n hon hgn _ hat)
                                  have HP7 := Lib.hid (HPN.out.more hgn hon (HPX83.out.below VN.out) HOK3.out)
                                  have HH7 : Hid (HRow ctxs v9n B u12 h2) := (HHO6.out.below VN.out).gb hgn (own_types (HHO6.out.below VN.out).own HPN.out.own (by decide))
                                  have HQ7 : Hid (Below w2.heap.size w2 v9n) := (ext_trans HQ6.out VN.out).grown hgn (by have := (ext_trans HQ6.out VN.out).size; exact this) (fun b hb => by have h1 := (HPN.out.own.lt b hb).1; have h2 := HBE.out; omega)
                                  have HEL2 := Lib.hid (HEL.out rfl)
                                  clear hat hon hgn x0 x1 HWN HON HPN HNW HZN
                                  as_aux_lemma =>
                                    go_wp2_with fail
                                    go_roundw
                                    case rel => exact ⟨j + 1, l5 ++ [⟨xa3, xn3, xc3, rel3.pat⟩], by omega, by go_num, HP7, HH7, HQ7, (fun x hx => by
                                      rcases List.mem_append.1 hx with hx | hx
                                      · exact HF5.out.1 x hx
                                      · simp at hx; subst hx; exact HEL2.out), by rw [List.length_append]; have := HF5.out.2; simp; omega⟩
                                    case measure => simp [intOf]; omega
                  obtain rfl : ra = some ⟨b0, off, none⟩ := HRA.out (by omega)
                  have HB4 := Lib.hid (ext_trans HB2.out HQ4.out)
                  obtain ⟨hok, hrg⟩ := HRK.out i hli
                  have HRG0 := hrg wr HB4.out
                  have HELS : Hid (ElsOk (rules.getD i noDRule).els) := hok.els
                  have HHR : Hid ((rules.getD i noDRule).hours ∈ ([[], [104, 97], [104, 98]] : List (List UInt8))) := hok.hours
                  have HRD : Hid (∀ W, Calls Tryz.prog 34 #[.string ⟨(rules.getD i noDRule).els.str.toArray⟩] W (ReadPat (rules.getD i noDRule).els.pat W)) := fun W => read_any W _ hok.els _ rfl
                  clear hok hrg
                  unfold DRule.cells at HRG0
                  generalize hrl : rules.getD i noDRule = rl at HRG0 HELS HHR HRD
                  have HRL := Lib.hid hrl
                  clear hrl
                  obtain ⟨rel, rn_, rp, rt, rm, rh⟩ := rl
                  simp only at HRG0 HELS HHR HRD
                  generalize rel.str = rs at HRG0 HRD
                  have HRG := Lib.hid HRG0
                  clear HRG0
                  have hj0 : ¬ ((i : Int) < 0) := by omega
                  have hjn : (i : Int) < (rn : Int) := by omega
                  have hz0 := Blk.new wr [.string ⟨#[]⟩, .int .i64 0, .string ⟨#[]⟩, .int .i64 0, .string ⟨#[]⟩, .string ⟨#[]⟩] 63
                  have HTH : Hid (World.there (wr.alloc (.cells #[.string ⟨#[]⟩, .int .i64 0, .string ⟨#[]⟩, .int .i64 0, .string ⟨#[]⟩, .string ⟨#[]⟩] 63)) wr.heap.size 0 6) := hz0.th 6 (Nat.le_refl 6)
                  have hA : Below wr.heap.size wr (wr.alloc (.cells #[.string ⟨#[]⟩, .int .i64 0, .string ⟨#[]⟩, .int .i64 0, .string ⟨#[]⟩, .string ⟨#[]⟩] 63)) := ext_alloc (Below.refl _ _)
                  have V6 : Hid (Below wr.heap.size wr (World.setCells (wr.alloc (.cells #[.string ⟨#[]⟩, .int .i64 0, .string ⟨#[]⟩, .int .i64 0, .string ⟨#[]⟩, .string ⟨#[]⟩] 63)) wr.heap.size 0 [.string ⟨rs.toArray⟩, .int .i64 rn_, .string ⟨rp.toArray⟩, .int .i64 rt, .string ⟨rm.toArray⟩, .string ⟨rh.toArray⟩])) := belowW_put (Nat.le_refl _) hA _
                  have R6 : Hid (Blk (World.setCells (wr.alloc (.cells #[.string ⟨#[]⟩, .int .i64 0, .string ⟨#[]⟩, .int .i64 0, .string ⟨#[]⟩, .string ⟨#[]⟩] 63)) wr.heap.size 0 [.string ⟨rs.toArray⟩, .int .i64 rn_, .string ⟨rp.toArray⟩, .int .i64 rt, .string ⟨rm.toArray⟩, .string ⟨rh.toArray⟩]) wr.heap.size [.string ⟨rs.toArray⟩, .int .i64 rn_, .string ⟨rp.toArray⟩, .int .i64 rt, .string ⟨rm.toArray⟩, .string ⟨rh.toArray⟩] 63) := hz0.put6 (.string ⟨rs.toArray⟩) (.int .i64 rn_) (.string ⟨rp.toArray⟩) (.int .i64 rt) (.string ⟨rm.toArray⟩) (.string ⟨rh.toArray⟩)
                  clear hz0 hA
                  as_aux_lemma =>
                    go_wp2_with (first | (refine wpList_load_mid rfl 63 (.tmp 64) rfl b0 (off + i * 6) rfl [.string ⟨rs.toArray⟩, .int .i64 rn_, .string ⟨rp.toArray⟩, .int .i64 rt, .string ⟨rm.toArray⟩, .string ⟨rh.toArray⟩] _ HRG.out Tryz.underlying63 rfl Tryz.druleSz ?_) | (refine wpList_store_mid rfl 63 (.tmp 16) (.tmp 65) rfl wr.heap.size 0 #[.string ⟨rs.toArray⟩, .int .i64 rn_, .string ⟨rp.toArray⟩, .int .i64 rt, .string ⟨rm.toArray⟩, .string ⟨rh.toArray⟩] rfl rfl HTH.out Tryz.druleSz (by simp [Value.oneCell']) ?_; generalize (World.setCells (wr.alloc (.cells #[.string ⟨#[]⟩, .int .i64 0, .string ⟨#[]⟩, .int .i64 0, .string ⟨#[]⟩, .string ⟨#[]⟩] 63)) wr.heap.size 0 [.string ⟨rs.toArray⟩, .int .i64 rn_, .string ⟨rp.toArray⟩, .int .i64 rt, .string ⟨rm.toArray⟩, .string ⟨rh.toArray⟩]) = w6 at R6 V6 ⊢; clear HTH HRG; refine Hid.out ?_))
                    refine Lib.hid ?_
                    obtain ⟨R, hRe⟩ : ∃ R, R = wr.heap.size := ⟨_, rfl⟩
                    have HRE := Lib.hid hRe
                    rw [← hRe] at R6 ⊢
                    clear hRe hj0 hjn
                    have r0 := R6.out.cell 0 rfl
                    as_aux_lemma =>
                      go_wp2_with fail
                      refine (HRD.out _).mono ?_
                      rintro e w7 ⟨xa, xn, xc, rfl, hpx, hb⟩
                      have V7 := Lib.hid (ext_trans V6.out hb)
                      have R7 := Lib.hid (R6.out.below hb)
                      have hA : Below w7.heap.size w7 (w7.alloc (.cells #[.slice xa xn xc, .int .u8 rel.pat.tail] 82)) := ext_alloc (Below.refl _ _)
                      have X8 : Hid (Blk (w7.alloc (.cells #[.slice xa xn xc, .int .u8 rel.pat.tail] 82)) w7.heap.size [.slice xa xn xc, .int .u8 rel.pat.tail] 82) := Blk.new w7 _ _
                      have V8 := Lib.hid (ext_trans V7.out hA)
                      have R8 := Lib.hid (R7.out.below hA)
                      have HPX8 := Lib.hid (hpx.below hA)
                      clear hb hpx r0 hA V6 V7 R6 R7 HRD
                      as_aux_lemma =>
                        unfold patVal
                        go_upto_region 21 with (fail)
                        generalize w7.alloc (.cells #[.slice xa xn xc, .int .u8 rel.pat.tail] 82) = w8 at X8 V8 R8 HPX8 ⊢
                        generalize w7.heap.size = X at X8 ⊢
                        have HPE8 := Lib.hid (HPE.out.below V8.out)
                        have HHO8 := Lib.hid (HHO.out.below V8.out)
                        have C8 := Lib.hid (C4.out.below V8.out)
                        have HQ8 := Lib.hid (ext_trans HQ4.out V8.out)
                        clear V8 HPE HHO C4 HQ4 HB4
                        as_aux_lemma =>
                          go_wp2_with fail
                          refine (cloneV_any _ B u11 lE HPE8.out (by have := HFA.out.2.1; have := HC12.out q (by omega); omega)).mono ?_
                          rintro e w9 ⟨v9, rfl, hp9, hb⟩
                          have HP9 := Lib.hid hp9
                          have V9 := Lib.hid hb
                          clear hb hp9
                          have c1 := (C8.out.below V9.out).cell 1 rfl
                          as_aux_lemma =>
                            go_wp2_with fail
                            go_loopw [19, 77] (fun vo it wq => ∃ (kk : Nat) (lO : List PatV), kk ≤ rn ∧ it = .int .i64 kk ∧ Hid (PRow wq w8.heap.size vo lO) ∧ Hid (Below w8.heap.size w8 wq) ∧ Hid ((∀ x ∈ lO, AheadOf ctxs l q i x.p) ∧ lO.length ≤ lE.length + kk)) (fun _ it _ => rn - (intOf it).toNat)
                            case atStart => exact ⟨0, lE, Nat.zero_le _, rfl, HP9, V9, (fun x hx => .inl (HFA.out.1 x hx)), Nat.le_refl _⟩
                            case round =>
                              clear c1 HP9 V9
                              obtain ⟨kk, lO, hkr, rfl, HPO, VK, HFO⟩ := hrel
                              by_cases hlkk : kk < rn
                              case neg =>
                                obtain rfl : kk = rn := by omega
                                obtain ⟨oa, oc, rfl, hpv⟩ := HPO.out.vals
                                have hn12 : lO.length ≤ 12 := by
                                  have h1 := HFO.out.2
                                  have h2 := HFA.out.2.1
                                  have h3 := HCQ.out
                                  have h4 := HC9.out
                                  omega
                                have X9 := Lib.hid (X8.out.below VK.out)
                                have x0 := X9.out.cell 0 rfl
                                have x1 := X9.out.cell 1 rfl
                                have hcov := covered_any wr xa xn xc rel.pat (HPX8.out.below VK.out) (Els.ok HELS.out) oa lO.length oc lO hpv hn12
                                unfold patVal at hcov
                                have HCV := Lib.hid hcov
                                have HHO9 := Lib.hid (HHO8.out.below VK.out)
                                have HPE9 := Lib.hid (HPE8.out.below VK.out)
                                have C9 := Lib.hid (C8.out.below VK.out)
                                have R9 := Lib.hid (R8.out.below VK.out)
                                have HQ9 := Lib.hid (ext_trans HQ8.out VK.out)
                                clear hcov hpv VK HHO8 HPE8 C8 R8 HQ8 X8 HPX8 HPO
                                as_aux_lemma =>
                                  go_wp2_with fail
                                  refine HCV.out.mono ?_
                                  rintro e w10 ⟨b, rfl, hbc, hb⟩
                                  have HHOa := Lib.hid (HHO9.out.below hb)
                                  have HPEa := Lib.hid (HPE9.out.below hb)
                                  have Ca := Lib.hid (C9.out.below hb)
                                  have Ra := Lib.hid (R9.out.below hb)
                                  have HQa := Lib.hid (ext_trans HQ9.out hb)
                                  have HBC := Lib.hid hbc
                                  clear hb hbc x0 x1 HCV HHO9 HPE9 C9 R9 HQ9 X9
                                  cases b
                                  case false =>
                                    as_aux_lemma =>
                                      go_wp2_with fail
                                      go_roundw
                                      case rel => exact ⟨i + 1, h2, by omega, by go_num, HHOa, HPEa, Ca, HQa, HF4.out.1, by have := HF4.out.2; omega⟩
                                      case measure => simp [intOf]; omega
                                  have HID : Hid (HidAt ctxs l (l.getD q 0) i) := ⟨q, hlq, rfl, by rw [HCE.out]; show i < rules.length; have := HRN.out; omega, patsOf lO, by rw [HCE.out]; show CovP (rules.getD i noDRule).els.pat _; rw [HRL.out]; exact HBC.out rfl, fun x hx => by
                                    obtain ⟨y, hy, rfl⟩ := List.mem_map.1 hx
                                    exact HFO.out.1 y hy⟩
                                  have HTC : Hid (htCells ctxs (l.getD q 0, i) = [.string ⟨key.toArray⟩, .int .i64 i, .int .i64 rt, .string ⟨rm.toArray⟩, .string ⟨#[]⟩]) := by
                                    show htCells ctxs (l.getD q 0, i) = _
                                    unfold htCells
                                    rw [HCE.out]
                                    show ([_, _, .int .i64 (rules.getD i noDRule).to_, .string ⟨(rules.getD i noDRule).name.toArray⟩, _] : List Value) = _
                                    rw [HRL.out]
                                  have c0 := Ca.out.cell 0 rfl
                                  have r3 := Ra.out.cell 3 rfl
                                  have r4 := Ra.out.cell 4 rfl
                                  obtain ⟨wn, hwn⟩ : ∃ w', w' = w10.alloc (.cells #[.string ⟨key.toArray⟩, .int .i64 i, .int .i64 rt, .string ⟨rm.toArray⟩, .string ⟨#[]⟩] 37) := ⟨_, rfl⟩
                                  have hbn : Below w10.heap.size w10 wn := by rw [hwn]; exact ext_alloc (Below.refl _ _)
                                  have VN := Lib.hid hbn
                                  have HZN : Hid (Blk wn w10.heap.size [.string ⟨key.toArray⟩, .int .i64 i, .int .i64 rt, .string ⟨rm.toArray⟩, .string ⟨#[]⟩] 37) := by rw [hwn]; exact Blk.new _ _ _
                                  have HNW : Hid (∀ j u, ([.string ⟨key.toArray⟩, .int .i64 i, .int .i64 rt, .string ⟨rm.toArray⟩, .string ⟨#[]⟩] : List Value)[j]? = some u → wn.cell? ((⟨w10.heap.size, 0, none⟩ : Addr).add j) = some u) := fun j u hj => by
                                    rw [show (⟨w10.heap.size, 0, none⟩ : Addr).add j = ⟨w10.heap.size, j, none⟩ by cases j <;> simp [Addr.add]]
                                    exact HZN.out.cell j hj
                                  have HHN := Lib.hid (HHOa.out.below hbn)
                                  have HON := Lib.hid HHN.out.own
                                  have HWN := Lib.hid hwn
                                  have HLM : Hid (h2.length + 1 ≤ maxLen ∧ (h2.length + 1) * 64 ≤ 140737488355328) := by
                                    have h1 := HF4.out.2
                                    have h3 := HC12.out q (by omega)
                                    exact ⟨by unfold maxLen; omega, by omega⟩
                                  have hBw : B ≤ wn.heap.size := by have := HBE.out; have := HQa.out.size; have := hbn.size; omega
                                  clear hbn hwn
                                  as_aux_lemma =>
                                    go_upto_region 32 with (first | ((refine wpList_val rfl (bl_hdw0 _ (fun _ => rfl) _ _ 123 ⟨key.toArray⟩ i rt ⟨rm.toArray⟩ ⟨#[]⟩ rfl rfl) ?_)) | (at_builtin; rw [← HWN.out]; refine wpList_append_own_at _ rfl (.tmp 115) (.tmp 124) 51 rfl B 37 i2 (.agg #[.string ⟨#[]⟩, .int .i64 0, .int .i64 0, .string ⟨#[]⟩, .string ⟨#[]⟩]) 5 64 Tryz.underlying51 hj hy0 hy1 hy2 rfl (by decide) u12 h2.length (htRow ctxs h2) rfl HON.out ⟨w10.heap.size, 0, none⟩ 1 1 [.string ⟨key.toArray⟩, .int .i64 i, .int .i64 rt, .string ⟨rm.toArray⟩, .string ⟨#[]⟩] rfl rfl HNW.out (by intro u hu; simp at hu; rcases hu with rfl | rfl | rfl | rfl | rfl <;> rfl) HLM.out.1 HLM.out.2 hBw ?_; intro vn wx hon hgn _ hat))
                                    have HHX : Hid (HRow ctxs wx B vn (h2 ++ [(l.getD q 0, i)])) := HRow.more (by rw [HTC.out]; exact hon)
                                    have HPN := Lib.hid (HPEa.out.below VN.out)
                                    have HPX : Hid (PRow wx B u11 lE) := HPN.out.gb hgn HHN.out.noSet (fun b hb he => own_types HPN.out.own HHN.out.own (by decide) b hb he)
                                    have CX : Hid (Blk wx C [.string ⟨key.toArray⟩, .slice (some ⟨b0, off, none⟩) kk rc, .slice ia inn ic] 58) := (Ca.out.below VN.out).grown hgn (own_blk HHN.out.own (Ca.out.below VN.out) (by decide))
                                    have HQX : Hid (Below w2.heap.size w2 wx) := (ext_trans HQa.out VN.out).grown hgn (by have := (ext_trans HQa.out VN.out).size; exact this) (fun b hb => by have h1 := (HHN.out.own.lt b hb).1; have h3 := HBE.out; omega)
                                    clear hat hon hgn HWN HON HHN HNW HZN HPN c0 r3 r4
                                    as_aux_lemma =>
                                      go_wp2_with fail
                                      go_roundw
                                      case rel => exact ⟨i + 1, h2 ++ [(l.getD q 0, i)], by omega, by go_num, HHX, HPX, CX, HQX, (fun x hx => by
                                        rcases List.mem_append.1 hx with hx | hx
                                        · exact HF4.out.1 x hx
                                        · simp at hx; subst hx; exact HID.out), by rw [List.length_append]; have := HF4.out.2; simp; omega⟩
                                      case measure => simp [intOf]; omega
                              have HB5 := Lib.hid (ext_trans (ext_trans HB2.out HQ8.out) VK.out)
                              obtain ⟨hok, hrg⟩ := HRK.out kk hlkk
                              have HRG0 := hrg wr HB5.out
                              have HELS2 : Hid (ElsOk (rules.getD kk noDRule).els) := hok.els
                              have HHR2 : Hid ((rules.getD kk noDRule).hours ∈ ([[], [104, 97], [104, 98]] : List (List UInt8))) := hok.hours
                              have HRD : Hid (∀ W, Calls Tryz.prog 34 #[.string ⟨(rules.getD kk noDRule).els.str.toArray⟩] W (ReadPat (rules.getD kk noDRule).els.pat W)) := fun W => read_any W _ hok.els _ rfl
                              clear hok hrg
                              unfold DRule.cells at HRG0
                              generalize hrl : rules.getD kk noDRule = rl at HRG0 HELS2 HHR2 HRD
                              have HRL2 := Lib.hid hrl
                              clear hrl
                              obtain ⟨rel2, rn2_, rp2, rt2, rm2, rh2⟩ := rl
                              simp only at HRG0 HELS2 HHR2 HRD
                              generalize rel2.str = rs2 at HRG0 HRD
                              have HRG := Lib.hid HRG0
                              clear HRG0
                              have hj0 : ¬ ((kk : Int) < 0) := by omega
                              have hjn : (kk : Int) < (rn : Int) := by omega
                              have hz0 := Blk.new wr [.string ⟨#[]⟩, .int .i64 0, .string ⟨#[]⟩, .int .i64 0, .string ⟨#[]⟩, .string ⟨#[]⟩] 63
                              have HTH : Hid (World.there (wr.alloc (.cells #[.string ⟨#[]⟩, .int .i64 0, .string ⟨#[]⟩, .int .i64 0, .string ⟨#[]⟩, .string ⟨#[]⟩] 63)) wr.heap.size 0 6) := hz0.th 6 (Nat.le_refl 6)
                              have hA : Below wr.heap.size wr (wr.alloc (.cells #[.string ⟨#[]⟩, .int .i64 0, .string ⟨#[]⟩, .int .i64 0, .string ⟨#[]⟩, .string ⟨#[]⟩] 63)) := ext_alloc (Below.refl _ _)
                              have V6 : Hid (Below wr.heap.size wr (World.setCells (wr.alloc (.cells #[.string ⟨#[]⟩, .int .i64 0, .string ⟨#[]⟩, .int .i64 0, .string ⟨#[]⟩, .string ⟨#[]⟩] 63)) wr.heap.size 0 [.string ⟨rs2.toArray⟩, .int .i64 rn2_, .string ⟨rp2.toArray⟩, .int .i64 rt2, .string ⟨rm2.toArray⟩, .string ⟨rh2.toArray⟩])) := belowW_put (Nat.le_refl _) hA _
                              have R6 : Hid (Blk (World.setCells (wr.alloc (.cells #[.string ⟨#[]⟩, .int .i64 0, .string ⟨#[]⟩, .int .i64 0, .string ⟨#[]⟩, .string ⟨#[]⟩] 63)) wr.heap.size 0 [.string ⟨rs2.toArray⟩, .int .i64 rn2_, .string ⟨rp2.toArray⟩, .int .i64 rt2, .string ⟨rm2.toArray⟩, .string ⟨rh2.toArray⟩]) wr.heap.size [.string ⟨rs2.toArray⟩, .int .i64 rn2_, .string ⟨rp2.toArray⟩, .int .i64 rt2, .string ⟨rm2.toArray⟩, .string ⟨rh2.toArray⟩] 63) := hz0.put6 (.string ⟨rs2.toArray⟩) (.int .i64 rn2_) (.string ⟨rp2.toArray⟩) (.int .i64 rt2) (.string ⟨rm2.toArray⟩) (.string ⟨rh2.toArray⟩)
                              clear hz0 hA
                              as_aux_lemma =>
                                go_wp2_with (first | (refine wpList_load_mid rfl 63 (.tmp 80) rfl b0 (off + kk * 6) rfl [.string ⟨rs2.toArray⟩, .int .i64 rn2_, .string ⟨rp2.toArray⟩, .int .i64 rt2, .string ⟨rm2.toArray⟩, .string ⟨rh2.toArray⟩] _ HRG.out Tryz.underlying63 rfl Tryz.druleSz ?_) | (refine wpList_store_mid rfl 63 (.tmp 21) (.tmp 81) rfl wr.heap.size 0 #[.string ⟨rs2.toArray⟩, .int .i64 rn2_, .string ⟨rp2.toArray⟩, .int .i64 rt2, .string ⟨rm2.toArray⟩, .string ⟨rh2.toArray⟩] rfl rfl HTH.out Tryz.druleSz (by simp [Value.oneCell']) ?_; generalize (World.setCells (wr.alloc (.cells #[.string ⟨#[]⟩, .int .i64 0, .string ⟨#[]⟩, .int .i64 0, .string ⟨#[]⟩, .string ⟨#[]⟩] 63)) wr.heap.size 0 [.string ⟨rs2.toArray⟩, .int .i64 rn2_, .string ⟨rp2.toArray⟩, .int .i64 rt2, .string ⟨rm2.toArray⟩, .string ⟨rh2.toArray⟩]) = w62 at R6 V6 ⊢; clear HTH HRG; refine Hid.out ?_))
                                refine Lib.hid ?_
                                obtain ⟨R2, hRe⟩ : ∃ R, R = wr.heap.size := ⟨_, rfl⟩
                                have HRE2 := Lib.hid hRe
                                rw [← hRe] at R6 ⊢
                                clear hRe hj0 hjn
                                have r0 := R6.out.cell 0 rfl
                                as_aux_lemma =>
                                  go_wp2_with fail
                                  refine (HRD.out _).mono ?_
                                  rintro e w72 ⟨xa2, xn2, xc2, rfl, hpx, hb⟩
                                  have V7 := Lib.hid (ext_trans V6.out hb)
                                  have R7 := Lib.hid (R6.out.below hb)
                                  have hA : Below w72.heap.size w72 (w72.alloc (.cells #[.slice xa2 xn2 xc2, .int .u8 rel2.pat.tail] 82)) := ext_alloc (Below.refl _ _)
                                  have X82 : Hid (Blk (w72.alloc (.cells #[.slice xa2 xn2 xc2, .int .u8 rel2.pat.tail] 82)) w72.heap.size [.slice xa2 xn2 xc2, .int .u8 rel2.pat.tail] 82) := Blk.new w72 _ _
                                  have V82 := Lib.hid (ext_trans V7.out hA)
                                  have R82 := Lib.hid (R7.out.below hA)
                                  have HPX82 := Lib.hid (hpx.below hA)
                                  clear hb hpx r0 hA V6 V7 R6 R7 HRD
                                  as_aux_lemma =>
                                    unfold patVal
                                    go_upto_region 26 with (fail)
                                    generalize w72.alloc (.cells #[.slice xa2 xn2 xc2, .int .u8 rel2.pat.tail] 82) = w82 at X82 V82 R82 HPX82 ⊢
                                    generalize w72.heap.size = X2 at X82 ⊢
                                    have X9 := Lib.hid (X8.out.below (ext_trans VK.out V82.out))
                                    have x0 := X82.out.cell 0 rfl
                                    have x1 := X82.out.cell 1 rfl
                                    have y0 := X9.out.cell 0 rfl
                                    have y1 := X9.out.cell 1 rfl
                                    have hbf := before_any w82 rel2 rel HELS2.out HELS.out xa2 xn2 xc2 xa xn xc HPX82.out (HPX8.out.below (ext_trans VK.out V82.out))
                                    unfold patVal at hbf
                                    have HBF := Lib.hid hbf
                                    have HPO9 := Lib.hid (HPO.out.below V82.out)
                                    have VK9 := Lib.hid (ext_trans VK.out V82.out)
                                    clear hbf HPO VK V82 HB5
                                    as_aux_lemma =>
                                      go_wp2_with fail
                                      refine HBF.out.mono ?_
                                      rintro e w10 ⟨rfl, hb⟩
                                      have X10 := Lib.hid (X82.out.below hb)
                                      have HPX10 := Lib.hid (HPX82.out.below hb)
                                      have R10 := Lib.hid (R82.out.below hb)
                                      have HPO10 := Lib.hid (HPO9.out.below hb)
                                      have VK10 := Lib.hid (ext_trans VK9.out hb)
                                      clear hb x0 x1 y0 y1 HBF X9 X82 HPX82 R82 HPO9 VK9
                                      generalize hbe : befI rel2 rel = bf
                                      have HBFE := Lib.hid hbe
                                      clear hbe
                                      have r5 := R10.out.cell 5 rfl
                                      as_aux_lemma =>
                                        go_upto_region 27 with (fail)
                                        go_cut [77, 106] from 77 to 111 (fun it v wx => it = .int .i64 kk ∧ ∃ b : Bool, v = .bool b ∧ Hid (b = true → rh2 = [] ∧ (bf < 0 ∨ bf = 0 ∧ kk < i)) ∧ Hid (Below w10.heap.size w10 wx))
                                        case first =>
                                          have hmem : rh2 = [] ∨ rh2 = [104, 97] ∨ rh2 = [104, 98] := by
                                            have h1 := HHR2.out
                                            rcases List.mem_cons.1 h1 with h1 | h1
                                            · exact .inl h1
                                            rcases List.mem_cons.1 h1 with h1 | h1
                                            · exact .inr (.inl h1)
                                            rcases List.mem_cons.1 h1 with h1 | h1
                                            · exact .inr (.inr h1)
                                            · cases h1
                                          rcases hmem with rfl | rfl | rfl
                                          case inr.inl =>
                                            as_aux_lemma =>
                                              go_wp2_with fail
                                              go_meet
                                              exact ⟨rfl, false, rfl, (fun h => absurd h (by decide)), Below.refl _ _⟩
                                          case inr.inr =>
                                            as_aux_lemma =>
                                              go_wp2_with fail
                                              go_meet
                                              exact ⟨rfl, false, rfl, (fun h => absurd h (by decide)), Below.refl _ _⟩
                                          by_cases hlt : bf < 0
                                          · skip
                                            as_aux_lemma =>
                                              go_wp2_with fail
                                              go_meet
                                              exact ⟨rfl, true, rfl, (fun _ => ⟨by first | rfl | trivial, .inl hlt⟩), Below.refl _ _⟩
                                          by_cases he0 : bf = 0
                                          · subst he0
                                            by_cases hki : kk < i
                                            · have hkii : (kk : Int) < (i : Int) := by omega
                                              as_aux_lemma =>
                                                go_wp2_with fail
                                                go_meet
                                                exact ⟨rfl, true, by simp, (fun _ => ⟨by first | rfl | trivial, .inr ⟨by first | rfl | trivial, hki⟩⟩), Below.refl _ _⟩
                                            · have hkii : ¬ ((kk : Int) < (i : Int)) := by omega
                                              as_aux_lemma =>
                                                go_wp2_with fail
                                                go_meet
                                                exact ⟨rfl, false, by simp, (fun h => absurd h (by decide)), Below.refl _ _⟩
                                          · have heb : (bf == 0) = false := by simpa using he0
                                            as_aux_lemma =>
                                              go_wp2_with fail
                                              go_meet
                                              exact ⟨rfl, false, by simp, (fun h => absurd h (by decide)), Below.refl _ _⟩
                                        case rest =>
                                          obtain ⟨rfl, b, rfl, hbt, hV⟩ := hcut
                                          obtain ⟨w11, rfl⟩ : ∃ x : World, x = wc := ⟨_, rfl⟩
                                          have X11 := Lib.hid (X10.out.below hV.out)
                                          have HPX11 := Lib.hid (HPX10.out.below hV.out)
                                          have HPO11 := Lib.hid (HPO10.out.below hV.out)
                                          have VK11 := Lib.hid (ext_trans VK10.out hV.out)
                                          clear hV r5 X10 HPX10 R10 HPO10 VK10
                                          cases b
                                          case false =>
                                            clear X11 HPX11 hbt
                                            as_aux_lemma =>
                                              go_wp2_with fail
                                              go_roundw
                                              case rel => exact ⟨kk + 1, lO, by omega, by go_num, HPO11, VK11, HFO.out.1, by have := HFO.out.2; omega⟩
                                              case measure => simp [intOf]; omega
                                          have HAH : Hid (AheadOf ctxs l q i rel2.pat) := .inr ⟨kk, by rw [HCE.out]; show kk < rules.length; have := HRN.out; omega, by rw [HCE.out]; show (rules.getD kk noDRule).hours = []; rw [HRL2.out]; exact (hbt.out rfl).1, by rw [HCE.out]; show _ = (rules.getD kk noDRule).els.pat; rw [HRL2.out], by
                                            rw [HCE.out]
                                            show befI (rules.getD kk noDRule).els (rules.getD i noDRule).els < 0 ∨ befI (rules.getD kk noDRule).els (rules.getD i noDRule).els = 0 ∧ kk < i
                                            rw [HRL2.out, HRL.out]
                                            show befI rel2 rel < 0 ∨ befI rel2 rel = 0 ∧ kk < i
                                            rw [HBFE.out]
                                            exact (hbt.out rfl).2⟩
                                          have HOK2 := Lib.hid (Els.ok HELS2.out)
                                          have x0 := X11.out.cell 0 rfl
                                          have x1 := X11.out.cell 1 rfl
                                          have HLM : Hid (lO.length + 1 ≤ maxLen ∧ (lO.length + 1) * 32 ≤ 140737488355328) := by
                                            have h1 := HFO.out.2
                                            have h3 := HFA.out.2.1
                                            have h4 := HC12.out q (by omega)
                                            exact ⟨by unfold maxLen; omega, by omega⟩
                                          have hZ11 : w8.heap.size ≤ w11.heap.size := VK11.out.size
                                          clear hbt
                                          obtain ⟨wn, hwn⟩ : ∃ w', w' = w11.alloc (.cells #[.slice xa2 xn2 xc2, .int .u8 rel2.pat.tail] 82) := ⟨_, rfl⟩
                                          have hbn : Below w11.heap.size w11 wn := by rw [hwn]; exact ext_alloc (Below.refl _ _)
                                          have VN := Lib.hid hbn
                                          have HZN : Hid (Blk wn w11.heap.size [.slice xa2 xn2 xc2, .int .u8 rel2.pat.tail] 82) := by rw [hwn]; exact Blk.new _ _ _
                                          have HNW : Hid (∀ j u, (pvCells ⟨xa2, xn2, xc2, rel2.pat⟩)[j]? = some u → wn.cell? ((⟨w11.heap.size, 0, none⟩ : Addr).add j) = some u) := fun j u hj => by
                                            rw [show (⟨w11.heap.size, 0, none⟩ : Addr).add j = ⟨w11.heap.size, j, none⟩ by cases j <;> simp [Addr.add]]
                                            exact HZN.out.cell j hj
                                          have HPN := Lib.hid (HPO11.out.below hbn)
                                          have HON := Lib.hid HPN.out.own
                                          have HWN := Lib.hid hwn
                                          clear hbn hwn
                                          as_aux_lemma =>
                                            go_upto_region 29 with (first | (at_builtin; rw [← HWN.out]; refine wpList_append_own_at _ rfl (.tmp 107) (.tmp 109) 119 rfl w8.heap.size 82 i1 (.agg #[.slice none 0 0, .int .u8 0]) 2 32 Tryz.underlying119 hi hz0 hz1 hz2 rfl (by decide) u19 lO.length (pvRow lO) rfl HON.out ⟨w11.heap.size, 0, none⟩ 1 1 (pvCells ⟨xa2, xn2, xc2, rel2.pat⟩) rfl rfl HNW.out (by intro u hu; simp [pvCells] at hu; rcases hu with rfl | rfl <;> rfl) HLM.out.1 HLM.out.2 (by have := VN.out.size; omega) ?_; intro vn v9n hon hgn _ hat) | fail)
                                            have HP7 := Lib.hid (HPN.out.more hgn hon (HPX11.out.below VN.out) HOK2.out)
                                            have VK7 : Hid (Below w8.heap.size w8 v9n) := (ext_trans VK11.out VN.out).grown hgn (by have := (ext_trans VK11.out VN.out).size; exact this) (fun b hb => by have h1 := (HPN.out.own.lt b hb).1; omega)
                                            clear hat hon hgn x0 x1 HWN HON HPN HNW HZN
                                            as_aux_lemma =>
                                              go_wp2_with fail
                                              go_roundw
                                              case rel => exact ⟨kk + 1, lO ++ [⟨xa2, xn2, xc2, rel2.pat⟩], by omega, by go_num, HP7, VK7, (fun x hx => by
                                                rcases List.mem_append.1 hx with hx | hx
                                                · exact HFO.out.1 x hx
                                                · simp at hx; subst hx; exact HAH.out), by rw [List.length_append]; have := HFO.out.2; simp; omega⟩
                                              case measure => simp [intOf]; omega
end Go.Proofs.YtamlhapiehchoaaGreatDoor

set_option linter.unusedVariables false
set_option linter.unusedSimpArgs false
namespace Go.Proofs.YtamlhapiehchoaaGreatDoor
open Go.RowKit Go.Lib

set_option maxRecDepth 100000 in
theorem hidCtx_call (xk k : List UInt8) (ra ia : Option Addr) (rn rc inn ic : Nat) (A : Nat) (W : World) (hA : A < W.heap.size) (c0 : W.cell? ⟨A, 0, none⟩ = some (.string ⟨k.toArray⟩)) :
    Calls Tryz.prog 19 #[.agg #[.string ⟨xk.toArray⟩, .slice ra rn rc, .slice ia inn ic], .pointer (some ⟨A, 0, none⟩)] W (BoolP (decide (xk = k)) W) := by
  have hne : A ≠ W.heap.size := by omega
  go_enter Tryz.func19, Tryz.ntmps19
  go_wp2_with fail
  go_ret
  exact ⟨by by_cases h : xk = k <;> simp [h], (by (try show Below _ _ _); repeat (with_reducible first | exact Below.refl _ _ | assumption | exact Hid.out (by assumption) | refine ext_alloc ?_ | refine ext_drewN ?_ | refine ext_drew ?_ | refine ext_setCell ?_ (Nat.le_refl _) | refine ext_setCell ?_ (Nat.le_succ _) | refine ext_trans ?_ (by assumption) | (refine ext_setCell ?_ (by simp)) | (refine ext_setCell ?_ (by simp at *; omega))))⟩
theorem hidCtx_pred (k : List UInt8) (A : Nat) (w : World) (hA : A < w.heap.size) (c0 : w.cell? ⟨A, 0, none⟩ = some (.string ⟨k.toArray⟩)) : PredBelow Tryz.prog 19 #[.pointer (some ⟨A, 0, none⟩)] (fun x : DCtx => .agg (DCtx.cells x).toArray) (fun x => decide (x.key = k)) w := fun W x hb =>
  (hidCtx_call x.key k x.ra x.ia x.rn x.rc x.inn x.ic A W (Nat.lt_of_lt_of_le hA hb.size) ((hb.cell (p := ⟨A, 0, none⟩) hA).trans c0)).mono fun e w' h => ⟨h.1, ext_trans hb h.2⟩
set_option maxRecDepth 100000 in
theorem hidHit_call (xk k : List UInt8) (xi i z : Int) (s1 s2 : ByteArray) (A : Nat) (W : World) (hA : A < W.heap.size) (c0 : W.cell? ⟨A, 0, none⟩ = some (.string ⟨k.toArray⟩)) (c1 : W.cell? ⟨A, 1, none⟩ = some (.int .i64 i)) :
    Calls Tryz.prog 21 #[.agg #[.string ⟨xk.toArray⟩, .int .i64 xi, .int .i64 z, .string s1, .string s2], .pointer (some ⟨A, 0, none⟩)] W (BoolP (decide (xk = k) && decide (xi = i)) W) := by
  have hne : A ≠ W.heap.size := by omega
  by_cases hk : xk = k
  · subst hk
    by_cases hi : xi = i
    · subst hi
      go_enter Tryz.func21, Tryz.ntmps21
      go_wp2_with fail
      go_ret
      exact ⟨by simp, (by (try show Below _ _ _); repeat (with_reducible first | exact Below.refl _ _ | assumption | exact Hid.out (by assumption) | refine ext_alloc ?_ | refine ext_drewN ?_ | refine ext_drew ?_ | refine ext_setCell ?_ (Nat.le_refl _) | refine ext_setCell ?_ (Nat.le_succ _) | refine ext_trans ?_ (by assumption) | (refine ext_setCell ?_ (by simp)) | (refine ext_setCell ?_ (by simp at *; omega))))⟩
    · have hib : (xi == i) = false := by simpa using hi
      go_enter Tryz.func21, Tryz.ntmps21
      go_wp2_with fail
      go_ret
      exact ⟨by simp [hi], (by (try show Below _ _ _); repeat (with_reducible first | exact Below.refl _ _ | assumption | exact Hid.out (by assumption) | refine ext_alloc ?_ | refine ext_drewN ?_ | refine ext_drew ?_ | refine ext_setCell ?_ (Nat.le_refl _) | refine ext_setCell ?_ (Nat.le_succ _) | refine ext_trans ?_ (by assumption) | (refine ext_setCell ?_ (by simp)) | (refine ext_setCell ?_ (by simp at *; omega))))⟩
  · have hkb : (xk == k) = false := by simpa using hk
    go_enter Tryz.func21, Tryz.ntmps21
    go_wp2_with fail
    go_ret
    exact ⟨by simp [hk], (by (try show Below _ _ _); repeat (with_reducible first | exact Below.refl _ _ | assumption | exact Hid.out (by assumption) | refine ext_alloc ?_ | refine ext_drewN ?_ | refine ext_drew ?_ | refine ext_setCell ?_ (Nat.le_refl _) | refine ext_setCell ?_ (Nat.le_succ _) | refine ext_trans ?_ (by assumption) | (refine ext_setCell ?_ (by simp)) | (refine ext_setCell ?_ (by simp at *; omega))))⟩
theorem hidHit_pred (cs : List DCtx) (k : List UInt8) (i : Nat) (A : Nat) (w : World) (hA : A < w.heap.size) (c0 : w.cell? ⟨A, 0, none⟩ = some (.string ⟨k.toArray⟩)) (c1 : w.cell? ⟨A, 1, none⟩ = some (.int .i64 i)) : PredBelow Tryz.prog 21 #[.pointer (some ⟨A, 0, none⟩)] (fun x : Nat × Nat => .agg (htCells cs x).toArray) (fun x => decide ((cs.getD x.1 noDCtx).key = k) && decide ((x.2 : Int) = (i : Int))) w := fun W x hb =>
  (hidHit_call (cs.getD x.1 noDCtx).key k x.2 i _ _ _ A W (Nat.lt_of_lt_of_le hA hb.size) ((hb.cell (p := ⟨A, 0, none⟩) hA).trans c0) ((hb.cell (p := ⟨A, 1, none⟩) hA).trans c1)).mono fun e w' h => ⟨h.1, ext_trans hb h.2⟩
set_option maxRecDepth 100000 in
theorem idxHt_nil (a : Option Addr) (c : Nat) (fv : Value) (w : World) : Calls Tryz.prog 52 #[.slice a 0 c, fv] w fun e w' => e = .returned (.int .i64 (-1)) ∧ w = w' := by
  go_enter Tryz.func52, Tryz.ntmps52
  go_wp2_with fail
  go_loopw [8] (fun i wr => i = .int .i64 0 ∧ wr = w) (fun i _ => 0)
  case atStart => exact ⟨rfl, rfl⟩
  case round =>
    obtain ⟨rfl, rfl⟩ := hrel
    go_wp2_with fail
    go_ret
    exact ⟨rfl, rfl⟩
theorem HRow.shape {cs : List DCtx} {w : World} {base : Nat} {v : Value} {l : List (Nat × Nat)} (h : HRow cs w base v l) : ∃ a c, v = .slice a l.length c ∧ (l = [] ∨ ∃ g, a = some ⟨g, 0, none⟩ ∧ g < w.heap.size ∧ ∀ j, j < l.length → ∀ i u, (htCells cs l[j]!)[i]? = some u → w.cell? ⟨g, 0 + j * 5 + i, none⟩ = some u) := by
  rcases h.own.2 with ⟨rfl, h0⟩ | ⟨g, cap, cur, rfl, _, hg, _, _, _, ht⟩
  · exact ⟨none, 0, by rw [h0], .inl (List.eq_nil_of_length_eq_zero h0)⟩
  · refine ⟨_, cap, rfl, .inr ⟨g, rfl, (Array.getElem?_eq_some_iff.1 hg).1, fun j hj i u hu => ?_⟩⟩
    have hi : i < 5 := (List.getElem?_eq_some_iff.1 hu).1
    have h1 : (htRow cs l)[j * 5 + i]? = some u := by
      have := flat_atF (htCells cs) 5 (fun x => rfl) l j i default hj hi
      rw [← bang_is hj, hu] at this
      exact this
    rw [← ht, List.getElem?_take_of_lt (by omega)] at h1
    rw [Nat.zero_add]
    simp only [World.cell?, hg]
    simpa using h1
set_option maxRecDepth 100000 in
theorem hasHt_any (g : Nat) (lb : Array Value) (eg : ∀ args w, (callFunc g args).run Tryz.prog w = .ok (.enter g args) w) (w : World) (cs : List DCtx) (base : Nat) (v : Value) (l : List (Nat × Nat)) (h : HRow cs w base v l) (hm : l.length ≤ 1000) (p : Nat × Nat → Bool) (hp : PredBelow Tryz.prog g lb (fun x : Nat × Nat => .agg (htCells cs x).toArray) p w) :
    Calls Tryz.prog 20 #[v, .func (.func g) #[] lb] w fun e w' => e = .returned (.bool (l.any p)) ∧ Below w.heap.size w w' := by
  obtain ⟨a, c, rfl, hs⟩ := h.shape
  have HA : Hid (l.any p = decide (0 ≤ Lib.idxBy (fun _ y => p y) l default)) := (Lib.idxBy_nonneg_iff (fun _ y => p y) l default).symm
  have HI : Hid (Calls Tryz.prog 52 #[.slice a l.length c, .func (.func g) #[] lb] w fun e w' => e = .returned (.int .i64 (Lib.idxBy (fun _ y => p y) l default)) ∧ Below w.heap.size w w') := by
    rcases hs with rfl | ⟨b, rfl, hb, hc⟩
    · exact (idxHt_nil a c _ w).mono (by rintro e w' ⟨rfl, rfl⟩; exact ⟨rfl, Below.refl _ _⟩)
    · have := Tryz.slices_idxHt (htCells cs) (fun _ => rfl) p g lb eg b 0 l.length c l w hp (Nat.le_refl _) (by omega) hb hc
      rw [List.take_of_length_le (Nat.le_refl _)] at this
      exact this
  clear h hp hs
  generalize Lib.idxBy (fun _ y => p y) l default = D at HA HI
  generalize l.any p = B at HA ⊢
  generalize l.length = n at HI ⊢
  by_cases hD : 0 ≤ D
  · obtain rfl : B = true := by rw [HA.out]; simpa using hD
    clear HA
    go_enter Tryz.func20, Tryz.ntmps20
    go_wp2_with fail
    refine HI.out.mono ?_
    rintro e w' ⟨rfl, hb'⟩
    have HB := Lib.hid hb'
    clear hb'
    go_wp2_with fail
    go_ret
    exact ⟨rfl, HB.out⟩
  · obtain rfl : B = false := by rw [HA.out]; simpa using hD
    clear HA
    go_enter Tryz.func20, Tryz.ntmps20
    go_wp2_with fail
    refine HI.out.mono ?_
    rintro e w' ⟨rfl, hb'⟩
    have HB := Lib.hid hb'
    clear hb'
    go_wp2_with fail
    go_ret
    exact ⟨by first | rfl | simp [hD], HB.out⟩
theorem ctxKey_inj : ∀ a, a < 3 → ∀ b, b < 3 → ctxKey a = ctxKey b → a = b := by decide
/-- No hidden rule is the one that decides. -/
theorem hid_not {cs : List DCtx} {L : List Nat} {op : DRule → Bool} {d : List Nat} {k i : Nat} {hs : List (Nat × Nat)} (hL : ∀ x ∈ L, x < 3) (hkeys : ∀ i, i < 3 → (cs.getD i noDCtx).key = ctxKey i) (hk : k < 3) (h : ∀ x ∈ hs, HidAt cs L x.1 x.2) (hn : ∀ k i, HidAt cs L k i → decAll cs op d L ≠ some (k, i)) (hd : decAll cs op d L = some (k, i)) : (hs.any fun x => decide ((cs.getD x.1 noDCtx).key = ctxKey k) && decide ((x.2 : Int) = (i : Int))) = false := by
  rw [List.any_eq_false]
  intro x hx
  rw [Bool.and_eq_true, decide_eq_true_eq, decide_eq_true_eq]
  rintro ⟨h1, h2⟩
  have hh := h x hx
  obtain ⟨a, ha, hax, _⟩ := hh
  have hx3 : x.1 < 3 := by
    rw [← hax]
    refine hL _ ?_
    rw [List.getD_eq_getElem?_getD, List.getElem?_eq_getElem ha]
    exact List.getElem_mem ha
  rw [hkeys _ hx3] at h1
  have e1 := ctxKey_inj _ hx3 _ hk h1
  have e2 : x.2 = i := by omega
  have := hn _ _ (h x hx)
  rw [e1, e2] at this
  exact this hd
end Go.Proofs.YtamlhapiehchoaaGreatDoor
