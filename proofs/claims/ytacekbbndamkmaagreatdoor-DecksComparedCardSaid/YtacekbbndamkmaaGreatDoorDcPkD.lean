/- What is proved here: lemmas and contracts for the statement, put together out of smaller texts (DkmSet, PlanDraw, PortLit, CarrBox, FlatSet, CarrTwo, DkmLst, DkmPre, CloneS, SortS, DkmLis, DkmPrf, StrMath, SlipA, SlipB). No condition beyond those stated. -/
import Derived.Test.YtacekbbndamkmaaGreatDoorDcPkB
import Derived.Test.YtacekbbndamkmaaGreatDoorDcPkC
import Derived.Maps.RangeWalk
import Derived.Maps.OwnSet
import Derived.Maps.OwnOps
import Derived.Maps.Views
import Derived.Test.YtacekbbndamkmaaGreatDoorDcPkA
import Derived.Deep.MidRow
import Derived.Maps.AppendAt
import Derived.Laws.BytesString
import Derived.Test.YtacekbbndamkmaaGreatDoorShelfSlip
import Derived.Sort.OwnSorted
import Derived.Laws.Runes
import Derived.Deep.QuietTactic
import Derived.BigQuiet
import Derived.IntWalk
import Derived.Lib.OthersKept
import Derived.WalkSmall
set_option linter.unusedVariables false
set_option linter.unusedSimpArgs false
namespace Go.Proofs.YtacekbbndamkmaaGreatDoor
open Go.RowKit
open Go.Maps

def rdB (v : Value) : Option (DataW Value × List MemPlace) := match v with
  | .bool x => some (.held (.bool x), [])
  | _ => none
theorem rdB_inv {v : Value} {y : DataW Value × List MemPlace} (h : rdB v = some y) : ∃ c, v = .bool c ∧ y = (.held v, []) := by
  unfold rdB at h
  split at h
  · rename_i a
    exact ⟨a, rfl, by injection h with h; exact h.symm⟩
  · cases h
def keyT (s : List UInt8) : Lit := .string s
theorem keyT_inj {p q : List UInt8} (h : keyT p = keyT q) : p = q := by unfold keyT at h; injection h
theorem keyT_lit (p : List UInt8) : WideAt.IsKeyLit (keyT p) := by unfold keyT; trivial
theorem Tryz.lawT : Keyed Tryz.prog 9 := string_keyed Tryz.underlying9
theorem keyT_ok (s : List UInt8) (hs : s.length ≤ 100000) : keyOf Tryz.prog 9 (.string ⟨s.toArray⟩) = some (keyT s) := by
  have h1 := Tryz.underlying9
  unfold keyOf
  simp only [h1]
  unfold mapKey
  simp only [h1]
  have h2 : (⟨s.toArray⟩ : ByteArray).size ≤ maxLen := by
    show s.toArray.size ≤ _
    simp only [maxLen, List.size_toArray]; omega
  rw [if_pos h2]
  rfl
theorem keyT_inv {key : Value} {kl : Lit} (h : keyOf Tryz.prog 9 key = some kl) : ∃ b : ByteArray, key = .string b ∧ kl = keyT b.data.toList := by
  have h1 := Tryz.underlying9
  unfold keyOf at h
  simp only [h1] at h
  unfold mapKey at h
  generalize Tryz.prog.underlying 9 = u at h h1
  subst h1
  cases key <;> simp at h
  exact ⟨_, rfl, h.2.symm⟩
/-- The map holds just the strings of K. -/
def MapSet (D : DataW Value) (K : List (List UInt8)) : Prop :=
  (∀ kl, Maps.has D kl = true → ∃ s ∈ K, kl = keyT s) ∧ ∀ s ∈ K, Maps.has D (keyT s) = true ∧ ∀ z, D.atKey (keyT s) z = .held (.bool true)
theorem MapSet.start : MapSet (.map []) [] := ⟨fun kl h => by simp [Maps.has] at h, fun s h => by cases h⟩
theorem MapSet.put {D : DataW Value} {K : List (List UInt8)} (h : MapSet D K) (hD : IsMap D) (s : List UInt8) : MapSet (D.put (keyT s) (.held (.bool true))) (K ++ [s]) := by
  refine ⟨fun kl hk => ?_, fun t ht => ?_⟩
  · by_cases he : kl = keyT s
    · exact ⟨s, by simp, he⟩
    · rw [has_put_other he] at hk
      obtain ⟨t, ht, e⟩ := h.1 kl hk
      exact ⟨t, List.mem_append_left _ ht, e⟩
  · by_cases he : t = s
    · subst he
      exact ⟨has_put_same hD (keyT_lit _) _, fun z => atKey_put_same hD (keyT_lit _) _ z⟩
    · have hne : keyT t ≠ keyT s := fun e => he (keyT_inj e)
      rcases List.mem_append.1 ht with h9 | h9
      · obtain ⟨h1, h2⟩ := h.2 t h9
        exact ⟨by rw [has_put_other hne]; exact h1, fun z => by rw [atKey_put_other hne]; exact h2 z⟩
      · exact absurd (List.mem_singleton.1 h9) he
theorem MapSet.has_iff {D : DataW Value} {K : List (List UInt8)} (h : MapSet D K) (s : List UInt8) : Maps.has D (keyT s) = decide (s ∈ K) := by
  by_cases hs : s ∈ K
  · rw [(h.2 s hs).1, decide_eq_true hs]
  · rw [decide_eq_false hs]
    cases hh : Maps.has D (keyT s) with
    | false => rfl
    | true =>
      obtain ⟨t, ht, e⟩ := h.1 _ hh
      rw [keyT_inj e] at hs
      exact absurd ht hs
/-- So many different strings of K are no more than K has. -/
theorem pigeonT : ∀ (K ks : List (List UInt8)), ks.Pairwise (· ≠ ·) → (∀ k ∈ ks, k ∈ K) → ks.length ≤ K.length
  | [], [], _, _ => Nat.le_refl _
  | [], k :: ks, _, h => by have := h k List.mem_cons_self; cases this
  | L :: K, ks, hp, h => by
    have h1 := pigeonT K (ks.filter (· ≠ L)) (hp.filter _) (fun k hk => by
      have h2 := List.mem_filter.1 hk
      have h4 : k ≠ L := by simpa using h2.2
      rcases List.mem_cons.1 (h k h2.1) with h5 | h5
      · exact absurd h5 h4
      · exact h5)
    have h5 : ks.length ≤ (ks.filter (· ≠ L)).length + 1 := by
      clear h h1
      induction ks with
      | nil => simp
      | cons k ks ih =>
        rw [List.pairwise_cons] at hp
        have h6 := ih hp.2
        by_cases hk : k = L
        · subst hk
          have : ks.filter (· ≠ k) = ks := by
            rw [List.filter_eq_self]
            intro x hx
            have := hp.1 x hx
            simpa using fun e => this e.symm
          rw [List.filter_cons, this]
          simp
        · rw [List.filter_cons, if_pos (by simpa using hk)]
          simp only [List.length_cons]
          omega
    simp only [List.length_cons]
    omega
/-- A map all of whose keys are in K has no more entries than K has elements. -/
theorem own_keysT {w : World} {b n : Nat} {D : DataW Value} (h : w.ownsMap Tryz.prog 9 rdB b n D) (K : List (List UInt8)) (hk : ∀ kl, Maps.has D kl = true → ∃ s ∈ K, kl = keyT s) : w.ownsMap Tryz.prog 9 rdB b K.length D := by
  obtain ⟨es2, hD, hpw, hlit⟩ := h.entries Tryz.lawT
  obtain ⟨es, clock, hb, F, hs, hD2⟩ := h
  refine ⟨es, clock, hb, F, ?_, hD2⟩
  have hsz : es.size = es2.length := by
    have := hD2.symm.trans hD
    injection this with this
    rw [← this, length_sorted]
    simp
  rw [hsz]
  have hall : ∀ p ∈ es2, ∃ q ∈ K, p.1 = keyT q := fun p hp => by
    refine hk p.1 ?_
    rw [hD]
    exact List.any_eq_true.2 ⟨p, hp, WideAt.sameKey_self (hlit p hp)⟩
  have hks : ∃ ks : List (List UInt8), ks.map keyT = es2.map (·.1) ∧ ∀ k ∈ ks, k ∈ K := by
    clear hD hpw hlit hsz hD2
    induction es2 with
    | nil => exact ⟨[], rfl, fun k hk => by cases hk⟩
    | cons p es2 ih =>
      obtain ⟨ks, h1, h2⟩ := ih (fun q hq => hall q (List.mem_cons_of_mem _ hq))
      obtain ⟨q, h3, h4⟩ := hall p List.mem_cons_self
      refine ⟨q :: ks, by simp [h1, h4], fun k hk => ?_⟩
      rcases List.mem_cons.1 hk with rfl | hk
      · exact h3
      · exact h2 k hk
  obtain ⟨ks, h1, h2⟩ := hks
  have hlen : ks.length = es2.length := by have := congrArg List.length h1; simpa using this
  rw [← hlen]
  refine pigeonT K ks ?_ h2
  have h3 : (es2.map (·.1)).Pairwise (· ≠ ·) := List.pairwise_map.2 hpw
  rw [← h1] at h3
  exact (List.pairwise_map.1 h3).imp fun h e => h (by rw [e])
theorem isMap_set {w : World} {b n : Nat} {D : DataW Value} (h : w.ownsMap Tryz.prog 9 rdB b n D) : IsMap D := by
  obtain ⟨es, clock, hb, F, hs, rfl⟩ := h
  exact ⟨_, rfl⟩
/-- A look-up in such a map says whether the string is in it. -/
theorem wpList_lookup_set {P : Program} (w : World) {ops : Array Oper} {rest : List Oper} {o : Oper} {a : Act} {Q : Exit → Act → World → Prop}
    (hg : o.guard = none) (m x : Operand) (t : TypeId) (hop : o.op = Op.lookup t m x false)
    (k e : TypeId) (K : Keyed P k) (ht : P.underlying t = some (.map k e)) (hz : (zeroValue e).run P w = .ok (.bool false) w) (b n : Nat) (D : DataW Value) (S : List (List UInt8)) (hS : MapSet D S)
    (hm : a.eval m = .map (some b)) (hown : w.ownsMap P k rdB b n D) (key : Value) (s : List UInt8) (hx : a.eval x = key) (hkey : keyOf P k key = some (keyT s))
    (hK : wpList P ops Q rest (a.put o.dst (.bool (decide (s ∈ S)))) w) :
    wpList P ops Q (o :: rest) a w := by
  refine wpList_plain hg fun K' hK' => ?_
  obtain ⟨v, ps, hrun, hv⟩ := hown.lookup K ht hz (zd := .held (.bool false)) (zp := []) rfl hkey
  have hvv : v = .bool (decide (s ∈ S)) := by
    obtain ⟨c, rfl, he⟩ := rdB_inv hv
    have h1 := congrArg Prod.fst he
    simp only at h1
    by_cases hs : s ∈ S
    · rw [(hS.2 s hs).2] at h1
      injection h1 with h1
      rw [← h1, decide_eq_true hs]
    · have hh := hS.has_iff s
      rw [decide_eq_false hs] at hh
      rw [atKey_of_not_has hh] at h1
      injection h1 with h1
      rw [← h1, decide_eq_false hs]
  subst hvv
  unfold Oper.wp
  simp [execOp, hop, hm, hx, hrun, Result.andThen]
  exact hK' _ _ hK
end Go.Proofs.YtacekbbndamkmaaGreatDoor

set_option linter.unusedVariables false
set_option linter.unusedSimpArgs false
namespace Go.Proofs.YtacekbbndamkmaaGreatDoor
open Go.RowKit

theorem range_gen (S k : Nat) (lo hi : Int) (w : World) (h : StreamOk w S k) (hk : k ≤ 1000000000) (h2 : -4611686018427387904 ≤ lo) (h3 : hi ≤ 4611686018427387000) :
    Calls Tryz.prog 82 #[.pointer (some ⟨S, 0, none⟩), .int .i64 lo, .int .i64 hi] w (PickPost S (k + 1) (fun r => lo ≤ r ∧ (r ≤ lo ∨ r ≤ hi)) w) := by
  by_cases hlt : hi < lo
  · have HS := Lib.hid (h.mono (Nat.le_succ _))
    clear h
    go_enter Tryz.func82, Tryz.ntmps82
    go_wp2_with fail
    go_ret
    exact ⟨lo, rfl, ⟨Int.le_refl _, Or.inl (Int.le_refl _)⟩, HS.out, Keeps.refl _ _⟩
  · refine (range_any S k lo hi w h hk (by omega) h2 h3).mono ?_
    rintro e w' ⟨r, rfl, r0, r1, hst, hkp⟩
    exact ⟨r, rfl, ⟨r0, Or.inr r1⟩, hst, hkp⟩

set_option maxRecDepth 100000 in
theorem odd_any (S k : Nat) (lo hi : Int) (w : World) (h : StreamOk w S k) (hk : k ≤ 100000000) (h0 : 0 ≤ lo) (h1 : lo ≤ hi) (h2 : hi ≤ 400000000000) :
    Calls Tryz.prog 39 #[.pointer (some ⟨S, 0, none⟩), .int .i64 lo, .int .i64 hi] w (PickPost S (k + 2) (fun r => -1099511627776 ≤ r ∧ r ≤ 1099511627776) w) := by
  have HS := Lib.hid h
  have hlt := h.lt
  clear h
  go_enter Tryz.func39, Tryz.ntmps39
  go_wp2_with fail
  refine (flip_any S k 12 _ HS.out (by omega) (by decide) (by decide)).mono ?_
  rintro e w1 ⟨r, rfl, hst, hkp⟩
  have HS1 := Lib.hid hst
  have HK1 := Lib.hid hkp
  have hl1 := hst.lt
  clear hst hkp
  cases r
  · go_wp2_with fail
    refine (range_any S (k + 1) lo hi _ HS1.out (by omega) h1 (by omega) (by omega)).mono ?_
    rintro e w2 ⟨r, rfl, r0, r1, hst2, hkp2⟩
    have HK2 := Lib.hid (HK1.out.trans hkp2)
    have HS2 := Lib.hid hst2
    clear hst2 hkp2
    go_wp2_with fail
    go_ret
    exact ⟨r, rfl, ⟨by omega, by omega⟩, HS2.out, HK2.out⟩
  · go_wp2_with fail
    refine (pick_any S (k + 1) w1.heap.size 6 6 [lo - 1, hi + 1, lo, hi, -1099511627776, 1099511627776] (fun r => -1099511627776 ≤ r ∧ r ≤ 1099511627776) _ (HS1.out.below (ext_alloc (Below.refl _ _))) (by omega) (by simp) (by omega) (by omega) (by omega) (fun i h9 => by match i, h9 with | 0, _ | 1, _ | 2, _ | 3, _ | 4, _ | 5, _ => go_simp) (fun i h9 => by match i, h9 with | 0, _ => exact ⟨by show _ ≤ lo - 1; omega, by show lo - 1 ≤ _; omega⟩ | 1, _ => exact ⟨by show _ ≤ hi + 1; omega, by show hi + 1 ≤ _; omega⟩ | 2, _ => exact ⟨by show _ ≤ lo; omega, by show lo ≤ _; omega⟩ | 3, _ => exact ⟨by show _ ≤ hi; omega, by show hi ≤ _; omega⟩ | 4, _ => exact ⟨by show (-1099511627776 : Int) ≤ -1099511627776; decide, by show (-1099511627776 : Int) ≤ 1099511627776; decide⟩ | 5, _ => exact ⟨by show (-1099511627776 : Int) ≤ 1099511627776; decide, by show (1099511627776 : Int) ≤ 1099511627776; decide⟩)).mono ?_
    rintro e w2 ⟨r, rfl, hr, hst2, hkp2⟩
    have HK2 := Lib.hid ((HK1.out.alloc _).trans hkp2)
    have HS2 := Lib.hid hst2
    have HR := Lib.hid hr
    clear hst2 hkp2 hr
    go_wp2_with fail
    go_ret
    exact ⟨r, rfl, HR.out, HS2.out, HK2.out⟩

/-! ### Plans in memory that may be written -/
/-- Country i of a plan in block P, with its areas in a block of their own. -/
structure CtryAt (S P : Nat) (base : Nat) (w : World) (i : Nat) (c : Ctry) (b : Nat) : Prop where
  cells : ∀ j, j < 4 → w.cell? ⟨P, i * 4 + j, none⟩ = c.cells[j]?
  fine : CtryFine w c
  some : 1 ≤ c.an
  at_ : c.aa = Option.some ⟨b, 0, none⟩
  off : b ≠ S
  offP : b ≠ P
  lt : b < w.heap.size
  new : base ≤ b
  fro : ∀ j, w.frozen? ⟨b, j, none⟩ = false
structure PlanAt (S P : Nat) (base : Nat) (w : World) (l : List Ctry) (bs : List Nat) : Prop where
  len : l.length = 3
  each : ∀ i, i < 3 → CtryAt S P base w i (l.getD i noCtry) (bs.getD i 0)
  offS : P ≠ S
  lt : P < w.heap.size
  new : base ≤ P
  fro : ∀ j, w.frozen? ⟨P, j, none⟩ = false

def areaCells (l : List Area) : List Value := l.flatMap Area.cells
/-- A plan that a stream has handed out. -/
def PlanPost (S k : Nat) (w : World) (e : Ending) (w' : World) : Prop :=
  ∃ (P : Nat) (l : List Ctry), e = .returned (.slice (some ⟨P, 0, none⟩) 3 3) ∧ (∀ w9, Keeps S w' w9 → CtryRow w9 (some ⟨P, 0, none⟩) 3 l) ∧ (∀ i, i < l.length → 1 ≤ (l.getD i noCtry).an) ∧ StreamOk w' S k ∧ Keeps S w w'

theorem AreaRow.keeps {S : Nat} {w w' : World} {b n : Nat} {l : List Area} (h : AreaRow w (some ⟨b, 0, none⟩) n l) (hb : b ≠ S) (hk : Keeps S w w') : AreaRow w' (some ⟨b, 0, none⟩) n l := by
  refine ⟨h.len, h.row.imp id ?_⟩
  rintro ⟨b9, off, ha, hl, hc⟩
  injection ha with ha
  injection ha with e1 e2
  subst e1 e2
  exact ⟨b, 0, rfl, Nat.lt_of_lt_of_le hl hk.size, fun i hi j hj => (hk.cell (p := ⟨b, 0 + i * 3 + j, none⟩) hl hb).trans (hc i hi j hj)⟩
theorem CtryAt.keeps {S P base : Nat} {w w' : World} {i : Nat} {c : Ctry} {b : Nat} (h : CtryAt S P base w i c b) (hP : P < w.heap.size) (hS : P ≠ S) (hk : Keeps S w w') : CtryAt S P base w' i c b :=
  ⟨fun j hj => (hk.cell (p := ⟨P, i * 4 + j, none⟩) hP hS).trans (h.cells j hj), ⟨h.fine.code, h.fine.abroad, h.fine.trunk, h.fine.many, by have := h.fine.row; rw [h.at_] at this ⊢; exact this.keeps h.off hk, h.fine.each⟩, h.some, h.at_, h.off, h.offP, Nat.lt_of_lt_of_le h.lt hk.size, h.new, fun j => (hk.frozen (p := ⟨b, j, none⟩) h.lt h.off).trans (h.fro j)⟩
theorem PlanAt.keeps {S P base : Nat} {w w' : World} {l : List Ctry} {bs : List Nat} (h : PlanAt S P base w l bs) (hk : Keeps S w w') : PlanAt S P base w' l bs :=
  ⟨h.len, fun i hi => (h.each i hi).keeps h.lt h.offS hk, h.offS, Nat.lt_of_lt_of_le h.lt hk.size, h.new, fun j => (hk.frozen (p := ⟨P, j, none⟩) h.lt h.offS).trans (h.fro j)⟩
theorem PlanAt.row {S P base : Nat} {w : World} {l : List Ctry} {bs : List Nat} (h : PlanAt S P base w l bs) : CtryRow w (some ⟨P, 0, none⟩) 3 l :=
  ⟨h.len.symm, by omega, Or.inr ⟨P, 0, rfl, h.lt, fun i hi j hj => by rw [Nat.zero_add]; exact (h.each i hi).cells j hj⟩, fun i hi => (h.each i (by rw [h.len] at hi; exact hi)).fine⟩
theorem PlanAt.post {S P k : Nat} {w w' : World} {l : List Ctry} {bs : List Nat} {base : Nat} (h : PlanAt S P base w' l bs) (hs : StreamOk w' S k) (hk : Keeps S w w') : PlanPost S k w (.returned (.slice (some ⟨P, 0, none⟩) 3 3)) w' :=
  ⟨P, l, rfl, fun w9 h9 => (h.keeps h9).row, fun i hi => (h.each i (by rw [h.len] at hi; exact hi)).some, hs, hk⟩

/-- One area, written out. -/
def ar (p : List UInt8) (lo hi : Int) : Area := ⟨p, lo, hi⟩
theorem area_row2 {w : World} {b : Nat} {x y : Area} (hb : b < w.heap.size) (h : ∀ j v, ((x.cells ++ y.cells) : List Value)[j]? = some v → w.cell? ⟨b, j, none⟩ = some v) : AreaRow w (some ⟨b, 0, none⟩) 2 [x, y] := by
  refine ⟨rfl, Or.inr ⟨b, 0, rfl, hb, fun i hi j hj => ?_⟩⟩
  match i, hi, j, hj with
  | 0, _, 0, _ => exact h 0 _ rfl
  | 0, _, 1, _ => exact h 1 _ rfl
  | 0, _, 2, _ => exact h 2 _ rfl
  | 1, _, 0, _ => exact h 3 _ rfl
  | 1, _, 1, _ => exact h 4 _ rfl
  | 1, _, 2, _ => exact h 5 _ rfl
theorem area_row3 {w : World} {b : Nat} {x y z : Area} (hb : b < w.heap.size) (h : ∀ j v, ((x.cells ++ y.cells ++ z.cells) : List Value)[j]? = some v → w.cell? ⟨b, j, none⟩ = some v) : AreaRow w (some ⟨b, 0, none⟩) 3 [x, y, z] := by
  refine ⟨rfl, Or.inr ⟨b, 0, rfl, hb, fun i hi j hj => ?_⟩⟩
  match i, hi, j, hj with
  | 0, _, 0, _ => exact h 0 _ rfl
  | 0, _, 1, _ => exact h 1 _ rfl
  | 0, _, 2, _ => exact h 2 _ rfl
  | 1, _, 0, _ => exact h 3 _ rfl
  | 1, _, 1, _ => exact h 4 _ rfl
  | 1, _, 2, _ => exact h 5 _ rfl
  | 2, _, 0, _ => exact h 6 _ rfl
  | 2, _, 1, _ => exact h 7 _ rfl
  | 2, _, 2, _ => exact h 8 _ rfl

theorem heap_new (w : World) (o : Obj) : (w.alloc o).heap[w.heap.size]? = some o := by unfold World.alloc; simp
theorem block_cell {w : World} {b : Nat} {cs : Array Value} {t : TypeId} (h : w.heap[b]? = some (.cells cs t)) (j : Nat) : w.cell? ⟨b, j, none⟩ = cs[j]? := by simp [World.cell?, h]
theorem block_fro {w : World} {b : Nat} {cs : Array Value} {t : TypeId} (h : w.heap[b]? = some (.cells cs t)) (j : Nat) : w.frozen? ⟨b, j, none⟩ = false := by simp [World.frozen?, h]

end Go.Proofs.YtacekbbndamkmaaGreatDoor

set_option linter.unusedVariables false
set_option linter.unusedSimpArgs false
namespace Go.Proofs.YtacekbbndamkmaaGreatDoor
open Go.RowKit

theorem pick_lit (S k : Nat) (vals : List Int) (P : Int → Prop) (w : World) (cs : Array Value) (n : Nat) (h : StreamOk w S k) (hk : k ≤ 1000000000) (hcs : cs.toList = vals.map (Value.int .i64)) (hn : n = vals.length) (h1 : 1 ≤ vals.length) (h2 : vals.length ≤ 1000) (hP : ∀ x ∈ vals, P x) :
    Calls Tryz.prog 6 #[.pointer (some ⟨S, 0, none⟩), .slice (some ⟨w.heap.size, 0, none⟩) n n] (w.alloc (.cells cs 3)) (PickPost S (k + 1) P w) := by
  have hl := h.lt
  subst hn
  have hcs' : cs = (vals.map (Value.int .i64)).toArray := by rw [← hcs]
  subst hcs'
  refine (pick_any S k w.heap.size vals.length vals.length vals P _ (h.below (ext_alloc (Below.refl _ _))) hk (by simp) (by omega) h1 h2 (fun i hi => ?_) (fun i hi => ?_)).mono ?_
  · exact (new_cell w _ 3 (0, 0) i).trans (by simp [hi])
  · rw [show vals.getD i _ = vals[i] by simp [hi]]
    exact hP _ (List.getElem_mem hi)
  · rintro e w' ⟨r, rfl, hr, hst, hkp⟩
    exact ⟨r, rfl, hr, hst, (Keeps.of_below (ext_alloc (Below.refl _ _))).trans hkp⟩
theorem some_lit (S k : Nat) (vals : List (List UInt8)) (P : List UInt8 → Prop) (w : World) (cs : Array Value) (n : Nat) (h : StreamOk w S k) (hk : k ≤ 1000000000) (hcs : cs.toList = vals.map fun s => Value.string ⟨s.toArray⟩) (hn : n = vals.length) (h1 : 1 ≤ vals.length) (h2 : vals.length ≤ 1000) (hP : ∀ x ∈ vals, P x) :
    Calls Tryz.prog 24 #[.pointer (some ⟨S, 0, none⟩), .slice (some ⟨w.heap.size, 0, none⟩) n n] (w.alloc (.cells cs 9)) (SomePost S (k + 1) P w) := by
  have hl := h.lt
  subst hn
  have hcs' : cs = (vals.map fun s => Value.string ⟨s.toArray⟩).toArray := by rw [← hcs]
  subst hcs'
  refine (some_any S k w.heap.size vals.length vals.length vals P _ (h.below (ext_alloc (Below.refl _ _))) hk (by simp) (by omega) h1 h2 (fun i hi => ?_) (fun i hi => ?_)).mono ?_
  · exact (new_cell w _ 9 (0, 0) i).trans (by simp [hi])
  · rw [show vals.getD i _ = vals[i] by simp [hi]]
    exact hP _ (List.getElem_mem hi)
  · rintro e w' ⟨r, rfl, hr, hst, hkp⟩
    exact ⟨r, rfl, hr, hst, (Keeps.of_below (ext_alloc (Below.refl _ _))).trans hkp⟩

theorem bs_p6 (e : Operand → Value) (he : ∀ v, e (.const v) = v) (o : Oper) (w : World) (ho : o.op = .buildSlice 22 6 #[(0, .const (.int .i64 0)), (1, .const (.int .i64 0)), (2, .const (.int .i64 1)), (3, .const (.int .i64 9)), (4, .const (.int .i64 99)), (5, .const (.int .i64 300))]) :
   (execOp e o).run Tryz.prog w = .ok (.value (.slice (some ⟨w.heap.size, 0, none⟩) 6 6)) (w.alloc (.cells #[.int .i64 0, .int .i64 0, .int .i64 1, .int .i64 9, .int .i64 99, .int .i64 300] 3)) := by
  unfold execOp
  rw [ho]
  simp only [List.map_toArray, List.map_cons, List.map_nil, he]
  kernel_rfl
theorem bs_p5 (e : Operand → Value) (he : ∀ v, e (.const v) = v) (o : Oper) (w : World) (ho : o.op = .buildSlice 22 5 #[(0, .const (.int .i64 2)), (1, .const (.int .i64 2)), (2, .const (.int .i64 3)), (3, .const (.int .i64 10)), (4, .const (.int .i64 50))]) :
   (execOp e o).run Tryz.prog w = .ok (.value (.slice (some ⟨w.heap.size, 0, none⟩) 5 5)) (w.alloc (.cells #[.int .i64 2, .int .i64 2, .int .i64 3, .int .i64 10, .int .i64 50] 3)) := by
  unfold execOp
  rw [ho]
  simp only [List.map_toArray, List.map_cons, List.map_nil, he]
  kernel_rfl
theorem bs_p3 (e : Operand → Value) (he : ∀ v, e (.const v) = v) (o : Oper) (w : World) (ho : o.op = .buildSlice 22 3 #[(0, .const (.int .i64 1)), (1, .const (.int .i64 10)), (2, .const (.int .i64 50))]) :
   (execOp e o).run Tryz.prog w = .ok (.value (.slice (some ⟨w.heap.size, 0, none⟩) 3 3)) (w.alloc (.cells #[.int .i64 1, .int .i64 10, .int .i64 50] 3)) := by
  unfold execOp
  rw [ho]
  simp only [List.map_toArray, List.map_cons, List.map_nil, he]
  kernel_rfl
theorem bs_inst (e : Operand → Value) (he : ∀ v, e (.const v) = v) (o : Oper) (w : World) (i8 i9 i10 : Nat) (z8 z9 z10 : Int) (ho : o.op = .buildSlice 22 11 #[(0, .const (.int .i64 0)), (1, .const (.int .i64 5)), (2, .const (.int .i64 10)), (3, .const (.int .i64 20)), (4, .const (.int .i64 30)), (5, .const (.int .i64 40)), (6, .const (.int .i64 60)), (7, .const (.int .i64 100)), (8, .tmp i8), (9, .tmp i9), (10, .tmp i10)]) (h8 : e (.tmp i8) = .int .i64 z8) (h9 : e (.tmp i9) = .int .i64 z9) (h10 : e (.tmp i10) = .int .i64 z10) :
   (execOp e o).run Tryz.prog w = .ok (.value (.slice (some ⟨w.heap.size, 0, none⟩) 11 11)) (w.alloc (.cells #[.int .i64 0, .int .i64 5, .int .i64 10, .int .i64 20, .int .i64 30, .int .i64 40, .int .i64 60, .int .i64 100, .int .i64 z8, .int .i64 z9, .int .i64 z10] 3)) := by
  unfold execOp
  rw [ho]
  simp only [List.map_toArray, List.map_cons, List.map_nil, he, h8, h9, h10]
  kernel_rfl

end Go.Proofs.YtacekbbndamkmaaGreatDoor

set_option linter.unusedVariables false
set_option linter.unusedSimpArgs false
namespace Go.Proofs.YtacekbbndamkmaaGreatDoor
open Go.RowKit

theorem own_set {w : World} {base : Nat} {e : TypeId} {size : Nat} {v : Value} {n : Nat} {xs : List Value} (h : w.ownsRow base e size v n xs) {p : Addr} {u : Value} (hp : v.ownBlock ≠ some p.block) : (w.setCell p u).ownsRow base e size v n xs :=
  own_if h (KeepsIf.set (p := fun b => v.ownBlock = some b) (fun b e e' => hp (by rw [e']; exact e))) (fun b e => e)
theorem ne_off {B i j : Nat} (h : i ≠ j) : (⟨B, i, none⟩ : Addr) ≠ ⟨B, j, none⟩ := by intro e; injection e with _ e2 _; exact h e2
theorem ne_blk {B C i j : Nat} (h : B ≠ C) : (⟨B, i, none⟩ : Addr) ≠ ⟨C, j, none⟩ := by intro e; injection e with e1 _ _; exact h e1
theorem box_th {w : World} {B : Nat} {vs : Array Value} {ty : TypeId} (h : w.heap[B]? = some (.cells vs ty (0, 0))) : w.there B 0 vs.size := fun j hj => by
  refine ⟨?_, ?_⟩
  · simp [World.cell?, h, hj]
  · simp [World.frozen?, h]
/-- A place of n cells that can be written. -/
structure Room (w : World) (F n : Nat) : Prop where
  lt : F < w.heap.size
  th : w.there F 0 n
theorem Room.keeps {w w' : World} {F n S : Nat} (h : Room w F n) (hk : Keeps S w w') (hn : F ≠ S) : Room w' F n :=
  ⟨Nat.lt_of_lt_of_le h.lt hk.size, fun j hj => by
    obtain ⟨h1, h2⟩ := h.th j hj
    exact ⟨by rw [hk.cell (p := ⟨F, 0 + j, none⟩) h.lt hn]; exact h1, by rw [hk.frozen (p := ⟨F, 0 + j, none⟩) h.lt hn]; exact h2⟩⟩
theorem Room.below {w w' : World} {F n : Nat} (h : Room w F n) (hb : Below w.heap.size w w') : Room w' F n :=
  ⟨Nat.lt_of_lt_of_le h.lt hb.size, fun j hj => by
    obtain ⟨h1, h2⟩ := h.th j hj
    exact ⟨by rw [hb.cell (p := ⟨F, 0 + j, none⟩) h.lt]; exact h1, by rw [hb.frozen (p := ⟨F, 0 + j, none⟩) h.lt]; exact h2⟩⟩
theorem Room.grown {w w' : World} {F n : Nat} {row : Option Nat} (h : Room w F n) (hg : w.grownBy w' row) (hn : row ≠ some F) : Room w' F n :=
  ⟨Nat.lt_of_lt_of_le h.lt hg.size, fun j hj => by
    obtain ⟨h1, h2⟩ := h.th j hj
    have hb := hg.block F h.lt (fun e => hn e.symm)
    exact ⟨by rw [World.cell?_of_block (a := ⟨F, 0 + j, none⟩) hb]; exact h1, by rw [World.frozen?_of_block (a := ⟨F, 0 + j, none⟩) hb]; exact h2⟩⟩
theorem Room.set {w : World} {F n : Nat} (h : Room w F n) (B o : Nat) (u : Value) : Room (w.setCell ⟨B, o, none⟩ u) F n :=
  ⟨by simpa using h.lt, World.there_setCells h.th B o [u]⟩
theorem below_setCells {S F : Nat} (hS : S ≤ F) : ∀ (vs : List Value) (w : World) (k : Nat), Below S w (w.setCells F k vs)
  | [], w, k => Below.refl _ _
  | v :: vs, w, k => ((Below.refl S w).setCell (p := ⟨F, k, none⟩) hS v).trans (below_setCells hS vs (w.setCell ⟨F, k, none⟩ v) (k + 1))
theorem keeps_setCells {S F : Nat} {a : World} (hF : a.heap.size ≤ F) : ∀ (vs : List Value) (w : World) (k : Nat), Keeps S a w → Keeps S a (w.setCells F k vs)
  | [], w, k, h => h
  | v :: vs, w, k, h => keeps_setCells hF vs (w.setCell ⟨F, k, none⟩ v) (k + 1) (h.setCell_new hF v)
/-- Names in a row. -/
structure Names (w : World) (A n : Nat) (names : List (List UInt8)) : Prop where
  lt : A < w.heap.size
  at_ : ∀ i, i < n → w.cell? ⟨A, i, none⟩ = some (.string ⟨(names.getD i []).toArray⟩)
theorem Names.keeps {w w' : World} {A n S : Nat} {names : List (List UInt8)} (h : Names w A n names) (hk : Keeps S w w') (hn : A ≠ S) : Names w' A n names :=
  ⟨Nat.lt_of_lt_of_le h.lt hk.size, fun i hi => (hk.cell (p := ⟨A, i, none⟩) h.lt hn).trans (h.at_ i hi)⟩
theorem Names.grown {w w' : World} {A n : Nat} {names : List (List UInt8)} {row : Option Nat} (h : Names w A n names) (hg : w.grownBy w' row) (hn : row ≠ some A) : Names w' A n names :=
  ⟨Nat.lt_of_lt_of_le h.lt hg.size, fun i hi => (World.cell?_of_block (a := ⟨A, i, none⟩) (hg.block A h.lt (fun e => hn e.symm))).trans (h.at_ i hi)⟩
theorem Names.set {w : World} {A n : Nat} {names : List (List UInt8)} (h : Names w A n names) {B o : Nat} (hn : B ≠ A) (u : Value) : Names (w.setCell ⟨B, o, none⟩ u) A n names :=
  ⟨by simpa using h.lt, fun i hi => (World.cell?_setCell_other _ _ _ _ (ne_blk hn)).trans (h.at_ i hi)⟩
theorem names_new (W : World) (names : List (List UInt8)) (cs : Array Value) (hcs : cs.toList = names.map fun s => Value.string ⟨s.toArray⟩) (n : Nat) (hn : n = names.length) : Names (W.alloc (.cells cs 9)) W.heap.size n names := by
  subst hn
  have hcs' : cs = (names.map fun s => Value.string ⟨s.toArray⟩).toArray := by rw [← hcs]
  subst hcs'
  exact ⟨by simp, fun i hi => (new_cell W _ 9 (0, 0) i).trans (by simp [hi])⟩
theorem wp_skip {P : Program} {o : Oper} {a : Act} {w w' : World} {K : Act → World → Prop} {Q : Exit → Act → World → Prop} (h : (execOp a.eval o).run P w = .ok .skip w') (hK : K (a.put o.dst undef) w') : o.wp P a w K Q := by
  unfold Oper.wp
  rw [h]
  exact hK
theorem wp_append_own_at {P : Program} {w : World} {o : Oper} {a : Act} {K : Act → World → Prop} {Q : Exit → Act → World → Prop} (s x : Operand) (t : TypeId)
    (ho : o.op = .call { callee := .builtin .append, args := #[s, x], argTypes := #[t, t] })
    (base : Nat) (e : TypeId) (i : TypeInfo) (z : Value) (size bytes : Nat) (ht : P.underlying t = some (.slice e)) (hi : P.info? e = some i) (hz : i.zero = some z)
    (hsize : i.size = size) (hby : i.bytes = bytes) (hzs : z.cells.size = size) (hsz : 0 < size)
    (v : Value) (n : Nat) (xs : List Value) (hs : a.eval s = v) (hown : w.ownsRow base e size v n xs)
    (ad : Addr) (m c : Nat) (news : List Value) (hx : a.eval x = .slice (some ad) m c) (hl : news.length = m * size) (hnews : ∀ j u, news[j]? = some u → w.cell? (ad.add j) = some u) (h1 : ∀ u ∈ news, u.oneCell' = true)
    (h63 : n + m ≤ maxLen) (hbytes : (n + m) * bytes ≤ 140737488355328) (hbase : base ≤ w.heap.size)
    (h : ∀ v' w', w'.ownsRow base e size v' (n + m) (xs ++ news) → w.grownBy w' v.ownBlock → (v'.ownBlock = v.ownBlock ∨ v'.ownBlock = some w.heap.size) → K (a.put o.dst v') w') : o.wp P a w K Q := by
  obtain ⟨v', w', hr, k1, k2, _, k3⟩ := run_append_own_at (P := P) w base t o.type e i z size bytes ht hi hz hsize hby hzs hsz v n xs hown ad m c news hl hnews h1 h63 hbytes hbase
  unfold Oper.wp execOp
  simp only [ho, resolve, invoke, builtin, Sem.run_bind, Sem.run_pure, Result.andThen_ok, List.map_toArray, List.map_cons, List.map_nil, hs, hx, hr]
  exact h v' w' k1 k2 k3
/-- A deck in a box of its own. -/
structure DBox (w : World) (D : Nat) (f s l st : Int) (v : Value) : Prop where
  lt : D < w.heap.size
  c0 : w.cell? ⟨D, 0, none⟩ = some (.int .i64 f)
  c1 : w.cell? ⟨D, 1, none⟩ = some (.int .i64 s)
  c2 : w.cell? ⟨D, 2, none⟩ = some (.int .i64 l)
  c3 : w.cell? ⟨D, 3, none⟩ = some (.int .i64 st)
  c4 : w.cell? ⟨D, 4, none⟩ = some v
  fr : ∀ j, w.frozen? ⟨D, j, none⟩ = false
theorem DBox.keeps {w w' : World} {D S : Nat} {f s l st : Int} {v : Value} (h : DBox w D f s l st v) (hk : Keeps S w w') (hn : D ≠ S) : DBox w' D f s l st v :=
  ⟨Nat.lt_of_lt_of_le h.lt hk.size, (hk.cell (p := ⟨D, 0, none⟩) h.lt hn).trans h.c0, (hk.cell (p := ⟨D, 1, none⟩) h.lt hn).trans h.c1, (hk.cell (p := ⟨D, 2, none⟩) h.lt hn).trans h.c2, (hk.cell (p := ⟨D, 3, none⟩) h.lt hn).trans h.c3, (hk.cell (p := ⟨D, 4, none⟩) h.lt hn).trans h.c4, fun j => (hk.frozen (p := ⟨D, j, none⟩) h.lt hn).trans (h.fr j)⟩
theorem DBox.grown {w w' : World} {D : Nat} {f s l st : Int} {v : Value} {row : Option Nat} (h : DBox w D f s l st v) (hg : w.grownBy w' row) (hn : row ≠ some D) : DBox w' D f s l st v := by
  have hb := hg.block D h.lt (fun e => hn e.symm)
  exact ⟨Nat.lt_of_lt_of_le h.lt hg.size, (World.cell?_of_block (a := ⟨D, 0, none⟩) hb).trans h.c0, (World.cell?_of_block (a := ⟨D, 1, none⟩) hb).trans h.c1, (World.cell?_of_block (a := ⟨D, 2, none⟩) hb).trans h.c2, (World.cell?_of_block (a := ⟨D, 3, none⟩) hb).trans h.c3, (World.cell?_of_block (a := ⟨D, 4, none⟩) hb).trans h.c4, fun j => (World.frozen?_of_block (a := ⟨D, j, none⟩) hb).trans (h.fr j)⟩
theorem DBox.far {w : World} {D : Nat} {f s l st : Int} {v : Value} (h : DBox w D f s l st v) {B o : Nat} (hn : B ≠ D) (u : Value) : DBox (w.setCell ⟨B, o, none⟩ u) D f s l st v :=
  ⟨by simpa using h.lt, (World.cell?_setCell_other _ _ _ _ (ne_blk hn)).trans h.c0, (World.cell?_setCell_other _ _ _ _ (ne_blk hn)).trans h.c1, (World.cell?_setCell_other _ _ _ _ (ne_blk hn)).trans h.c2, (World.cell?_setCell_other _ _ _ _ (ne_blk hn)).trans h.c3, (World.cell?_setCell_other _ _ _ _ (ne_blk hn)).trans h.c4, fun j => (World.frozen?_setCell _ _ _ _).trans (h.fr j)⟩
theorem DBox.s0 {w : World} {D : Nat} {f s l st : Int} {v : Value} (h : DBox w D f s l st v) (z : Int) : DBox (w.setCell ⟨D, 0, none⟩ (.int .i64 z)) D z s l st v :=
  ⟨by simpa using h.lt, World.cell?_setCell_same _ _ _ h.c0, (World.cell?_setCell_other _ _ _ _ (ne_off (by decide))).trans h.c1, (World.cell?_setCell_other _ _ _ _ (ne_off (by decide))).trans h.c2, (World.cell?_setCell_other _ _ _ _ (ne_off (by decide))).trans h.c3, (World.cell?_setCell_other _ _ _ _ (ne_off (by decide))).trans h.c4, fun j => (World.frozen?_setCell _ _ _ _).trans (h.fr j)⟩
theorem DBox.s1 {w : World} {D : Nat} {f s l st : Int} {v : Value} (h : DBox w D f s l st v) (z : Int) : DBox (w.setCell ⟨D, 1, none⟩ (.int .i64 z)) D f z l st v :=
  ⟨by simpa using h.lt, (World.cell?_setCell_other _ _ _ _ (ne_off (by decide))).trans h.c0, World.cell?_setCell_same _ _ _ h.c1, (World.cell?_setCell_other _ _ _ _ (ne_off (by decide))).trans h.c2, (World.cell?_setCell_other _ _ _ _ (ne_off (by decide))).trans h.c3, (World.cell?_setCell_other _ _ _ _ (ne_off (by decide))).trans h.c4, fun j => (World.frozen?_setCell _ _ _ _).trans (h.fr j)⟩
theorem DBox.s2 {w : World} {D : Nat} {f s l st : Int} {v : Value} (h : DBox w D f s l st v) (z : Int) : DBox (w.setCell ⟨D, 2, none⟩ (.int .i64 z)) D f s z st v :=
  ⟨by simpa using h.lt, (World.cell?_setCell_other _ _ _ _ (ne_off (by decide))).trans h.c0, (World.cell?_setCell_other _ _ _ _ (ne_off (by decide))).trans h.c1, World.cell?_setCell_same _ _ _ h.c2, (World.cell?_setCell_other _ _ _ _ (ne_off (by decide))).trans h.c3, (World.cell?_setCell_other _ _ _ _ (ne_off (by decide))).trans h.c4, fun j => (World.frozen?_setCell _ _ _ _).trans (h.fr j)⟩
theorem DBox.s3 {w : World} {D : Nat} {f s l st : Int} {v : Value} (h : DBox w D f s l st v) (z : Int) : DBox (w.setCell ⟨D, 3, none⟩ (.int .i64 z)) D f s l z v :=
  ⟨by simpa using h.lt, (World.cell?_setCell_other _ _ _ _ (ne_off (by decide))).trans h.c0, (World.cell?_setCell_other _ _ _ _ (ne_off (by decide))).trans h.c1, (World.cell?_setCell_other _ _ _ _ (ne_off (by decide))).trans h.c2, World.cell?_setCell_same _ _ _ h.c3, (World.cell?_setCell_other _ _ _ _ (ne_off (by decide))).trans h.c4, fun j => (World.frozen?_setCell _ _ _ _).trans (h.fr j)⟩
theorem DBox.s4 {w : World} {D : Nat} {f s l st : Int} {v : Value} (h : DBox w D f s l st v) (u : Value) : DBox (w.setCell ⟨D, 4, none⟩ u) D f s l st u :=
  ⟨by simpa using h.lt, (World.cell?_setCell_other _ _ _ _ (ne_off (by decide))).trans h.c0, (World.cell?_setCell_other _ _ _ _ (ne_off (by decide))).trans h.c1, (World.cell?_setCell_other _ _ _ _ (ne_off (by decide))).trans h.c2, (World.cell?_setCell_other _ _ _ _ (ne_off (by decide))).trans h.c3, World.cell?_setCell_same _ _ _ h.c4, fun j => (World.frozen?_setCell _ _ _ _).trans (h.fr j)⟩
theorem rcells_snoc (l : List Rate) (r : Rate) : ((l ++ [r]).map Rate.cells).flatten = (l.map Rate.cells).flatten ++ Rate.cells r := by simp
def RatesIn (l : List Rate) : Prop := ∀ r ∈ l, r.p.length ≤ 100 ∧ -2000000000000 ≤ r.price ∧ r.price ≤ 2000000000000
theorem rates_snoc {l : List Rate} {r : Rate} (h : RatesIn l) (h1 : r.p.length ≤ 100) (h2 : -2000000000000 ≤ r.price) (h3 : r.price ≤ 2000000000000) : RatesIn (l ++ [r]) := fun x hx => by
  rcases List.mem_append.1 hx with hx | hx
  · exact h x hx
  · rw [List.mem_singleton.1 hx]; exact ⟨h1, h2, h3⟩
theorem Tryz.infoRate : (Tryz.prog.info? 51).map (fun i => (i.zero, i.size, i.bytes)) = some (some (.agg #[.string ⟨#[]⟩, .int .i64 0, .bool false]), 3, 32) := by kernel_rfl
theorem Tryz.deckSize : (Tryz.prog.info? 28).map (·.size) = some 5 := by kernel_rfl
/-- What a right deck of a stream comes to. -/
def RDeckPost (S k : Nat) (w : World) (e : Ending) (w' : World) : Prop :=
  ∃ d : Deck, e = .returned (.agg d.cells.toArray) ∧ DeckOwn w.heap.size w' d ∧ d.rates.length ≤ 13 ∧ StreamOk w' S k ∧ Keeps S w w'
theorem bs_r1 (e : Operand → Value) (o : Oper) (w : World) (i0 : Nat) (p : ByteArray) (z : Int) (b : Bool) (ho : o.op = .buildSlice 26 1 #[(0, .tmp i0)]) (h0 : e (.tmp i0) = .agg #[.string p, .int .i64 z, .bool b]) :
   (execOp e o).run Tryz.prog w = .ok (.value (.slice (some ⟨w.heap.size, 0, none⟩) 1 1)) (w.alloc (.cells #[.string p, .int .i64 z, .bool b] 51)) := by
  unfold execOp
  rw [ho]
  simp only [List.map_toArray, List.map_cons, List.map_nil, h0]
  kernel_rfl
theorem bs_i4 (e : Operand → Value) (he : ∀ v, e (.const v) = v) (o : Oper) (w : World) (z0 z1 z2 z3 : Int) (ho : o.op = .buildSlice 22 4 #[(0, .const (.int .i64 z0)), (1, .const (.int .i64 z1)), (2, .const (.int .i64 z2)), (3, .const (.int .i64 z3))]) :
   (execOp e o).run Tryz.prog w = .ok (.value (.slice (some ⟨w.heap.size, 0, none⟩) 4 4)) (w.alloc (.cells #[.int .i64 z0, .int .i64 z1, .int .i64 z2, .int .i64 z3] 3)) := by
  unfold execOp
  rw [ho]
  simp only [List.map_toArray, List.map_cons, List.map_nil, he]
  kernel_rfl
theorem bs_i3 (e : Operand → Value) (he : ∀ v, e (.const v) = v) (o : Oper) (w : World) (z0 z1 z2 : Int) (ho : o.op = .buildSlice 22 3 #[(0, .const (.int .i64 z0)), (1, .const (.int .i64 z1)), (2, .const (.int .i64 z2))]) :
   (execOp e o).run Tryz.prog w = .ok (.value (.slice (some ⟨w.heap.size, 0, none⟩) 3 3)) (w.alloc (.cells #[.int .i64 z0, .int .i64 z1, .int .i64 z2] 3)) := by
  unfold execOp
  rw [ho]
  simp only [List.map_toArray, List.map_cons, List.map_nil, he]
  kernel_rfl
theorem bs_i5 (e : Operand → Value) (he : ∀ v, e (.const v) = v) (o : Oper) (w : World) (z0 z1 z2 z3 z4 : Int) (ho : o.op = .buildSlice 22 5 #[(0, .const (.int .i64 z0)), (1, .const (.int .i64 z1)), (2, .const (.int .i64 z2)), (3, .const (.int .i64 z3)), (4, .const (.int .i64 z4))]) :
   (execOp e o).run Tryz.prog w = .ok (.value (.slice (some ⟨w.heap.size, 0, none⟩) 5 5)) (w.alloc (.cells #[.int .i64 z0, .int .i64 z1, .int .i64 z2, .int .i64 z3, .int .i64 z4] 3)) := by
  unfold execOp
  rw [ho]
  simp only [List.map_toArray, List.map_cons, List.map_nil, he]
  kernel_rfl
theorem bs_i2 (e : Operand → Value) (he : ∀ v, e (.const v) = v) (o : Oper) (w : World) (z0 z1 : Int) (ho : o.op = .buildSlice 22 2 #[(0, .const (.int .i64 z0)), (1, .const (.int .i64 z1))]) :
   (execOp e o).run Tryz.prog w = .ok (.value (.slice (some ⟨w.heap.size, 0, none⟩) 2 2)) (w.alloc (.cells #[.int .i64 z0, .int .i64 z1] 3)) := by
  unfold execOp
  rw [ho]
  simp only [List.map_toArray, List.map_cons, List.map_nil, he]
  kernel_rfl
theorem bs_s13 (e : Operand → Value) (he : ∀ v, e (.const v) = v) (o : Oper) (w : World)  (p0 p1 p2 p3 p4 p5 p6 p7 p8 p9 p10 p11 p12 : ByteArray) (ho : o.op = .buildSlice 38 13 #[(0, .const (.string p0)), (1, .const (.string p1)), (2, .const (.string p2)), (3, .const (.string p3)), (4, .const (.string p4)), (5, .const (.string p5)), (6, .const (.string p6)), (7, .const (.string p7)), (8, .const (.string p8)), (9, .const (.string p9)), (10, .const (.string p10)), (11, .const (.string p11)), (12, .const (.string p12))])  :
   (execOp e o).run Tryz.prog w = .ok (.value (.slice (some ⟨w.heap.size, 0, none⟩) 13 13)) (w.alloc (.cells #[.string p0, .string p1, .string p2, .string p3, .string p4, .string p5, .string p6, .string p7, .string p8, .string p9, .string p10, .string p11, .string p12] 9)) := by
  unfold execOp
  rw [ho]
  simp only [List.map_toArray, List.map_cons, List.map_nil, he]
  kernel_rfl
theorem bs_s12 (e : Operand → Value) (he : ∀ v, e (.const v) = v) (o : Oper) (w : World)  (p0 p1 p2 p3 p4 p5 p6 p7 p8 p9 p10 p11 : ByteArray) (ho : o.op = .buildSlice 38 12 #[(0, .const (.string p0)), (1, .const (.string p1)), (2, .const (.string p2)), (3, .const (.string p3)), (4, .const (.string p4)), (5, .const (.string p5)), (6, .const (.string p6)), (7, .const (.string p7)), (8, .const (.string p8)), (9, .const (.string p9)), (10, .const (.string p10)), (11, .const (.string p11))])  :
   (execOp e o).run Tryz.prog w = .ok (.value (.slice (some ⟨w.heap.size, 0, none⟩) 12 12)) (w.alloc (.cells #[.string p0, .string p1, .string p2, .string p3, .string p4, .string p5, .string p6, .string p7, .string p8, .string p9, .string p10, .string p11] 9)) := by
  unfold execOp
  rw [ho]
  simp only [List.map_toArray, List.map_cons, List.map_nil, he]
  kernel_rfl
theorem bs_s5r (e : Operand → Value) (he : ∀ v, e (.const v) = v) (o : Oper) (w : World) (i4 : Nat) (p0 p1 p2 p3 p4 : ByteArray) (ho : o.op = .buildSlice 38 5 #[(0, .const (.string p0)), (1, .const (.string p1)), (2, .const (.string p2)), (3, .const (.string p3)), (4, .tmp i4)]) (h4 : e (.tmp i4) = .string p4) :
   (execOp e o).run Tryz.prog w = .ok (.value (.slice (some ⟨w.heap.size, 0, none⟩) 5 5)) (w.alloc (.cells #[.string p0, .string p1, .string p2, .string p3, .string p4] 9)) := by
  unfold execOp
  rw [ho]
  simp only [List.map_toArray, List.map_cons, List.map_nil, he, h4]
  kernel_rfl
end Go.Proofs.YtacekbbndamkmaaGreatDoor

set_option linter.unusedVariables false
set_option linter.unusedSimpArgs false
namespace Go.Proofs.YtacekbbndamkmaaGreatDoor
open Go.RowKit

theorem flat_set {α : Type} (f : α → List Value) (k : Nat) (hk : ∀ x, (f x).length = k) : ∀ (l : List α) (r j : Nat) (d y : α) (v : Value), r < l.length → j < k → f y = (f (l.getD r d)).set j v → ((l.set r y).map f).flatten = ((l.map f).flatten).set (r * k + j) v
  | c :: cs, 0, j, d, y, v, _, hj, hy => by
    have hy' : f y = (f c).set j v := hy
    simp only [List.set_cons_zero, List.map_cons, List.flatten_cons, Nat.zero_mul, Nat.zero_add]
    rw [hy', List.set_append_left _ _ (by rw [hk]; exact hj)]
  | c :: cs, r + 1, j, d, y, v, hr, hj, hy => by
    have ih := flat_set f k hk cs r j d y v (by simpa using hr) hj (by simpa using hy)
    have e : (r + 1) * k = r * k + k := Nat.succ_mul r k
    simp only [List.set_cons_succ, List.map_cons, List.flatten_cons]
    rw [List.set_append_right _ _ (by rw [hk]; omega), hk, show (r + 1) * k + j - k = r * k + j by omega, ih]
/-- Field j of element r is written. -/
theorem own_put1 {α : Type} (f : α → List Value) {k : Nat} (hk : ∀ x, (f x).length = k) {w : World} {base g n cap : Nat} {e : TypeId} {l : List α} (h : w.ownsRow base e k (.slice (some ⟨g, 0, none⟩) n cap) n ((l.map f).flatten)) (r j : Nat) (d y : α) (v : Value) (hr : r < l.length) (hj : j < k) (hy : f y = (f (l.getD r d)).set j v) :
    (w.setCell ⟨g, r * k + j, none⟩ v).ownsRow base e k (.slice (some ⟨g, 0, none⟩) n cap) n (((l.set r y).map f).flatten) := by
  rw [flat_set f k hk l r j d y v hr hj hy]
  exact (h.stored _ _).1
theorem flat_atF {α : Type} (f : α → List Value) (k : Nat) (hk : ∀ x, (f x).length = k) : ∀ (l : List α) (r j : Nat) (d : α), r < l.length → j < k → ((l.map f).flatten)[r * k + j]? = (f (l.getD r d))[j]?
  | c :: cs, 0, j, d, _, hj => by
    simp only [List.map_cons, List.flatten_cons, Nat.zero_mul, Nat.zero_add]
    rw [List.getElem?_append_left (by rw [hk]; exact hj)]
    rfl
  | c :: cs, r + 1, j, d, hr, hj => by
    have ih := flat_atF f k hk cs r j d (by simpa using hr) hj
    have e : (r + 1) * k = r * k + k := Nat.succ_mul r k
    simp only [List.map_cons, List.flatten_cons]
    rw [List.getElem?_append_right (by rw [hk]; omega), hk, show (r + 1) * k + j - k = r * k + j by omega, ih]
    simp
theorem flat_length {α : Type} (f : α → List Value) (k : Nat) (hk : ∀ x, (f x).length = k) (l : List α) : ((l.map f).flatten).length = l.length * k := by
  induction l with
  | nil => simp
  | cons c cs ih => simp only [List.map_cons, List.flatten_cons, List.length_append, List.length_cons, ih, hk, Nat.succ_mul]; omega
/-- Field j of element r. -/
theorem own_field {α : Type} (f : α → List Value) {k : Nat} (hk : ∀ x, (f x).length = k) {w : World} {base g n cap : Nat} {e : TypeId} {l : List α} (h : w.ownsRow base e k (.slice (some ⟨g, 0, none⟩) n cap) n ((l.map f).flatten)) (r j : Nat) (d : α) {v : Value} (hr : r < l.length) (hj : j < k) (hv : (f (l.getD r d))[j]? = some v) : w.cell? ⟨g, r * k + j, none⟩ = some v := by
  have hlt : r * k + j < ((l.map f).flatten).length := by
    rw [flat_length f k hk]
    have : (r + 1) * k ≤ l.length * k := Nat.mul_le_mul_right k hr
    rw [Nat.succ_mul] at this
    omega
  have hl := h.1
  have := h.cellAt (r * k + j) (by omega)
  rw [flat_atF f k hk l r j d hr hj, hv] at this
  exact this
theorem own_soft1 {w : World} {base g n c : Nat} {ty : TypeId} {sz : Nat} {xs : List Value} (h : w.ownsRow base ty sz (.slice (some ⟨g, 0, none⟩) n c) n xs) (j : Nat) : w.frozen? ⟨g, j, none⟩ = false := h.frozenAt j
theorem own_pos {w : World} {base : Nat} {e : TypeId} {size : Nat} {a : Option Addr} {m c n : Nat} {xs : List Value} (h : w.ownsRow base e size (.slice a m c) n xs) (hn : 0 < n) : ∃ g, a = some ⟨g, 0, none⟩ ∧ base ≤ g ∧ g < w.heap.size := by
  rcases h.2 with ⟨_, h0⟩ | ⟨g, cap, cur, e1, h2, h3, _⟩
  · omega
  · injection e1 with e1 e2 e3
    exact ⟨g, e1, h2, (Array.getElem?_eq_some_iff.1 h3).1⟩
end Go.Proofs.YtacekbbndamkmaaGreatDoor

set_option linter.unusedVariables false
set_option linter.unusedSimpArgs false
namespace Go.Proofs.YtacekbbndamkmaaGreatDoor
open Go.RowKit

theorem gb_of_below {w w' : World} {row : Option Nat} (h : Below w.heap.size w w') : w.grownBy w' row := ⟨h.os, h.tape, h.output, h.size, fun k hk _ => h.block k hk⟩
theorem gb_below {w w1 w2 : World} {row : Option Nat} (h : w.grownBy w1 row) (hb : Below w1.heap.size w1 w2) : w.grownBy w2 row :=
  ⟨hb.os.trans h.os, hb.tape.trans h.tape, hb.output.trans h.output, Nat.le_trans h.size hb.size, fun k hk hn => (hb.block k (Nat.lt_of_lt_of_le hk h.size)).trans (h.block k hk hn)⟩
theorem gb_trans {w w1 w2 : World} {row : Option Nat} (h : w.grownBy w1 row) (hb : w1.grownBy w2 row) : w.grownBy w2 row :=
  ⟨hb.os.trans h.os, hb.tape.trans h.tape, hb.output.trans h.output, Nat.le_trans h.size hb.size, fun k hk hn => (hb.block k (Nat.lt_of_lt_of_le hk h.size) hn).trans (h.block k hk hn)⟩
theorem gb_to_below {w w' : World} {row : Option Nat} {base : Nat} (h : w.grownBy w' row) (hb : base ≤ w.heap.size) (hr : ∀ b, row = some b → base ≤ b) : Below base w w' :=
  ⟨h.os, h.tape, h.output, h.size, fun k hk => h.block k (by omega) fun e => by have := hr k e.symm; omega⟩
theorem gb_alloc {w w' : World} {o : Obj} {row : Option Nat} (h : (w.alloc o).grownBy w' row) : w.grownBy w' row := gb_trans (gb_of_below (ext_alloc (Below.refl _ _))) h
theorem own_gb {w w' : World} {row : Option Nat} {base e size : Nat} {v : Value} {n : Nat} {xs : List Value} (h : w.ownsRow base e size v n xs) (hg : w.grownBy w' row) (hd : ∀ b, v.ownBlock = some b → row ≠ some b) : w'.ownsRow base e size v n xs := by
  refine ⟨h.1, h.2.imp id ?_⟩
  rintro ⟨g, cap, cur, rfl, h1, h2, h3⟩
  exact ⟨g, cap, cur, rfl, h1, (hg.block g (Array.getElem?_eq_some_iff.1 h2).1 (fun e => hd g rfl e.symm)).trans h2, h3⟩
/-- Rows of different elements lie in different blocks; a row is no box of another kind. -/
theorem own_types {w : World} {base base' e e' size size' : Nat} {v v' : Value} {n n' : Nat} {xs xs' : List Value} (h : w.ownsRow base e size v n xs) (h2 : w.ownsRow base' e' size' v' n' xs') (hne : e ≠ e') : ∀ b, v.ownBlock = some b → v'.ownBlock ≠ some b := by
  intro b hb hb'
  rcases h.2 with ⟨rfl, _⟩ | ⟨g, cap, cur, rfl, _, hg, _⟩
  · cases hb
  rcases h2.2 with ⟨rfl, _⟩ | ⟨g', cap', cur', rfl, _, hg', _⟩
  · cases hb'
  injection hb with hb
  injection hb' with hb'
  simp only at hb hb'
  subst hb; subst hb'
  rw [hg] at hg'
  injection hg' with hg'
  injection hg' with _ h9
  exact hne h9
theorem own_blk {w : World} {base e size : Nat} {v : Value} {n : Nat} {xs : List Value} (h : w.ownsRow base e size v n xs) {X : Nat} {cs : List Value} {ty : TypeId} (hX : Blk w X cs ty) (hne : e ≠ ty) : v.ownBlock ≠ some X := by
  intro hb
  rcases h.2 with ⟨rfl, _⟩ | ⟨g, cap, cur, rfl, _, hg, _⟩
  · cases hb
  injection hb with hb
  simp only at hb
  subst hb
  rw [hX.at_] at hg
  injection hg with hg
  injection hg with _ h9
  exact hne h9.symm
theorem own_before {w : World} {base e size : Nat} {v : Value} {n : Nat} {xs : List Value} (h : w.ownsRow base e size v n xs) {X : Nat} (hX : w.heap.size ≤ X) : v.ownBlock ≠ some X := fun hb => by
  have := (h.lt X hb).2
  omega
/-- Cells written above a beginning of a row. -/
theorem setCells_gb {w : World} (g : Nat) : ∀ (L : List Value) (o : Nat), w.grownBy (w.setCells g o L) (some g) := by
  intro L
  induction L generalizing w with
  | nil => intro o; exact gb_of_below (Below.refl _ _)
  | cons v L ih =>
    intro o
    refine gb_trans ?_ (ih (w := w.setCell ⟨g, o, none⟩ v) (o + 1))
    refine ⟨rfl, rfl, rfl, by simp [World.setCell], fun k hk hn => Below.heap_setCell _ _ _ _ (fun e => hn (by rw [e]))⟩
theorem own_above {base e size g n cap : Nat} : ∀ (L : List Value) (w : World) (xs : List Value) (o m : Nat), w.ownsRow base e size (.slice (some ⟨g, 0, none⟩) n cap) n xs → m ≤ o → ∃ ys, (w.setCells g o L).ownsRow base e size (.slice (some ⟨g, 0, none⟩) n cap) n ys ∧ ys.take m = xs.take m
  | [], w, xs, o, m, h, _ => ⟨xs, h, rfl⟩
  | v :: L, w, xs, o, m, h, hm => by
    obtain ⟨ys, h1, h2⟩ := own_above L (w.setCell ⟨g, o, none⟩ v) (xs.set o v) (o + 1) m (h.stored o v).1 (by omega)
    exact ⟨ys, h1, by rw [h2, List.take_set_of_le hm]⟩
theorem own_cutK {w : World} {base B cap n m k : Nat} {e : TypeId} {xs : List Value} (h : w.ownsRow base e k (.slice (some ⟨B, 0, none⟩) n cap) n xs) (hm : m ≤ n) : w.ownsRow base e k (.slice (some ⟨B, 0, none⟩) m cap) m (xs.take (m * k)) := by
  have h1 := h.1
  have hk : m * k ≤ n * k := Nat.mul_le_mul_right k hm
  rcases h.2 with ⟨h0, _⟩ | ⟨g, cap', cur, h0, hb, hg, hn, hc, hs, ht⟩
  · cases h0
  · injection h0 with e1 _ e3
    injection e1 with e1
    injection e1 with e1
    subst e1 e3
    refine ⟨by rw [List.length_take]; omega, .inr ⟨B, cap, cur, rfl, hb, hg, by omega, hc, hs, ?_⟩⟩
    rw [← ht, List.take_take, Nat.min_eq_left hk]
theorem flat_take {α : Type} (f : α → List Value) (k : Nat) (hk : ∀ x, (f x).length = k) : ∀ (l : List α) (m : Nat), m ≤ l.length → ((l.map f).flatten).take (m * k) = ((l.take m).map f).flatten
  | l, 0, _ => by simp
  | [], m + 1, h => by simp at h
  | x :: l, m + 1, h => by
    rw [List.map_cons, List.flatten_cons, List.take_succ_cons, List.map_cons, List.flatten_cons]
    rw [show (m + 1) * k = (f x).length + m * k by rw [hk, Nat.add_mul]; omega, List.take_append]
    rw [List.take_of_length_le (by omega), Nat.add_sub_cancel_left, flat_take f k hk l m (by simpa using h)]
theorem run_clear_any (w : World) (t e : TypeId) (z : Value) (ht : Tryz.prog.underlying t = some (.slice e)) (hv : ∀ w, (zeroValue e).run Tryz.prog w = .ok z w) (hz : 0 < z.cells.size) (h1 : ∀ i : Nat, Value.oneCell' (z.cells[i]!) = true) (b o n c : Nat) (hn : 0 < n)
    (hc : ∀ j, j < n * z.cells.size → (w.cell? ⟨b, o + j, none⟩).isSome = true) (hf : ∀ j, j < n * z.cells.size → w.frozen? ⟨b, o + j, none⟩ = false) :
    ∃ L, ∀ ty : TypeId, (Builtin.clear_ #[t] ty #[.slice (some ⟨b, o, none⟩) n c]).run Tryz.prog w = .ok (.tuple #[]) (w.setCells b o L) := by
  refine ⟨(Builtin.zeroCells z.cells n).toList, fun ty => ?_⟩
  have hl : (Builtin.zeroCells z.cells n).size = n * z.cells.size := by simp [Builtin.zeroCells]
  have hst := run_storeCells_cells (P := Tryz.prog) b o (Builtin.zeroCells z.cells n).toList 0 w (by rw [Array.length_toList, hl]; simpa using hc) (by rw [Array.length_toList, hl]; simpa using hf) (by
    intro v hv'
    obtain ⟨i, hi, rfl⟩ := List.getElem_of_mem hv'
    simp only [Builtin.zeroCells, Array.getElem_toList, Array.getElem_map]
    exact h1 _)
  simp only [Nat.add_zero] at hst
  obtain ⟨m, rfl⟩ : ∃ m, n = m + 1 := ⟨n - 1, by omega⟩
  simp [Builtin.clear_, run_underlying ht, hv, hst]
theorem wpList_doneT {P : Program} {ops : Array Oper} {rest : List Oper} {o : Oper} {a : Act} {w w' : World} {Q : Exit → Act → World → Prop} (hg : o.guard = none) (h : (execOp a.eval o).run P w = .ok .skip w') (hK : wpList P ops Q rest (a.put o.dst undef) w') : wpList P ops Q (o :: rest) a w :=
  wpList_plain hg fun K hK' => wp_skip h (hK' _ _ hK)
end Go.Proofs.YtacekbbndamkmaaGreatDoor

set_option linter.unusedVariables false
set_option linter.unusedSimpArgs false
namespace Go.Proofs.YtacekbbndamkmaaGreatDoor
open Go.RowKit
open Go.Maps

def LeastPost (o : Option (List UInt8)) (w : World) (e : Ending) (w' : World) : Prop := e = .returned (.tuple #[.string ⟨(o.getD []).toArray⟩, .bool o.isSome]) ∧ Below w.heap.size w w'
def lstF (K : List (List UInt8)) (n : Nat) (s : List UInt8) (j : Nat) : Option (List UInt8) := if (s = [] ∧ j = 0) ∨ (s ++ [dig j]) ∈ K then none else leastTo K n (s ++ [dig j])
theorem findSome_none {γ : Type} {f : Nat → Option γ} {n : Nat} (h : ∀ i, i < n → f i = none) : (List.range n).findSome? f = none := by
  rw [List.findSome?_eq_none_iff]
  intro i hi
  exact h i (by simpa using hi)
theorem findSome_hit {γ : Type} {f : Nat → Option γ} {n k : Nat} {x : γ} (h : ∀ i, i < k → f i = none) (hk : k < n) (hx : f k = some x) : (List.range n).findSome? f = some x := by
  have e : List.range n = List.range k ++ (k :: (List.range' (k + 1) (n - k - 1))) := by
    rw [List.range_eq_range', List.range_eq_range', ← List.range'_succ, show n - k - 1 + 1 = n - k by omega]
    have := List.range'_append (s := 0) (m := k) (n := n - k) (step := 1)
    rw [Nat.one_mul, Nat.zero_add] at this
    rw [this]
    congr 1
    omega
  rw [e, List.findSome?_append, findSome_none h, List.findSome?_cons, hx]
  rfl
theorem least_cases (K : List (List UInt8)) (n : Nat) (s : List UInt8) : (∀ k x, k < 10 → (∀ i, i < k → lstF K n s i = none) → lstF K n s k = some x → leastTo K (n + 1) s = some x) ∧ ((∀ i, i < 10 → lstF K n s i = none) → leastTo K (n + 1) s = none) :=
  ⟨fun k x hk h hx => findSome_hit (f := lstF K n s) h hk hx, fun h => findSome_none (f := lstF K n s) h⟩
theorem bs_u8 (e : Operand → Value) (o : Oper) (w : World) (i0 : Nat) (z : Int) (ho : o.op = .buildSlice 99 1 #[(0, .tmp i0)]) (h0 : e (.tmp i0) = .int .u8 z) :
   (execOp e o).run Tryz.prog w = .ok (.value (.slice (some ⟨w.heap.size, 0, none⟩) 1 1)) (w.alloc (.cells #[.int .u8 z] 5)) := by
  unfold execOp
  rw [ho]
  simp only [List.map_toArray, List.map_cons, List.map_nil, h0]
  kernel_rfl
theorem dig_nat (j : Nat) (h : j < 10) : ((dig j).toNat : Int) = 48 + (j : Int) := by
  have : ∀ j : Fin 10, ((dig j).toNat : Int) = 48 + ((j : Nat) : Int) := by decide
  exact this ⟨j, h⟩
/-- One byte as a string. -/
theorem conv_one (w : World) (j : Nat) (h : j < 10) : (convert 99 9 (.slice (some ⟨w.heap.size, 0, none⟩) 1 1)).run Tryz.prog (w.alloc (.cells #[.int .u8 (48 + (j : Int))] 5)) = .ok (.string ⟨#[dig j]⟩) (w.alloc (.cells #[.int .u8 (48 + (j : Int))] 5)) := by
  have hB := Blk.new w [.int .u8 (48 + (j : Int))] 5
  have hload : (loadCells ⟨w.heap.size, 0, none⟩ 1).run Tryz.prog (w.alloc (.cells #[.int .u8 (48 + (j : Int))] 5)) = .ok (([48 + (j : Int)] : List Int).map (Value.int .u8)).toArray (w.alloc (.cells #[.int .u8 (48 + (j : Int))] 5)) := by
    have := run_loadCells_list (P := Tryz.prog) (w.alloc (.cells #[.int .u8 (48 + (j : Int))] 5)) ⟨w.heap.size, 0, none⟩ [.int .u8 (48 + (j : Int))] (fun i v hi => by
      have h0 : (⟨w.heap.size, 0, none⟩ : Addr).add i = ⟨w.heap.size, i, none⟩ := by unfold Addr.add; split <;> simp_all
      rw [h0]; exact hB.cell i hi)
    exact this
  rw [run_convert_bytes_string _ 99 9 5 _ _ _ Tryz.underlying99 Tryz.underlying5 Tryz.underlying9, run_bytesToString _ ⟨w.heap.size, 0, none⟩ 1 1 [48 + (j : Int)] hload]
  have : ∀ j : Fin 10, ([48 + ((j : Nat) : Int)] : List Int).foldl (fun (b : ByteArray) n => b.push (UInt8.ofNat n.toNat)) ByteArray.empty = ⟨#[dig j]⟩ := by
    intro j
    show _ = _
    rfl
  first | exact congrArg (fun x => Result.ok (Value.string x) _) (this ⟨j, h⟩) | simp [this ⟨j, h⟩]
theorem cat_one (x : List UInt8) (y : UInt8) : ((⟨x.toArray⟩ : ByteArray) ++ ⟨#[y]⟩) = ⟨(x ++ [y]).toArray⟩ := by
  have h : ∀ a b : ByteArray, a ++ b = ⟨a.data ++ b.data⟩ := fun a b => by
    apply ByteArray.ext
    exact ByteArray.data_append
  rw [h]
  simp
theorem own_mapB {w w' : World} {b n : Nat} {D : DataW Value} (h : w.ownsMap Tryz.prog 9 rdB b n D) (hb : Below w.heap.size w w') : w'.ownsMap Tryz.prog 9 rdB b n D := h.kept (gb_of_below (row := none) hb) (by simp)
set_option maxRecDepth 100000 in
set_option maxHeartbeats 4000000 in
theorem least_any (K : List (List UInt8)) (b N : Nat) (D : DataW Value) (hK : MapSet D K) : ∀ (n : Nat) (s : List UInt8) (w : World), w.ownsMap Tryz.prog 9 rdB b N D → s.length ≤ 1000 → n = 4 - s.length → Calls Tryz.prog 50 #[.map (some b), .string ⟨s.toArray⟩] w (LeastPost (leastTo K n s) w)
  | 0, s, w, hm, hs, hn => by
    have hlen : (4 : Int) ≤ (s.length : Int) := by omega
    go_enter Tryz.func50, Tryz.ntmps50
    go_wp2_with fail
    go_ret2
    exact ⟨rfl, Below.refl _ _⟩
  | n + 1, s, w, hm, hs, hn => by
    have HIH := Lib.hid (fun s' w' => least_any K b N D hK n s' w')
    have HC := Lib.hid (least_cases K n s)
    generalize leastTo K (n + 1) s = R at HC ⊢
    have hlen : ¬ (4 : Int) ≤ (s.length : Int) := by omega
    have HM := Lib.hid hm
    have HK := Lib.hid hK
    clear hm hK
    go_enter Tryz.func50, Tryz.ntmps50
    go_wp2_with fail
    go_loopw [6] (fun cv wr => ∃ j : Nat, j ≤ 10 ∧ cv = .int .u8 (48 + j) ∧ Hid (∀ i, i < j → lstF K n s i = none) ∧ Hid (Below w.heap.size w wr)) (fun cv _ => 58 - (intOf cv).toNat)
    case atStart => exact ⟨0, Nat.zero_le _, rfl, fun i hi => absurd hi (Nat.not_lt_zero i), Below.refl _ _⟩
    case round =>
      obtain ⟨j, hj, rfl, HZ, HB⟩ := hrel
      by_cases hlt : j < 10
      case neg =>
        obtain rfl : j = 10 := by omega
        obtain rfl : R = none := HC.out.2 HZ.out
        clear HC HZ HIH
        as_aux_lemma =>
          go_wp2_with fail
          go_ret2
          exact ⟨rfl, HB.out⟩
      have HF : Hid (lstF K n s j = if (s = [] ∧ j = 0) ∨ (s ++ [dig j]) ∈ K then none else leastTo K n (s ++ [dig j])) := rfl
      have HNX : Hid (lstF K n s j = none → ∀ i, i < j + 1 → lstF K n s i = none) := fun h i hi => by
        rcases Nat.lt_succ_iff_lt_or_eq.1 hi with h9 | rfl
        · exact HZ.out i h9
        · exact h
      have hji : (48 : Int) + j ≤ 57 := by omega
      have wj : IntKind.u8.wrap ((48 : Int) + j + 1) = 48 + j + 1 := by
        have h : ∀ j : Fin 10, IntKind.u8.wrap ((48 : Int) + (j : Nat) + 1) = 48 + (j : Nat) + 1 := by decide
        exact h ⟨j, hlt⟩
      by_cases h0 : s = [] ∧ j = 0
      · have HN2 := Lib.hid (HNX.out (by rw [HF.out, if_pos (Or.inl h0)]))
        obtain ⟨rfl, rfl⟩ := h0
        clear HF HNX HC HIH
        as_aux_lemma =>
          go_wp2_with fail
          go_roundw
          case rel => exact ⟨1, by omega, by go_num, HN2.out, HB.out⟩
          case measure => simp [intOf]
      have HF2 : Hid (lstF K n s j = if (s ++ [dig j]) ∈ K then none else leastTo K n (s ++ [dig j])) := by
        show _ = _
        rw [HF.out]
        by_cases h1 : (s ++ [dig j]) ∈ K
        · rw [if_pos (Or.inr h1), if_pos h1]
        · rw [if_neg (fun h => h.elim h0 h1), if_neg h1]
      clear HF
      have HSB : Hid (s = [] → ¬ (48 : Int) + j = 48) := fun h h9 => h0 ⟨h, by omega⟩
      clear h0
      cases s with
      | nil =>
        have hj0 := HSB.out rfl
        have hcv : (convert 99 9 (.slice (some ⟨wr.heap.size, 0, none⟩) 1 1)).run Tryz.prog (wr.alloc (.cells #[.int .u8 (48 + (j : Int))] 5)) = .ok (.string ⟨#[dig j]⟩) (wr.alloc (.cells #[.int .u8 (48 + (j : Int))] 5)) := conv_one wr j hlt
        have HA : Hid (Below w.heap.size w (wr.alloc (.cells #[.int .u8 (48 + (j : Int))] 5))) := ext_alloc HB.out
        have HAP : Hid (((⟨#[]⟩ : ByteArray) ++ (⟨#[dig j]⟩ : ByteArray)) = ⟨([] ++ [dig j] : List UInt8).toArray⟩) := cat_one [] (dig j)
        as_aux_lemma =>
          go_upto_region 8 with (refine wpList_val rfl (bs_u8 _ _ _ 25 (48 + (j : Int)) rfl rfl) ?_)
          generalize (wr.alloc (.cells #[.int .u8 (48 + (j : Int))] 5)) = w5 at hcv HA ⊢
          clear hcv
          rw [HAP.out]
          clear HAP
          have hsl : ([] ++ [dig j] : List UInt8).length ≤ 1000 := by rw [List.length_append, List.length_singleton]; omega
          have HKE := Lib.hid (keyT_ok ([] ++ [dig j]) (by omega))
          have HM5 : Hid (w5.ownsMap Tryz.prog 9 rdB b N D) := own_mapB HM.out HA.out
          have HN5 : Hid (n = 4 - ([] ++ [dig j] : List UInt8).length) := by show _ = _; rw [List.length_append, List.length_singleton]; omega
          generalize ([] ++ [dig j] : List UInt8) = t at HF2 HKE hsl HN5 ⊢
          by_cases hk : t ∈ K
          · have HN2 := Lib.hid (HNX.out (by rw [HF2.out, if_pos hk]))
            have hkd : decide (t ∈ K) = true := decide_eq_true hk
            have HAA := Lib.hid HA
            clear HF2 HNX HC HIH HA
            as_aux_lemma =>
              go_wp2_with (at_lookup; refine wpList_lookup_set _ rfl _ _ 86 rfl 9 4 Tryz.lawT Tryz.underlying86 (Tryz.zeroValue4 _) b N D K HK.out rfl HM5.out _ t rfl HKE.out ?_; rw [hkd])
              refine ⟨?_, by simp [intOf]; omega⟩
              (repeat apply Exists.intro)
              refine ⟨?h, ?e⟩
              case e => repeat' (first | exact rfl | refine ⟨rfl, ?_⟩)
              case h => first | exact ⟨j + 1, by omega, by go_num, HN2.out⟩ | exact ⟨j + 1, by omega, by go_num, HN2.out, HAA.out.out⟩
          have hkd : decide (t ∈ K) = false := decide_eq_false hk
          have HF3 : Hid (lstF K n [] j = leastTo K n t) := by show _ = _; rw [HF2.out, if_neg hk]
          have HCL := Lib.hid (HIH.out t w5 HM5.out hsl HN5.out)
          have HC1 := Lib.hid (HC.out.1 j)
          generalize leastTo K n t = o at HF3 HCL
          clear HF2 HC HIH HN5
          as_aux_lemma =>
            go_wp2_with (at_lookup; refine wpList_lookup_set _ rfl _ _ 86 rfl 9 4 Tryz.lawT Tryz.underlying86 (Tryz.zeroValue4 _) b N D K HK.out rfl HM5.out _ t rfl HKE.out ?_; rw [hkd])
            refine HCL.out.mono ?_
            rintro e w6 ⟨rfl, hb6⟩
            have HB6 := Lib.hid (ext_trans HA.out hb6)
            clear hb6 HCL HA HM5 HKE
            cases o with
            | none =>
              have HN2 := Lib.hid (HNX.out HF3.out)
              have HAA := Lib.hid HB6
              clear HF3 HNX HC1 HB6
              as_aux_lemma =>
                go_wp2_with fail
                refine ⟨?_, by simp [intOf]; omega⟩
                (repeat apply Exists.intro)
                refine ⟨?h, ?e⟩
                case e => repeat' (first | exact rfl | refine ⟨rfl, ?_⟩)
                case h => first | exact ⟨j + 1, by omega, by go_num, HN2.out⟩ | exact ⟨j + 1, by omega, by go_num, HN2.out, HAA.out.out⟩
            | some x =>
              obtain rfl : R = some x := HC1.out x hlt HZ.out HF3.out
              clear HF3 HNX HC1
              as_aux_lemma =>
                go_wp2_with fail
                go_ret2
                exact ⟨rfl, HB6.out⟩
      | cons z1 s1 =>
        have hs1 : s1.length ≤ 999 := by simpa using hs
        have hcv : (convert 99 9 (.slice (some ⟨wr.heap.size, 0, none⟩) 1 1)).run Tryz.prog (wr.alloc (.cells #[.int .u8 (48 + (j : Int))] 5)) = .ok (.string ⟨#[dig j]⟩) (wr.alloc (.cells #[.int .u8 (48 + (j : Int))] 5)) := conv_one wr j hlt
        have HA : Hid (Below w.heap.size w (wr.alloc (.cells #[.int .u8 (48 + (j : Int))] 5))) := ext_alloc HB.out
        have HAP : Hid (((⟨(z1 :: s1).toArray⟩ : ByteArray) ++ (⟨#[dig j]⟩ : ByteArray)) = ⟨((z1 :: s1) ++ [dig j] : List UInt8).toArray⟩) := cat_one (z1 :: s1) (dig j)
        as_aux_lemma =>
          go_upto_region 8 with (refine wpList_val rfl (bs_u8 _ _ _ 25 (48 + (j : Int)) rfl rfl) ?_)
          generalize (wr.alloc (.cells #[.int .u8 (48 + (j : Int))] 5)) = w5 at hcv HA ⊢
          clear hcv
          rw [HAP.out]
          clear HAP
          have hsl : ((z1 :: s1) ++ [dig j] : List UInt8).length ≤ 1000 := by rw [List.length_append, List.length_singleton]; omega
          have HKE := Lib.hid (keyT_ok ((z1 :: s1) ++ [dig j]) (by omega))
          have HM5 : Hid (w5.ownsMap Tryz.prog 9 rdB b N D) := own_mapB HM.out HA.out
          have HN5 : Hid (n = 4 - ((z1 :: s1) ++ [dig j] : List UInt8).length) := by show _ = _; rw [List.length_append, List.length_singleton]; omega
          generalize ((z1 :: s1) ++ [dig j] : List UInt8) = t at HF2 HKE hsl HN5 ⊢
          by_cases hk : t ∈ K
          · have HN2 := Lib.hid (HNX.out (by rw [HF2.out, if_pos hk]))
            have hkd : decide (t ∈ K) = true := decide_eq_true hk
            have HAA := Lib.hid HA
            clear HF2 HNX HC HIH HA
            as_aux_lemma =>
              go_wp2_with (at_lookup; refine wpList_lookup_set _ rfl _ _ 86 rfl 9 4 Tryz.lawT Tryz.underlying86 (Tryz.zeroValue4 _) b N D K HK.out rfl HM5.out _ t rfl HKE.out ?_; rw [hkd])
              refine ⟨?_, by simp [intOf]; omega⟩
              (repeat apply Exists.intro)
              refine ⟨?h, ?e⟩
              case e => repeat' (first | exact rfl | refine ⟨rfl, ?_⟩)
              case h => first | exact ⟨j + 1, by omega, by go_num, HN2.out⟩ | exact ⟨j + 1, by omega, by go_num, HN2.out, HAA.out.out⟩
          have hkd : decide (t ∈ K) = false := decide_eq_false hk
          have HF3 : Hid (lstF K n (z1 :: s1) j = leastTo K n t) := by show _ = _; rw [HF2.out, if_neg hk]
          have HCL := Lib.hid (HIH.out t w5 HM5.out hsl HN5.out)
          have HC1 := Lib.hid (HC.out.1 j)
          generalize leastTo K n t = o at HF3 HCL
          clear HF2 HC HIH HN5
          as_aux_lemma =>
            go_wp2_with (at_lookup; refine wpList_lookup_set _ rfl _ _ 86 rfl 9 4 Tryz.lawT Tryz.underlying86 (Tryz.zeroValue4 _) b N D K HK.out rfl HM5.out _ t rfl HKE.out ?_; rw [hkd])
            refine HCL.out.mono ?_
            rintro e w6 ⟨rfl, hb6⟩
            have HB6 := Lib.hid (ext_trans HA.out hb6)
            clear hb6 HCL HA HM5 HKE
            cases o with
            | none =>
              have HN2 := Lib.hid (HNX.out HF3.out)
              have HAA := Lib.hid HB6
              clear HF3 HNX HC1 HB6
              as_aux_lemma =>
                go_wp2_with fail
                refine ⟨?_, by simp [intOf]; omega⟩
                (repeat apply Exists.intro)
                refine ⟨?h, ?e⟩
                case e => repeat' (first | exact rfl | refine ⟨rfl, ?_⟩)
                case h => first | exact ⟨j + 1, by omega, by go_num, HN2.out⟩ | exact ⟨j + 1, by omega, by go_num, HN2.out, HAA.out.out⟩
            | some x =>
              obtain rfl : R = some x := HC1.out x hlt HZ.out HF3.out
              clear HF3 HNX HC1
              as_aux_lemma =>
                go_wp2_with fail
                go_ret2
                exact ⟨rfl, HB6.out⟩
end Go.Proofs.YtacekbbndamkmaaGreatDoor

set_option linter.unusedVariables false
set_option linter.unusedSimpArgs false
namespace Go.Proofs.YtacekbbndamkmaaGreatDoor
open Go.RowKit
open Go.Maps

def prefK (ps : List Deck) : List (List UInt8) := ps.flatMap fun d => d.rates.map (·.p)
theorem prefK_step (ps : List Deck) (k : Nat) (hk : k < ps.length) : prefK (ps.take (k + 1)) = prefK (ps.take k) ++ (ps.getD k noDeck).rates.map (·.p) := by
  have e : ps.take (k + 1) = ps.take k ++ [ps.getD k noDeck] := by
    rw [List.take_add_one, List.getElem?_eq_getElem hk]
    simp [List.getD_eq_getElem?_getD, hk]
  rw [e]
  unfold prefK
  simp
theorem takeP_step (rs : List Rate) (j : Nat) (hj : j < rs.length) : (rs.take (j + 1)).map (·.p) = (rs.take j).map (·.p) ++ [(rs.getD j noRate).p] := by
  have e : rs.take (j + 1) = rs.take j ++ [rs.getD j noRate] := by
    rw [List.take_add_one, List.getElem?_eq_getElem hj]
    simp [List.getD_eq_getElem?_getD, hj]
  rw [e, List.map_append]
  rfl
/-- Rates stay while a block that is not theirs is written. -/
theorem rate_gb {w w' : World} {b off n : Nat} {l : List Rate} {row : Option Nat} (h : RateRow w (some ⟨b, off, none⟩) n l) (hg : w.grownBy w' row) (hd : row ≠ some b) : RateRow w' (some ⟨b, off, none⟩) n l := by
  refine ⟨⟨h.cells.len, h.cells.row.imp id ?_⟩, h.few, h.each⟩
  rintro ⟨b', off', e, hb, hc⟩
  injection e with e
  injection e with e1 e2
  subst e1 e2
  refine ⟨b, off, rfl, Nat.lt_of_lt_of_le hb hg.size, fun i hi j hj => ?_⟩
  rw [World.cell?_of_block (hg.block b hb (fun e => hd e.symm))]
  exact hc i hi j hj
def PrePost (K : List (List UInt8)) (w : World) (e : Ending) (w' : World) : Prop := ∃ b D, e = .returned (.map (some b)) ∧ w'.ownsMap Tryz.prog 9 rdB b K.length D ∧ MapSet D K ∧ w.heap.size ≤ b ∧ Below w.heap.size w w'

set_option maxRecDepth 100000 in
set_option maxHeartbeats 4000000 in
theorem prefixesOf_any (w : World) (a : Option Addr) (n cap : Nat) (ps : List Deck) (h : DeckRow w a n ps) (hn : n ≤ 2) : Calls Tryz.prog 48 #[.slice a n cap] w (PrePost (prefK ps) w) := by
  have HR := Lib.hid h
  have HLEN := Lib.hid h.len
  have hmm := @run_makeMap Tryz.prog
  have HM0 : Hid ((w.alloc (.map #[] 0)).ownsMap Tryz.prog 9 rdB w.heap.size 0 (.map [])) := World.ownsMap_made _ _ _ _
  have HB0 : Hid (Below w.heap.size w (w.alloc (.map #[] 0))) := ext_alloc (Below.refl _ _)
  clear h
  go_enter Tryz.func48, Tryz.ntmps48
  go_wp2_with fail
  clear hmm
  go_loopw [11] (fun it wr => ∃ (k : Nat) (D : DataW Value), k ≤ n ∧ it = .int .i64 k ∧ Hid (MapSet D (prefK (ps.take k))) ∧ Hid (wr.ownsMap Tryz.prog 9 rdB w.heap.size (prefK (ps.take k)).length D) ∧ Hid ((prefK (ps.take k)).length ≤ 100 * k) ∧ Hid (Below w.heap.size w wr)) (fun it _ => n - (intOf it).toNat)
  case atStart => exact ⟨0, _, Nat.zero_le _, rfl, MapSet.start, HM0.out, Nat.le_refl _, HB0.out⟩
  case round =>
    clear HM0 HB0
    obtain ⟨k, D, hk, rfl, HS, HM, HL, HB⟩ := hrel
    by_cases hlt : k < n
    case neg =>
      obtain rfl : k = n := by omega
      have HE : Hid (PrePost (prefK ps) w (.returned (.map (some w.heap.size))) wr) := by
        have e : ps.take k = ps := by rw [HLEN.out, List.take_length]
        have h1 := HS.out
        have h2 := HM.out
        rw [e] at h1 h2
        exact ⟨_, D, rfl, h2, h1, Nat.le_refl _, HB.out⟩
      clear HS HM HL HB
      as_aux_lemma =>
        go_wp2_with fail
        go_ret
        exact HE.out
    have hlti : (k : Int) < (n : Int) := by omega
    obtain ⟨b, off, rfl, hb, hc⟩ := (HR.out.below HB.out).at (by omega)
    obtain ⟨c0, c1, c2, c3, c4⟩ := hc k hlt
    have HDF := Lib.hid ((HR.out.below HB.out).each k (by rw [← HLEN.out]; exact hlt))
    have HPK : Hid (prefK (ps.take (k + 1)) = prefK (ps.take k) ++ (ps.getD k noDeck).rates.map (·.p)) := prefK_step ps k (by rw [← HLEN.out]; exact hlt)
    clear hc
    generalize ps.getD k noDeck = d at c0 c1 c2 c3 c4 HDF HPK
    generalize prefK (ps.take k) = K0 at HS HM HL HPK
    obtain ⟨df, ds, dl, dp, ra, rn, rc, rates⟩ := d
    simp only at c0 c1 c2 c3 c4
    have HRL : Hid (rn = rates.length) := HDF.out.row.len
    have hrf : rn ≤ 100 := HDF.out.row.few
    have HRR : Hid (RateRow wr ra rn rates) := HDF.out.row
    have hA : Below wr.heap.size wr (wr.alloc (.cells #[.int .i64 df, .int .i64 ds, .int .i64 dl, .int .i64 dp, .slice ra rn rc] 28)) := ext_alloc (Below.refl _ _)
    have HX : Hid (Blk (wr.alloc (.cells #[.int .i64 df, .int .i64 ds, .int .i64 dl, .int .i64 dp, .slice ra rn rc] 28)) wr.heap.size [.int .i64 df, .int .i64 ds, .int .i64 dl, .int .i64 dp, .slice ra rn rc] 28) := Blk.new wr [.int .i64 df, .int .i64 ds, .int .i64 dl, .int .i64 dp, .slice ra rn rc] 28
    have HB1 := Lib.hid (ext_trans HB.out hA)
    have HM1 := Lib.hid (own_mapB HM.out hA)
    have HR1 := Lib.hid (HRR.out.below hA)
    clear HDF hA HB HM HRR
    as_aux_lemma =>
      go_upto_region 5 with (fail)
      generalize wr.alloc (.cells #[.int .i64 df, .int .i64 ds, .int .i64 dl, .int .i64 dp, .slice ra rn rc] 28) = w1 at HX HB1 HM1 HR1 ⊢
      generalize wr.heap.size = X at HX ⊢
      clear c0 c1 c2 c3 c4
      have x4 := HX.out.cell 4 rfl
      obtain ⟨wo, rfl⟩ : ∃ x : World, x = wr := ⟨_, rfl⟩
      as_aux_lemma =>
        go_wp2_with fail
        clear HX x4
        go_loopw [18] (fun it wr => ∃ (j : Nat) (D : DataW Value), j ≤ rn ∧ it = .int .i64 j ∧ Hid (MapSet D (K0 ++ (rates.take j).map (·.p))) ∧ Hid (wr.ownsMap Tryz.prog 9 rdB w.heap.size (K0 ++ (rates.take j).map (·.p)).length D) ∧ Hid (RateRow wr ra rn rates) ∧ Hid (Below w.heap.size w wr)) (fun it _ => rn - (intOf it).toNat)
        case atStart => exact ⟨0, D, Nat.zero_le _, rfl, by rw [List.take_zero, List.map_nil, List.append_nil]; exact HS.out, by rw [List.take_zero, List.map_nil, List.append_nil]; exact HM1.out, HR1.out, HB1.out⟩
        case round =>
          clear HS HM1 HR1 HB1
          obtain ⟨j, D, hj, rfl, HS, HM, HRR, HB⟩ := hrel
          by_cases hlj : j < rn
          case neg =>
            obtain rfl : j = rn := by omega
            have hljn : ¬ (j : Int) < (j : Int) := by omega
            have e : rates.take j = rates := by rw [HRL.out, List.take_length]
            rw [e] at HS HM
            have HL2 : Hid ((prefK (ps.take (k + 1))).length ≤ 100 * (k + 1)) := by
              show _ ≤ _
              rw [HPK.out, List.length_append, List.length_map]
              have := HL.out
              have := HRL.out
              omega
            rw [← HPK.out] at HS HM
            clear e HPK HL HRR
            as_aux_lemma =>
              go_wp2_with fail
              go_roundw
              case rel => exact ⟨k + 1, D, by omega, by go_num, HS.out, HM.out, HL2.out, HB.out⟩
              case measure => simp [intOf]; omega
          have hlji : (j : Int) < (rn : Int) := by omega
          obtain ⟨b2, off2, rfl, hb2, hc2⟩ := HRR.out.at (by omega)
          obtain ⟨e0, e1, e2⟩ := hc2 j hlj
          have hpl := (HRR.out.each j (by rw [← HRL.out]; exact hlj)).1
          have HTK : Hid ((rates.take (j + 1)).map (·.p) = (rates.take j).map (·.p) ++ [(rates.getD j noRate).p]) := takeP_step rates j (by rw [← HRL.out]; exact hlj)
          have HKL : Hid ((K0 ++ (rates.take j).map (·.p)).length ≤ 1000) := by
            show _ ≤ _
            rw [List.length_append, List.length_map]
            have := HL.out
            have h9 := List.length_take_le j rates
            omega
          clear hc2
          generalize rates.getD j noRate = r at e0 e1 e2 hpl HTK
          obtain ⟨rp, rq, rl⟩ := r
          simp only at e0 e1 e2 hpl
          have hA : Below wr.heap.size wr (wr.alloc (.cells #[.string ⟨rp.toArray⟩, .int .i64 rq, .bool rl] 51)) := ext_alloc (Below.refl _ _)
          have HZ : Hid (Blk (wr.alloc (.cells #[.string ⟨rp.toArray⟩, .int .i64 rq, .bool rl] 51)) wr.heap.size [.string ⟨rp.toArray⟩, .int .i64 rq, .bool rl] 51) := Blk.new wr [.string ⟨rp.toArray⟩, .int .i64 rq, .bool rl] 51
          have HB2 := Lib.hid (ext_trans HB.out hA)
          have HM2 := Lib.hid (own_mapB HM.out hA)
          have HR2 := Lib.hid (HRR.out.below hA)
          have hRM : b2 ≠ w.heap.size := fun e => by
            rcases HM.out with ⟨es, clock, hbm, _⟩
            rw [← e] at hbm
            have h9 := e0
            simp [World.cell?, hbm] at h9
          clear hA HB HM HRR
          as_aux_lemma =>
            go_upto_region 8 with (fail)
            generalize wr.alloc (.cells #[.string ⟨rp.toArray⟩, .int .i64 rq, .bool rl] 51) = w2 at HZ HB2 HM2 HR2 ⊢
            generalize wr.heap.size = Z at HZ ⊢
            clear e0 e1 e2
            have z0 := HZ.out.cell 0 rfl
            have HKE := Lib.hid (keyT_ok rp (by omega))
            generalize hK : K0 ++ (rates.take j).map (·.p) = K1 at HS HM2 HKL
            have HK1 := Lib.hid hK
            clear hK
            as_aux_lemma =>
              go_wp2_with (at_mapUpdate; refine wpList_mapUpdate_own _ rfl _ _ _ 86 rfl 9 4 Tryz.lawT Tryz.underlying86 rdB w.heap.size K1.length D rfl HM2.out (by simp only [maxLen]; have := HKL.out; omega) _ _ (keyT rp) rfl rfl HKE.out (.held (.bool true)) [] rfl ?_; intro w8 hown8 hgr8; have HQ1 := Lib.hid hown8; have HQ2 := Lib.hid hgr8; clear hown8 hgr8; refine Hid.out ?_)
              refine Lib.hid ?_
              have HS3 : Hid (MapSet (D.put (keyT rp) (.held (.bool true))) (K0 ++ (rates.take (j + 1)).map (·.p))) := by
                show MapSet _ _
                rw [HTK.out, ← List.append_assoc, HK1.out]
                exact HS.out.put (isMap_set HM2.out) rp
              have HM3 : Hid (w8.ownsMap Tryz.prog 9 rdB w.heap.size (K0 ++ (rates.take (j + 1)).map (·.p)).length (D.put (keyT rp) (.held (.bool true)))) := own_keysT HQ1.out _ HS3.out.1
              have HB3 : Hid (Below w.heap.size w w8) := HB2.out.trans (gb_to_below HQ2.out HB2.out.size (fun b e => by injection e with e; omega))
              have HR3 : Hid (RateRow w8 (some ⟨b2, off2, none⟩) rn rates) := rate_gb HR2.out HQ2.out (fun e => hRM (by injection e with e; exact e.symm))
              clear HQ1 HQ2 HS HM2 HB2 HR2
              as_aux_lemma =>
                go_wp2_with fail
                go_roundw
                case rel => exact ⟨j + 1, _, by omega, by go_num, HS3.out, HM3.out, HR3.out, HB3.out⟩
                case measure => simp [intOf]; omega
end Go.Proofs.YtacekbbndamkmaaGreatDoor

set_option linter.unusedVariables false
set_option linter.unusedSimpArgs false
namespace Go.Proofs.YtacekbbndamkmaaGreatDoor
open Go.RowKit

theorem own_lit0 (w : World) (base : Nat) (hb : base ≤ w.heap.size) : (w.alloc (.cells #[] 9)).ownsRow base 9 1 (.slice (some ⟨w.heap.size, 0, none⟩) 0 0) 0 [] := World.ownsRow_lit w #[] 0 hb (by simp only [maxLen]; omega) rfl
def ClonePost (n : Nat) (x : List (List UInt8)) (w : World) (e : Ending) (w' : World) : Prop := ∃ v', e = .returned v' ∧ w'.ownsRow w.heap.size 9 1 v' n (x.map encS) ∧ Below w.heap.size w w'
set_option maxRecDepth 100000 in
set_option maxHeartbeats 2000000 in
theorem cloneW_any (w : World) (base : Nat) (v : Value) (n : Nat) (x : List (List UInt8)) (h : w.ownsRow base 9 1 v n (x.map encS)) (hn : n ≤ 100000) : Calls Tryz.prog 123 #[v] w (ClonePost n x w) := by
  obtain ⟨i0, hi, hz0, hz1, hz2⟩ := info_parts Tryz.infoStr
  have hl : x.length = n := by have := h.1; simpa using this
  have HO := Lib.hid h
  have q24 : ∀ (w : World) (a : Option Addr) (n c n' c' : Nat), (binOp .eql 38 (.slice a n c) (.slice none n' c')).run Tryz.prog w = .ok (.bool a.isNone) w := fun w a n c n' c' => Lib.run_eql_slice_nil w _ _ a n c n' c' Tryz.underlying38
  rcases h.2 with ⟨rfl, h0⟩ | ⟨g, cap, cur, rfl, hbg, hg, _⟩
  · have hx : x = [] := List.eq_nil_of_length_eq_zero (by omega)
    subst hx
    subst h0
    clear h hl HO
    go_enter Tryz.func123, Tryz.ntmps123
    go_wp2_with fail
    go_ret
    exact ⟨_, rfl, World.ownsRow_nil _ _ _ _, (by (try show Below _ _ _); repeat (with_reducible first | exact Below.refl _ _ | assumption | exact Hid.out (by assumption) | refine ext_alloc ?_ | refine ext_drewN ?_ | refine ext_drew ?_ | refine ext_setCell ?_ (Nat.le_refl _) | refine ext_setCell ?_ (Nat.le_succ _) | refine ext_trans ?_ (by assumption) | (refine ext_setCell ?_ (by simp)) | (refine ext_setCell ?_ (by simp at *; omega))))⟩
  · have hgl : g < w.heap.size := (Array.getElem?_eq_some_iff.1 hg).1
    have HLN : Hid ((x.map encS).length = n * 1) := by show _ = _; rw [List.length_map]; omega
    have HCE : Hid (∀ (j : Nat) u, (x.map encS)[j]? = some u → (w.alloc (.cells #[] 9)).cell? ((⟨g, 0, none⟩ : Addr).add j) = some u) := fun j u hu => by
      have hj : j < x.length := by
        obtain ⟨hj, -⟩ := List.getElem?_eq_some_iff.1 hu
        simpa using hj
      rw [add0, ((Below.refl w.heap.size w).alloc (Nat.le_refl _) (.cells #[] 9)).cell (p := ⟨g, j, none⟩) hgl, HO.out.cellAt j (by omega), hu]
    have HON : Hid (∀ u ∈ x.map encS, u.oneCell' = true) := fun u hu => by
      obtain ⟨y, -, rfl⟩ := List.mem_map.1 hu
      rfl
    have HOA := Lib.hid (own_lit0 w w.heap.size (Nat.le_refl _))
    clear h hl hg
    go_enter Tryz.func123, Tryz.ntmps123
    go_wp2_with (at_builtin; refine wpList_append_own _ rfl (.tmp 5) (.tmp 6) 38 rfl w.heap.size 9 i0 (.string ⟨#[]⟩) 1 16 Tryz.underlying38 hi hz0 hz1 hz2 rfl (by decide) _ 0 _ rfl HOA.out ⟨g, 0, none⟩ n cap (x.map encS) rfl HLN.out HCE.out HON.out (by simp only [maxLen]; omega) (by omega) (by simp) ?_; intro v6 w6 hown6 hgr6 _)
    have HO6 : Hid (w6.ownsRow w.heap.size 9 1 v6 n (x.map encS)) := by
      show World.ownsRow _ _ _ _ _ _ _
      rw [Nat.zero_add, List.nil_append] at hown6
      exact hown6
    have HB6 : Hid (Below w.heap.size w w6) := upto_grown hgr6 (Nat.le_refl _) (fun b e => (HOA.out.lt b e).1)
    clear hown6 hgr6
    go_ret
    exact ⟨v6, rfl, HO6.out, HB6.out⟩
end Go.Proofs.YtacekbbndamkmaaGreatDoor

set_option linter.unusedVariables false
set_option linter.unusedSimpArgs false
namespace Go.Proofs.YtacekbbndamkmaaGreatDoor
open Go.RowKit Go.Sort

theorem own_short {w : World} {base : Nat} {e : TypeId} {g n cap : Nat} {A B : List Value} (h : w.ownsRow base e 1 (.slice (some ⟨g, 0, none⟩) n cap) n (A ++ B)) : w.ownsRow base e 1 (.slice (some ⟨g, 0, none⟩) A.length cap) A.length A := by
  have hl : (A ++ B).length = n := by have := h.1; simpa using this
  rcases h.2 with ⟨h0, _⟩ | ⟨g', cap', cur, hv, hb, hg, h1, h2, h3, h4⟩
  · cases h0
  · cases hv
    have hA : A.length ≤ n := by rw [← hl, List.length_append]; omega
    refine ⟨by simp, Or.inr ⟨g, cap, cur, rfl, hb, hg, by omega, h2, h3, ?_⟩⟩
    have h5 := congrArg (List.take A.length) h4
    rw [List.take_take, List.take_left, Nat.min_eq_left (by omega)] at h5
    rw [Nat.mul_one]
    exact h5
def SortPost (base : Nat) (v : Value) (n : Nat) (ys : List (List UInt8)) (w : World) (e : Ending) (w' : World) : Prop :=
  e = .returned (.tuple #[]) ∧ w'.ownsRow base 9 1 v n (ys.map encS) ∧ w.grownBy w' v.ownBlock
theorem grown_same (w : World) (r : Option Nat) : w.grownBy w r := ⟨rfl, rfl, rfl, Nat.le_refl _, fun _ _ _ => rfl⟩
theorem sort_own {w : World} {base : Nat} {v : Value} {n : Nat} {xs : List (List UInt8)} (h : w.ownsRow base 9 1 v n (xs.map encS)) (hn : n ≤ 100000) : Calls Tryz.prog 91 #[v] w (SortPost base v n (xs.mergeSort leB) w) := by
  have hl : xs.length = n := by have := h.1; simpa using this
  rcases h.2 with ⟨rfl, h0⟩ | ⟨g, cap, cur, rfl, hb, hg, h1, h2, h3, h4⟩
  · obtain rfl : xs = [] := List.eq_nil_of_length_eq_zero (by omega)
    refine (Tryz.slices_SortS_none none 0 w).mono ?_
    rintro e w' ⟨rfl, rfl⟩
    exact ⟨rfl, by simpa using h, grown_same _ _⟩
  · have hlt := (Array.getElem?_eq_some_iff.1 hg).1
    subst hl
    refine (Tryz.slices_SortS g 0 cap xs w (holds_of_block hg (by rw [Nat.mul_one] at h4; exact h4)) hlt (by omega)).mono ?_
    rintro e w' ⟨rfl, q, os, rfl⟩
    exact ⟨rfl, ownsRow_sorted (by simp) hb hg h1 h2 h3, grownBy_sorted _⟩
def CompactPost (base : Nat) (v : Value) (ys : List (List UInt8)) (w : World) (e : Ending) (w' : World) : Prop :=
  ∃ v', e = .returned v' ∧ w'.ownsRow base 9 1 v' ys.length (ys.map encS) ∧ w.grownBy w' v.ownBlock
theorem compact_own {w : World} {base : Nat} {v : Value} {n : Nat} {xs : List (List UInt8)} (h : w.ownsRow base 9 1 v n (xs.map encS)) (hn : n ≤ 100000) : Calls Tryz.prog 124 #[v] w (CompactPost base v (Lib.compact xs) w) := by
  have hl : xs.length = n := by have := h.1; simpa using this
  rcases h.2 with ⟨rfl, h0⟩ | ⟨g, cap, cur, rfl, hb, hg, h1, h2, h3, h4⟩
  · obtain rfl : xs = [] := List.eq_nil_of_length_eq_zero (by omega)
    refine (Tryz.slices_CompactS_empty none 0 w).mono ?_
    rintro e w' ⟨rfl, rfl⟩
    exact ⟨_, rfl, World.ownsRow_nil _ _ _ _, grown_same _ _⟩
  · have hlt := (Array.getElem?_eq_some_iff.1 hg).1
    subst hl
    refine (Tryz.slices_CompactS g 0 cap xs w (holds_of_block hg (by rw [Nat.mul_one] at h4; exact h4)) (by omega) h1).mono ?_
    rintro e w' ⟨rfl, q, rfl⟩
    have hcl : (Lib.compact xs).length ≤ xs.length := by
      unfold Lib.compact Lib.compactUpTo
      rw [List.length_map]
      refine Nat.le_trans (List.length_filter_le _ _) ?_
      simp
    have h5 := ownsRow_sorted (n := q) (os := #[]) (ts := Lib.compact xs ++ List.replicate (xs.length - (Lib.compact xs).length) []) (ss := xs) (by rw [List.length_append, List.length_replicate]; omega) hb hg h1 h2 h3
    have h6 := grownBy_sorted (w := w) (g := g) (n := q) (os := #[]) (Lib.compact xs ++ List.replicate (xs.length - (Lib.compact xs).length) []).toArray
    rw [grow_empty] at h5 h6
    rw [List.map_append] at h5
    have h7 := own_short h5
    rw [List.length_map] at h7
    exact ⟨_, rfl, h7, h6⟩
def OncePost (ys : List (List UInt8)) (w : World) (e : Ending) (w' : World) : Prop :=
  ∃ v', e = .returned v' ∧ w'.ownsRow w.heap.size 9 1 v' ys.length (ys.map encS) ∧ Below w.heap.size w w'
set_option maxRecDepth 100000 in
theorem once_any {w : World} {base : Nat} {v : Value} {n : Nat} {xs : List (List UInt8)} (h : w.ownsRow base 9 1 v n (xs.map encS)) (hn : n ≤ 100000) : Calls Tryz.prog 94 #[v] w (OncePost (onceL xs) w) := by
  have HO := Lib.hid h
  clear h
  go_enter Tryz.func94, Tryz.ntmps94
  go_wp2_with fail
  refine (cloneW_any _ base _ n xs HO.out hn).mono ?_
  rintro e w1 ⟨v1, rfl, ho1, hb1⟩
  have HB1 := Lib.hid hb1
  have HO1 := Lib.hid ho1
  clear ho1 hb1
  go_wp2_with fail
  refine (sort_own HO1.out hn).mono ?_
  rintro e w2 ⟨rfl, ho2, hg2⟩
  have HO2 := Lib.hid ho2
  have HB2 : Hid (Below w.heap.size w w2) := HB1.out.grown hg2 HB1.out.size (fun b e => (HO1.out.lt b e).1)
  clear ho2 hg2
  go_wp2_with fail
  refine (compact_own HO2.out hn).mono ?_
  rintro e w3 ⟨v3, rfl, ho3, hg3⟩
  have HB3 : Hid (Below w.heap.size w w3) := HB2.out.grown hg3 HB2.out.size (fun b e => (HO2.out.lt b e).1)
  have HO3 := Lib.hid ho3
  clear ho3 hg3
  go_wp2_with fail
  go_ret
  exact ⟨_, rfl, HO3.out, HB3.out⟩
end Go.Proofs.YtacekbbndamkmaaGreatDoor

set_option linter.unusedVariables false
set_option linter.unusedSimpArgs false
namespace Go.Proofs.YtacekbbndamkmaaGreatDoor
open Go.RowKit
open Go.Maps

def ListPost (xs : List (List UInt8)) (w : World) (e : Ending) (w' : World) : Prop := ∃ v, e = .returned v ∧ w'.ownsRow w.heap.size 9 1 v xs.length (xs.map encS) ∧ Below w.heap.size w w'
/-- Strings each once, sorted: what sorting and leaving out makes of any list with the same strings. -/
theorem sorted_once {xs K : List (List UInt8)} (hn : xs.Nodup) (h : ∀ s, s ∈ xs ↔ s ∈ K) : xs.mergeSort leB = onceL K := by
  have e : onceL xs = onceL K := once_same h
  rw [← e]
  have tr : ∀ a b c : List UInt8, leB a b = true → leB b c = true → leB a c = true := fun a b c h1 h2 => by simp only [leB, decide_eq_true_eq] at *; exact List.le_trans h1 h2
  have tot : ∀ a b : List UInt8, (leB a b || leB b a) = true := fun a b => by simp only [leB, Bool.or_eq_true, decide_eq_true_eq]; exact List.le_total a b
  refine strict_unique ?_ (compact_strict _ (List.pairwise_mergeSort tr tot xs)) fun z => ?_
  · have h1 := List.pairwise_mergeSort tr tot xs
    have h2 : (xs.mergeSort leB).Nodup := (List.mergeSort_perm xs leB).nodup_iff.2 hn
    refine (h1.and h2).imp fun {a b} h => ?_
    have h3 : a ≤ b := by simpa [leB] using h.1
    exact Std.lt_of_le_of_ne h3 h.2
  · unfold onceL
    rw [mem_compact]
/-- What has been gone through. -/
structure Gone (D : DataW Value) (left : Lit → Bool) (xs : List (List UInt8)) : Prop where
  nodup : xs.Nodup
  has : ∀ z, left z = true → Maps.has D z = true
  mem : ∀ s, s ∈ xs ↔ Maps.has D (keyT s) = true ∧ left (keyT s) = false
theorem keyT_same (s t : List UInt8) : (keyT s).sameKey (keyT t) = decide (s = t) := by
  unfold keyT Lit.sameKey
  by_cases h : s = t <;> simp [h]
theorem Gone.start (D : DataW Value) : Gone D (Maps.has D) [] := ⟨List.nodup_nil, fun _ h => h, fun s => ⟨fun h => (by cases h), fun h => (by have h1 := h.1; have h2 := h.2; rw [h1] at h2; cases h2)⟩⟩
theorem Gone.next {D : DataW Value} {left : Lit → Bool} {xs : List (List UInt8)} (h : Gone D left xs) (s : List UInt8) (hs : left (keyT s) = true) : Gone D (fun z => left z && !z.sameKey (keyT s)) (xs ++ [s]) := by
  have hns : s ∉ xs := fun h9 => by have := ((h.mem s).1 h9).2; rw [hs] at this; cases this
  refine ⟨?_, fun z hz => h.has z (by simp only [Bool.and_eq_true] at hz; exact hz.1), fun t => ?_⟩
  · rw [List.nodup_append]
    exact ⟨h.nodup, by simp, fun a ha b hb e => by rw [List.mem_singleton.1 hb] at e; rw [e] at ha; exact hns ha⟩
  · rw [List.mem_append, List.mem_singleton, h.mem t, keyT_same]
    by_cases ht : t = s
    · subst ht
      simp [h.has _ hs]
    · simp [ht]
theorem Gone.end {D : DataW Value} {left : Lit → Bool} {xs K : List (List UInt8)} (h : Gone D left xs) (hK : MapSet D K) (hl : ∀ z, left z = false) : xs.mergeSort leB = onceL K := sorted_once h.nodup fun s => by
  rw [h.mem s, hK.has_iff s]
  simp [hl]
theorem Gone.len {D : DataW Value} {left : Lit → Bool} {xs K : List (List UInt8)} (h : Gone D left xs) (hK : MapSet D K) : xs.length ≤ K.length := pigeonT K xs h.nodup fun s hs => by
  have := ((h.mem s).1 hs).1
  rw [hK.has_iff s] at this
  simpa using this
theorem iter_not_row {w : World} {b r n cnt base : Nat} {D : DataW Value} {left : Lit → Bool} {v : Value} {m : Nat} {xs : List Value} {e : TypeId} {size : Nat} (h : w.ranges Tryz.prog 9 rdB b r n D left cnt) (ho : w.ownsRow base e size v m xs) : v.ownBlock ≠ some r := fun hb => by
  obtain ⟨es, clock, since, seen, c0, _, _, _, _, hr, _⟩ := h
  rcases ho.2 with ⟨rfl, _⟩ | ⟨g, cap, cur, rfl, _, hg, _⟩
  · cases hb
  injection hb with hb
  simp only at hb
  subst hb
  rw [hg] at hr
  cases hr
theorem bl_dli0 (e : Operand → Value) (he : ∀ v, e (.const v) = v) (o : Oper) (w : World) (i0 : Nat) (p0 : ByteArray) (ho : o.op = .buildSlice 38 1 #[(0, .tmp i0)]) (h0 : e (.tmp i0) = .string p0) :
   (execOp e o).run Tryz.prog w = .ok (.value (.slice (some ⟨w.heap.size, 0, none⟩) 1 1)) (w.alloc (.cells #[.string p0] 9)) := by
  unfold execOp
  rw [ho]
  simp only [List.map_toArray, List.map_cons, List.map_nil, h0]
  kernel_rfl
set_option maxRecDepth 100000 in
set_option maxHeartbeats 4000000 in
theorem list_any (K : List (List UInt8)) (hKl : K.length ≤ 1000) (b N : Nat) (D : DataW Value) (hK : MapSet D K) (w : World) (hm : w.ownsMap Tryz.prog 9 rdB b N D) : Calls Tryz.prog 49 #[.map (some b)] w (ListPost (onceL K) w) := by
  obtain ⟨i0, hi, hz0, hz1, hz2⟩ := info_parts Tryz.infoStr
  have HM := Lib.hid hm
  have HK := Lib.hid hK
  have hbl := hm.lt
  clear hm hK
  go_enter Tryz.func49, Tryz.ntmps49
  go_wp2_with (at_range; refine wpList_range_own _ rfl _ 86 rfl 9 4 Tryz.lawT Tryz.underlying86 rdB b N _ rfl HM.out ?_; intro w0 hrg0 hg0 hs0; have HRG0 := Lib.hid hrg0; have HB0 := Lib.hid (gb_to_below hg0 (Nat.le_refl _) (fun b e => by cases e)); clear hrg0 hg0 hs0)
  go_frame
  go_loopw [3] (fun vo wr => ∃ (left : Lit → Bool) (cnt : Nat) (xs : List (List UInt8)), Hid (wr.ranges Tryz.prog 9 rdB b w.heap.size N D left cnt) ∧ Hid (Gone D left xs) ∧ Hid (wr.ownsRow w.heap.size 9 1 vo xs.length (xs.map encS)) ∧ Hid (Below w.heap.size w wr)) (fun _ wr => wr.rangeLeft b w.heap.size)
  case atStart => exact ⟨_, _, [], HRG0.out, Gone.start D, World.ownsRow_nil _ _ _ _, HB0.out⟩
  case round =>
    clear HRG0 HB0
    obtain ⟨left, cnt, xs, HRG, HG, HO, HB⟩ := hrel
    obtain ⟨vo, rfl⟩ : ∃ x : Value, x = u3 := ⟨_, rfl⟩
    have hxl := HG.out.len HK.out
    go_wp2_with (at_next; refine wpList_next_ranges _ rfl _ rfl 9 Tryz.lawT rdB Value.string (fun v : Value => v) (fun key kl hkey => by obtain ⟨x, rfl, _⟩ := keyT_inv hkey; exact ⟨x, rfl⟩) (fun v y hv => ⟨v, rfl⟩) b w.heap.size N _ _ _ rfl HRG.out ?_ ?_)
    · intro hc0 hl0
      have HX : Hid (xs.mergeSort leB = onceL K) := HG.out.end HK.out hl0
      have HSO := Lib.hid (sort_own HO.out (by omega))
      have HOL := HO
      clear hc0 hl0 HRG HG
      as_aux_lemma =>
        go_wp2_with fail
        refine HSO.out.mono ?_
        rintro e w5 ⟨rfl, ho5, hg5⟩
        have HE : Hid (ListPost (onceL K) w (.returned vo) w5) := by
          rw [HX.out] at ho5
          have hl : (onceL K).length = xs.length := by rw [← HX.out, List.length_mergeSort]
          exact ⟨vo, rfl, by rw [hl]; exact ho5, HB.out.trans (gb_to_below hg5 HB.out.size (fun b e => (HOL.out.lt b e).1))⟩
        clear ho5 hg5 HSO HO HOL HB
        as_aux_lemma =>
          go_wp2_with fail
          go_ret
          exact HE.out
    · intro x c kl y1 y2 w1 cnt1 hkey hlk hv hat hrg1 hlt1 hg1 hs1 hen
      obtain ⟨x', hx1, rfl⟩ := keyT_inv hkey
      injection hx1 with hx1
      subst hx1
      have HG1 := Lib.hid (HG.out.next x.data.toList hlk)
      have HRG1 := Lib.hid hrg1
      have HLC : Hid (wr.rangeLeft b w.heap.size = cnt) := HRG.out.left_eq
      have HB1 := Lib.hid (HB.out.trans (gb_to_below hg1 HB.out.size (fun b e => by injection e with e; omega)))
      have HO1 : Hid (w1.ownsRow w.heap.size 9 1 vo xs.length (xs.map encS)) := own_gb HO.out hg1 (fun b9 h9 e => iter_not_row HRG.out HO.out (by rw [h9, ← e]))
      obtain ⟨d, hd⟩ : ∃ d : List UInt8, x = ⟨d.toArray⟩ := ⟨x.data.toList, by cases x; rfl⟩
      subst hd
      have hw1 : w.heap.size ≤ w1.heap.size := HB1.out.size
      obtain ⟨oa, oc, rfl⟩ := own_shape HO1.out
      have HOA : Hid (World.ownsRow (w1.alloc (.cells #[.string ⟨d.toArray⟩] 9)) w.heap.size 9 1 (.slice oa xs.length oc) xs.length (xs.map encS)) := World.ownsRow.alloc HO1.out (.cells #[.string ⟨d.toArray⟩] 9)
      have HNA : Hid (Blk (w1.alloc (.cells #[.string ⟨d.toArray⟩] 9)) w1.heap.size [.string ⟨d.toArray⟩] 9) := Blk.new w1 [.string ⟨d.toArray⟩] 9
      have hvw : ∀ b, (Value.slice oa xs.length oc).ownBlock = some b → w.heap.size ≤ b := fun b e => (HO1.out.lt b e).1
      have HNR : Hid ((Value.slice oa xs.length oc).ownBlock ≠ some w.heap.size) := iter_not_row HRG1.out HO1.out
      clear hkey hlk hv hat hrg1 hg1 hs1 HRG HG HO HB
      as_aux_lemma =>
        go_wp2_with (first | (refine wpList_val rfl (bl_dli0 _ (fun _ => rfl) _ _ 12 ⟨d.toArray⟩ rfl rfl) ?_) | (at_builtin; go_loud (refine wpList_append_own_at _ rfl (.tmp 11) (.tmp 13) 38 rfl w.heap.size 9 i0 _ 1 16 Tryz.underlying38 hi hz0 hz1 hz2 rfl (by omega) (.slice oa xs.length oc) xs.length _ rfl HOA.out ⟨w1.heap.size, 0, none⟩ 1 1 [.string ⟨d.toArray⟩] rfl rfl (fun j u hj => by rw [add0]; exact HNA.out.cell j hj) (by simp [Value.oneCell']) (by simp only [maxLen]; omega) (by omega) (by simp; omega) ?_); intro v12 w12 hown12 hgr12 _ hat12; have HQ1 := Lib.hid hown12; have HQ2 := Lib.hid hgr12; clear hown12 hgr12 hat12 HOA HNA; refine Hid.out ?_))
        refine Lib.hid ?_
        have HO12 : Hid (w12.ownsRow w.heap.size 9 1 v12 (xs ++ [d]).length ((xs ++ [d]).map encS)) := by
          show World.ownsRow _ _ _ _ _ _ _
          rw [List.map_append, List.length_append]
          exact HQ1.out
        have HB12 : Hid (Below w.heap.size w w12) := HB1.out.trans (upto_grown HQ2.out hw1 hvw)
        have HRG12 : Hid (w12.ranges Tryz.prog 9 rdB b w.heap.size N D (fun z => left z && !z.sameKey (keyT d)) cnt1) := HRG1.out.kept (gb_alloc HQ2.out) (fun e => by have := hvw b e.symm; omega) (fun e => HNR.out e.symm)
        have HG12 : Hid (Gone D (fun z => left z && !z.sameKey (keyT d)) (xs ++ [d])) := HG1.out
        clear HQ1 HQ2 HRG1 HO1 HB1 HG1
        as_aux_lemma =>
          go_wp2_with fail
          go_roundw
          case rel => exact ⟨_, cnt1, xs ++ [d], HRG12.out, HG12.out, HO12.out, HB12.out⟩
          case measure => rw [HRG12.out.left_eq, HLC.out]; exact hlt1
end Go.Proofs.YtacekbbndamkmaaGreatDoor

set_option linter.unusedVariables false
set_option linter.unusedSimpArgs false
namespace Go.Proofs.YtacekbbndamkmaaGreatDoor
open Go.RowKit
open Go.Maps

/-- Lists of rates, in a row. -/
structure RatesAt (w : World) (B n : Nat) (ds : List Deck) : Prop where
  len : n = ds.length
  few : n ≤ 2
  lt : B < w.heap.size
  at_ : ∀ i, i < n → w.cell? ⟨B, i, none⟩ = some (.slice (ds.getD i noDeck).ra (ds.getD i noDeck).rn (ds.getD i noDeck).rc) ∧ RateRow w (ds.getD i noDeck).ra (ds.getD i noDeck).rn (ds.getD i noDeck).rates
theorem RatesAt.below {w w' : World} {B n : Nat} {ds : List Deck} (h : RatesAt w B n ds) (hb : Below w.heap.size w w') : RatesAt w' B n ds :=
  ⟨h.len, h.few, Nat.lt_of_lt_of_le h.lt hb.size, fun i hi => ⟨(hb.cell (p := ⟨B, i, none⟩) h.lt).trans (h.at_ i hi).1, (h.at_ i hi).2.below hb⟩⟩
theorem bl_dpf0 (e : Operand → Value) (he : ∀ v, e (.const v) = v) (o : Oper) (w : World) (i0 : Nat) (p0 : ByteArray) (ho : o.op = .buildSlice 38 1 #[(0, .tmp i0)]) (h0 : e (.tmp i0) = .string p0) :
   (execOp e o).run Tryz.prog w = .ok (.value (.slice (some ⟨w.heap.size, 0, none⟩) 1 1)) (w.alloc (.cells #[.string p0] 9)) := by
  unfold execOp
  rw [ho]
  simp only [List.map_toArray, List.map_cons, List.map_nil, h0]
  kernel_rfl
set_option maxRecDepth 100000 in
set_option maxHeartbeats 4000000 in
theorem prefixesR_any (w : World) (B n cap : Nat) (ds : List Deck) (h : RatesAt w B n ds) : Calls Tryz.prog 52 #[.slice (some ⟨B, 0, none⟩) n cap] w (ListPost (onceL (prefK ds)) w) := by
  obtain ⟨i0, hi, hz0, hz1, hz2⟩ := info_parts Tryz.infoStr
  have HR := Lib.hid h
  have HLEN := Lib.hid h.len
  have hn2 := h.few
  clear h
  go_enter Tryz.func52, Tryz.ntmps52
  go_wp2_with fail
  go_loopw [3, 10] (fun vo it wr => ∃ k : Nat, k ≤ n ∧ it = .int .i64 k ∧ Hid ((prefK (ds.take k)).length ≤ 100 * k) ∧ Hid (wr.ownsRow w.heap.size 9 1 vo (prefK (ds.take k)).length ((prefK (ds.take k)).map encS)) ∧ Hid (Below w.heap.size w wr)) (fun _ it _ => n - (intOf it).toNat)
  case atStart => exact ⟨0, Nat.zero_le _, rfl, Nat.le_refl _, World.ownsRow_nil _ _ _ _, Below.refl _ _⟩
  case round =>
    obtain ⟨k, hk, rfl, HL, HO, HB⟩ := hrel
    obtain ⟨vo, rfl⟩ : ∃ x : Value, x = u3 := ⟨_, rfl⟩
    by_cases hlt : k < n
    case neg =>
      obtain rfl : k = n := by omega
      have e : ds.take k = ds := by rw [HLEN.out, List.take_length]
      rw [e] at HO HL
      have HON := Lib.hid (once_any HO.out (by have := HL.out; omega))
      clear e HO
      as_aux_lemma =>
        go_wp2_with fail
        refine HON.out.mono ?_
        rintro e w5 ⟨v5, rfl, ho5, hb5⟩
        have HE : Hid (ListPost (onceL (prefK ds)) w (.returned v5) w5) := ⟨v5, rfl, own_le ho5 HB.out.size, ext_trans HB.out hb5⟩
        clear ho5 hb5 HB HON
        as_aux_lemma =>
          go_wp2_with fail
          go_ret
          exact HE.out
    have hlti : (k : Int) < (n : Int) := by omega
    have c0 := ((HR.out.below HB.out).at_ k hlt).1
    have hrr := (HR.out.at_ k hlt).2
    have HRR := Lib.hid hrr
    have HPK : Hid (prefK (ds.take (k + 1)) = prefK (ds.take k) ++ (ds.getD k noDeck).rates.map (·.p)) := prefK_step ds k (by rw [← HLEN.out]; exact hlt)
    clear hrr
    generalize ds.getD k noDeck = d at c0 HRR HPK
    generalize prefK (ds.take k) = K0 at HO HL HPK
    obtain ⟨df, ds2, dl, dp, ra, rn, rc, rates⟩ := d
    simp only at c0 HRR HPK
    have HRL : Hid (rn = rates.length) := HRR.out.len
    have hrf : rn ≤ 100 := HRR.out.few
    obtain ⟨wo, rfl⟩ : ∃ x : World, x = wr := ⟨_, rfl⟩
    have HO1 := HO
    have HB1 := HB
    clear HO HB
    as_aux_lemma =>
      go_wp2_with fail
      go_loopw [3, 16] (fun vo it wr => ∃ j : Nat, j ≤ rn ∧ it = .int .i64 j ∧ Hid (wr.ownsRow w.heap.size 9 1 vo (K0 ++ (rates.take j).map (·.p)).length ((K0 ++ (rates.take j).map (·.p)).map encS)) ∧ Hid (Below w.heap.size w wr)) (fun _ it _ => rn - (intOf it).toNat)
      case atStart => exact ⟨0, Nat.zero_le _, rfl, by rw [List.take_zero, List.map_nil, List.append_nil]; exact HO1.out, HB1.out⟩
      case round =>
        clear HO1 HB1 c0
        obtain ⟨j, hj, rfl, HO, HB⟩ := hrel
        obtain ⟨vo, rfl⟩ : ∃ x : Value, x = u3 := ⟨_, rfl⟩
        by_cases hlj : j < rn
        case neg =>
          obtain rfl : j = rn := by omega
          have hljn : ¬ (j : Int) < (j : Int) := by omega
          have e : rates.take j = rates := by rw [HRL.out, List.take_length]
          rw [e] at HO
          have HL2 : Hid ((prefK (ds.take (k + 1))).length ≤ 100 * (k + 1)) := by
            show _ ≤ _
            rw [HPK.out, List.length_append, List.length_map]
            have := HL.out
            have := HRL.out
            omega
          rw [← HPK.out] at HO
          clear e HPK HL HRR
          as_aux_lemma =>
            go_wp2_with fail
            go_roundw
            case rel => exact ⟨k + 1, by omega, by go_num, HL2.out, HO.out, HB.out⟩
            case measure => simp [intOf]; omega
        have hlji : (j : Int) < (rn : Int) := by omega
        have HRV := Lib.hid (HRR.out.below HB.out)
        obtain ⟨b2, off2, rfl, hb2, hc2⟩ := HRV.out.at (by omega)
        obtain ⟨e0, e1, e2⟩ := hc2 j hlj
        have HTK : Hid ((rates.take (j + 1)).map (·.p) = (rates.take j).map (·.p) ++ [(rates.getD j noRate).p]) := takeP_step rates j (by rw [← HRL.out]; exact hlj)
        have HKL : Hid ((K0 ++ (rates.take j).map (·.p)).length ≤ 1000) := by
          show _ ≤ _
          rw [List.length_append, List.length_map]
          have := HL.out
          have h9 := List.length_take_le j rates
          omega
        clear hc2
        generalize rates.getD j noRate = r at e0 e1 e2 HTK
        obtain ⟨rp, rq, rl⟩ := r
        simp only at e0 e1 e2
        have hA : Below wr.heap.size wr (wr.alloc (.cells #[.string ⟨rp.toArray⟩, .int .i64 rq, .bool rl] 51)) := ext_alloc (Below.refl _ _)
        have HZ : Hid (Blk (wr.alloc (.cells #[.string ⟨rp.toArray⟩, .int .i64 rq, .bool rl] 51)) wr.heap.size [.string ⟨rp.toArray⟩, .int .i64 rq, .bool rl] 51) := Blk.new wr [.string ⟨rp.toArray⟩, .int .i64 rq, .bool rl] 51
        have HB2 := Lib.hid (ext_trans HB.out hA)
        have HO2 := Lib.hid (own_keep HO.out hA)
        clear hA HB HO HRV
        as_aux_lemma =>
          go_upto_region 8 with (fail)
          generalize wr.alloc (.cells #[.string ⟨rp.toArray⟩, .int .i64 rq, .bool rl] 51) = w2 at HZ HB2 HO2 ⊢
          generalize wr.heap.size = Z at HZ ⊢
          clear e0 e1 e2
          have z0 := HZ.out.cell 0 rfl
          generalize hK : K0 ++ (rates.take j).map (·.p) = K1 at HO2 HKL
          have HK1 := Lib.hid hK
          clear hK
          have hkl := HKL.out
          obtain ⟨oa, oc, rfl⟩ := own_shape HO2.out
          have hw2 : w.heap.size ≤ w2.heap.size := HB2.out.size
          have HOA : Hid (World.ownsRow (w2.alloc (.cells #[.string ⟨rp.toArray⟩] 9)) w.heap.size 9 1 (.slice oa K1.length oc) K1.length (K1.map encS)) := World.ownsRow.alloc HO2.out (.cells #[.string ⟨rp.toArray⟩] 9)
          have HNA : Hid (Blk (w2.alloc (.cells #[.string ⟨rp.toArray⟩] 9)) w2.heap.size [.string ⟨rp.toArray⟩] 9) := Blk.new w2 [.string ⟨rp.toArray⟩] 9
          have hvw : ∀ b, (Value.slice oa K1.length oc).ownBlock = some b → w.heap.size ≤ b := fun b e => (HO2.out.lt b e).1
          as_aux_lemma =>
            go_wp2_with (first | (refine wpList_val rfl (bl_dpf0 _ (fun _ => rfl) _ _ 22 ⟨rp.toArray⟩ rfl rfl) ?_) | (at_builtin; go_loud (refine wpList_append_own_at _ rfl (.tmp 20) (.tmp 23) 38 rfl w.heap.size 9 i0 _ 1 16 Tryz.underlying38 hi hz0 hz1 hz2 rfl (by omega) (.slice oa K1.length oc) K1.length _ rfl HOA.out ⟨w2.heap.size, 0, none⟩ 1 1 [.string ⟨rp.toArray⟩] rfl rfl (fun j u hj => by rw [add0]; exact HNA.out.cell j hj) (by simp [Value.oneCell']) (by simp only [maxLen]; omega) (by omega) (by simp; omega) ?_); intro v12 w12 hown12 hgr12 _ hat12; have HQ1 := Lib.hid hown12; have HQ2 := Lib.hid hgr12; clear hown12 hgr12 hat12 HOA HNA; refine Hid.out ?_))
            refine Lib.hid ?_
            have HO12 : Hid (w12.ownsRow w.heap.size 9 1 v12 (K0 ++ (rates.take (j + 1)).map (·.p)).length ((K0 ++ (rates.take (j + 1)).map (·.p)).map encS)) := by
              show World.ownsRow _ _ _ _ _ _ _
              rw [HTK.out, ← List.append_assoc, HK1.out, List.map_append, List.length_append]
              exact HQ1.out
            have HB12 : Hid (Below w.heap.size w w12) := HB2.out.trans (upto_grown HQ2.out hw2 hvw)
            clear HQ1 HQ2 HO2 HB2
            as_aux_lemma =>
              go_wp2_with fail
              go_roundw
              case rel => exact ⟨j + 1, by omega, by go_num, HO12.out, HB12.out⟩
              case measure => simp [intOf]; omega
end Go.Proofs.YtacekbbndamkmaaGreatDoor

set_option linter.unusedVariables false
set_option linter.unusedSimpArgs false
namespace Go.Proofs.YtacekbbndamkmaaGreatDoor
open Go.RowKit

theorem digits_len {s : List UInt8} {lo hi : Int} (h : digitsB s lo hi = true) : (s.length : Int) ≤ hi := by
  unfold digitsB at h
  simp only [Bool.and_eq_true, decide_eq_true_eq] at h
  omega
theorem trim_drop {s p : List UInt8} (h : Lib.hasPrefix s p = true) : Lib.trimPrefix s p = s.drop p.length := by unfold Lib.trimPrefix; rw [if_pos h]

def strSz : Value → Nat
  | .string b => b.size
  | _ => 0
theorem strSz_l (l : List UInt8) : strSz (.string ⟨l.toArray⟩) = l.length := rfl
theorem ext_take (l : List UInt8) (k : Nat) : (⟨l.toArray⟩ : ByteArray).extract 0 k = ⟨(l.take k).toArray⟩ := by
  rw [Lib.extract_eq]
  simp

end Go.Proofs.YtacekbbndamkmaaGreatDoor

set_option linter.unusedVariables false
set_option linter.unusedSimpArgs false
namespace Go.Proofs.YtacekbbndamkmaaGreatDoor
open Go.RowKit

theorem ext_mid (l : List UInt8) (i j : Nat) : (⟨l.toArray⟩ : ByteArray).extract i j = ⟨((l.take j).drop i).toArray⟩ := by
  rw [Lib.extract_eq]
  simp [List.drop_take]
theorem lost_bytes (s : List UInt8) (i : Nat) : ((⟨s.toArray⟩ : ByteArray).extract 0 i) ++ ((⟨s.toArray⟩ : ByteArray).extract (i + 1) s.length) = ⟨(lostAt s i).toArray⟩ := by
  rw [ext_take, extract_drop, cat_str]
  rfl
theorem turn_lists (s : List UInt8) (i : Nat) (hi : i + 1 < s.length) : turnAt s i = ((s.take i ++ (s.take (i + 2)).drop (i + 1)) ++ (s.take (i + 1)).drop i) ++ s.drop (i + 2) := by
  have h1 : (s.take (i + 2)).drop (i + 1) = [s.getD (i + 1) 0] := by
    rw [List.take_add_one, List.getElem?_eq_getElem hi]
    simp only [Option.toList_some]
    rw [List.drop_append_of_le_length (by rw [List.length_take]; omega), List.drop_eq_nil_of_le (by rw [List.length_take]; omega)]
    simp [hi]
  have h2 : (s.take (i + 1)).drop i = [s.getD i 0] := by
    rw [List.take_add_one, List.getElem?_eq_getElem (by omega)]
    simp only [Option.toList_some]
    rw [List.drop_append_of_le_length (by rw [List.length_take]; omega), List.drop_eq_nil_of_le (by rw [List.length_take]; omega)]
    simp [show i < s.length by omega]
  rw [h1, h2]
  unfold turnAt
  simp
theorem turn_bytes (s : List UInt8) (i : Nat) (hi : i + 1 < s.length) : ((((⟨s.toArray⟩ : ByteArray).extract 0 i) ++ ((⟨s.toArray⟩ : ByteArray).extract (i + 1) (i + 2))) ++ ((⟨s.toArray⟩ : ByteArray).extract i (i + 1))) ++ ((⟨s.toArray⟩ : ByteArray).extract (i + 2) s.length) = ⟨(turnAt s i).toArray⟩ := by
  rw [ext_take, ext_mid, ext_mid, extract_drop, cat_str, cat_str, cat_str, turn_lists s i hi]

/-- What Slip answers, and its error. -/
def slipV (a b : List UInt8) : Int := if digitsB a 1 30 = true ∧ digitsB b 1 30 = true then (slipP a b : Nat) else 0
def slipE (a b : List UInt8) : Int := if digitsB a 1 30 = true ∧ digitsB b 1 30 = true then 0 else 3
theorem byte_same (a b : List UInt8) (i : Nat) (ha : i < a.length) (hb : i < b.length) : ((⟨a.toArray⟩ : ByteArray)[i]'ha).toNat = ((⟨b.toArray⟩ : ByteArray)[i]'hb).toNat ↔ a.getD i 0 = b.getD i 0 := by
  have h1 : (⟨a.toArray⟩ : ByteArray)[i]'ha = a.getD i 0 := by
    rw [show a.getD i 0 = a[i] by simp [ha]]
    rfl
  have h2 : (⟨b.toArray⟩ : ByteArray)[i]'hb = b.getD i 0 := by
    rw [show b.getD i 0 = b[i] by simp [hb]]
    rfl
  rw [h1, h2]
  exact ⟨fun h => UInt8.toNat_inj.1 h, fun h => by rw [h]⟩
end Go.Proofs.YtacekbbndamkmaaGreatDoor

set_option linter.unusedVariables false
set_option linter.unusedSimpArgs false
namespace Go.Proofs.YtacekbbndamkmaaGreatDoor
open Go.RowKit

theorem ten_enc (k : Nat) (h : k < 10) : Utf8.encode ((tenD.getD k 0).toNat : Int) = ⟨[tenD.getD k 0].toArray⟩ ∧ (tenD.getD k 0).toNat < 128 := by
  match k, h with
  | 0, _ | 1, _ | 2, _ | 3, _ | 4, _ | 5, _ | 6, _ | 7, _ | 8, _ | 9, _ => decide +kernel
theorem more_bytes (s : List UInt8) (i : Nat) (d : UInt8) : (((⟨s.toArray⟩ : ByteArray).extract 0 i) ++ (⟨[d].toArray⟩ : ByteArray)) ++ ((⟨s.toArray⟩ : ByteArray).extract i s.length) = ⟨(moreAt s i d).toArray⟩ := by
  rw [ext_take, extract_drop, cat_str, cat_str]
  unfold moreAt
  simp
theorem other_bytes (s : List UInt8) (i : Nat) (d : UInt8) : (((⟨s.toArray⟩ : ByteArray).extract 0 i) ++ (⟨[d].toArray⟩ : ByteArray)) ++ ((⟨s.toArray⟩ : ByteArray).extract (i + 1) s.length) = ⟨(otherAt s i d).toArray⟩ := by
  rw [ext_take, extract_drop, cat_str, cat_str]
  unfold otherAt
  simp
/-- append of one string to a slice of the call's own. -/
theorem app_one {o : Oper} {a : Act} {K : Act → World → Prop} {Q : Exit → Act → World → Prop} (W : World) (s x : Operand) (ho : o.op = .call { callee := .builtin .append, args := #[s, x], argTypes := #[38, 38] })
    (base : Nat) (v : Value) (n : Nat) (xs : List (List UInt8)) (z : List UInt8) (hs : a.eval s = v) (hown : W.ownsRow base 9 1 v n (xs.map encS)) (hx : a.eval x = .slice (some ⟨W.heap.size, 0, none⟩) 1 1) (hn : n ≤ 100000) (hbase : base ≤ W.heap.size)
    (h : ∀ v' w', w'.ownsRow base 9 1 v' (n + 1) ((xs ++ [z]).map encS) → (W.alloc (.cells #[.string ⟨z.toArray⟩] 9)).grownBy w' v.ownBlock → K (a.put o.dst v') w') : o.wp Tryz.prog a (W.alloc (.cells #[.string ⟨z.toArray⟩] 9)) K Q := by
  obtain ⟨i0, hi, hz0, hz1, hz2⟩ := info_parts Tryz.infoStr
  refine wp_append_own _ s x 38 ho base 9 i0 (.string ⟨#[]⟩) 1 16 Tryz.underlying38 hi hz0 hz1 hz2 rfl (by decide) v n (xs.map encS) hs (hown.alloc _) ⟨W.heap.size, 0, none⟩ 1 1 [.string ⟨z.toArray⟩] hx rfl (news_one (by simp)) (by simp [Value.oneCell']) (by simp only [maxLen]; omega) (by omega) (by simp; omega) (fun v' w' h1 h2 _ => h v' w' ?_ h2)
  rw [show (xs ++ [z]).map encS = xs.map encS ++ [.string ⟨z.toArray⟩] by simp [encS]]
  exact h1
/-- The iterator's block behind such an append. -/
theorem it_kept {w w' : World} {base e n : Nat} {o : Obj} {v : Value} {xs : List Value} {k : Nat} {s : ByteArray} {p : Nat} (h : w.ownsRow base e 1 v n xs) (hk : w.heap[k]? = some (.stringIter s p)) (hg : (w.alloc o).grownBy w' v.ownBlock) : w'.heap[k]? = some (.stringIter s p) := by
  have hlt : k < w.heap.size := (Array.getElem?_eq_some_iff.1 hk).1
  rw [hg.block k (by simp; omega) (fun e1 => ?_), Below.heap_alloc _ _ _ hlt, hk]
  rcases h.2 with ⟨rfl, _⟩ | ⟨g, cap, cur, rfl, _, hg2, _⟩
  · cases e1
  · injection e1 with e1
    subst e1
    rw [hk] at hg2
    cases hg2
theorem own_it {w : World} {base e n : Nat} {v : Value} {xs : List Value} {k : Nat} {s : ByteArray} {p : Nat} (h : w.ownsRow base e 1 v n xs) (hk : w.heap[k]? = some (.stringIter s p)) (p' : Nat) : (w.iterAt k s p').ownsRow base e 1 v n xs := by
  refine ⟨h.1, h.2.imp id ?_⟩
  rintro ⟨g, cap, cur, rfl, h1, h2, h3⟩
  refine ⟨g, cap, cur, rfl, h1, (Lib.iterAt_other w k g s p' (fun e1 => ?_)).trans h2, h3⟩
  subst e1
  rw [hk] at h2
  cases h2
def tenB : ByteArray := ⟨#[48, 49, 50, 51, 52, 53, 54, 55, 56, 57]⟩
theorem tenB_at (k : Nat) (h : k < tenB.size) : tenB[k]'h = tenD.getD k 0 := by
  have h' : k < 10 := h
  match k, h' with
  | 0, _ | 1, _ | 2, _ | 3, _ | 4, _ | 5, _ | 6, _ | 7, _ | 8, _ | 9, _ => rfl
theorem slipRow_succ (a : List UInt8) (kind i k : Nat) (hk : k < 10) : slipRow a kind i (tenD.take (k + 1)) = slipRow a kind i (tenD.take k) ++ slipStep a kind i (tenD.getD k 0) := by
  unfold slipRow
  rw [List.take_add_one, List.flatMap_append]
  congr 1
  have : k < tenD.length := hk
  simp [this]
theorem slipStep_len (a : List UInt8) (kind i : Nat) (d : UInt8) : (slipStep a kind i d).length ≤ 1 := by
  unfold slipStep
  repeat' split
  all_goals simp
theorem slipRow_len (a : List UInt8) (kind i k : Nat) : (slipRow a kind i (tenD.take k)).length ≤ 10 := by
  have h := flat_len (slipStep a kind i) 1 (slipStep_len a kind i) (tenD.take k)
  have h2 : (tenD.take k).length ≤ 10 := by rw [List.length_take]; exact Nat.min_le_right _ _
  unfold slipRow
  omega
theorem slipsTo_len (a : List UInt8) (kind k : Nat) : (slipsTo a kind k).length ≤ 10 * k := by
  have h := flat_len (fun i => slipRow a kind i tenD) 10 (fun i => slipRow_len a kind i 10) (List.range k)
  rw [List.length_range] at h
  exact h
def SlipsPost (a : List UInt8) (kind : Nat) (w : World) (e : Ending) (w' : World) : Prop :=
  ∃ v, e = .returned v ∧ w'.ownsRow w.heap.size 9 1 v (slipsL a kind).length ((slipsL a kind).map encS) ∧ Below w.heap.size w w'

end Go.Proofs.YtacekbbndamkmaaGreatDoor
