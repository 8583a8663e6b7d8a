/- What is proved here: lemmas and contracts for the statement, put together out of smaller texts (OwnK, CarrOff, CarrFlt, CarrFts, CarrCarried, CarrSrt, CarrOfs, CarrClone, CarrDat, CarrOfx). No condition beyond those stated. -/
import Derived.Test.YtppinnjdaoaddaaGreatDoorCsPkD
import Derived.Shelf.SlSortCmp.SmallK
import Derived.Test.YtppinnjdaoaddaaGreatDoorCsPkH
import Derived.Test.YtppinnjdaoaddaaGreatDoorShelfOff
import Derived.Test.YtppinnjdaoaddaaGreatDoorShelfHas
import Derived.Test.YtppinnjdaoaddaaGreatDoorCsPkC
import Derived.Test.YtppinnjdaoaddaaGreatDoorCsPkA
import Derived.Test.YtppinnjdaoaddaaGreatDoorCsPkE
import Derived.Lib.SliceRun
set_option linter.unusedVariables false
set_option linter.unusedSimpArgs false
namespace Go.Proofs.YtppinnjdaoaddaaGreatDoor
open Go.RowKit Go.Sort Go.Lib

theorem flatK_list {α : Type} [Inhabited α] (enc : α → List Value) {k : Nat} (hk : ∀ x, (enc x).length = k) (h0 : 0 < k) (l : List α) : (flatK enc k l.toArray).toList = (l.map enc).flatten := by
  have hL := flat_length enc k hk l
  apply List.ext_getElem?
  intro t
  by_cases ht : t < l.length * k
  · have hd : t / k < l.length := (Nat.div_lt_iff_lt_mul h0).2 ht
    have hm : t % k < k := Nat.mod_lt _ h0
    have h1 := flat_atF enc k hk l (t / k) (t % k) default hd hm
    rw [show t / k * k + t % k = t from Nat.div_add_mod' t k] at h1
    rw [h1, Array.getElem?_toList]
    have hs : t < (flatK enc k l.toArray).size := by simpa using ht
    have h2 := get_flatK enc k l.toArray t (by simpa using ht)
    rw [Array.getElem?_eq_getElem hs]
    rw [getElem!_pos _ t hs] at h2
    rw [h2]
    have e1 : l.toArray[t / k]! = l.getD (t / k) default := by simp [List.getD_eq_getElem?_getD, hd]
    rw [e1]
    have hm2 : t % k < (enc (l.getD (t / k) default)).length := by rw [hk]; exact hm
    rw [List.getElem?_eq_getElem hm2]
    congr 1
    exact getElem!_pos (enc (l.getD (t / k) default)) (t % k) hm2
  · rw [List.getElem?_eq_none (show (flatK enc k l.toArray).toList.length ≤ t by rw [Array.length_toList, size_flatK, List.size_toArray]; omega), List.getElem?_eq_none (by rw [hL]; omega)]
theorem holdsK_own {α : Type} [Inhabited α] (enc : α → List Value) {k : Nat} (hk : ∀ x, (enc x).length = k) (h0 : 0 < k) {w : World} {base g n cap : Nat} {e : TypeId} {l : List α} (h : w.ownsRow base e k (.slice (some ⟨g, 0, none⟩) n cap) n ((l.map enc).flatten)) : HoldsK enc k w g 0 l.toArray := fun t ht => by
  have hL := flat_length enc k hk l
  have hn := h.1
  have ht' : t < l.length * k := by simpa using ht
  refine ⟨?_, h.frozenAt _⟩
  rw [Nat.zero_add, h.cellAt t (by omega), ← flatK_list enc hk h0 l, Array.getElem?_toList, Array.getElem?_eq_getElem ht, getElem!_pos _ t ht]
  rfl
theorem own_putK {α : Type} [Inhabited α] (enc : α → List Value) {k : Nat} (hk : ∀ x, (enc x).length = k) (h0 : 0 < k) {w : World} {base g n cap : Nat} {e : TypeId} {l ys : List α} (h : w.ownsRow base e k (.slice (some ⟨g, 0, none⟩) n cap) n ((l.map enc).flatten)) (hy : ys.length = l.length) (q : Nat) (os : Array Obj) :
    (sortWorldK enc k w g 0 q ys.toArray os).ownsRow base e k (.slice (some ⟨g, 0, none⟩) n cap) n ((ys.map enc).flatten) := by
  have hL := flat_length enc k hk l
  have hY := flat_length enc k hk ys
  have hn := h.1
  rcases h.2 with ⟨e0, _⟩ | ⟨g', cap', cur, e0, hb, hg, hcn, hm, hs, ht⟩
  · cases e0
  · injection e0 with e1 _ e3
    injection e1 with e1
    injection e1 with e1
    subst e1; subst e3
    have hlt : g < w.heap.size := (Array.getElem?_eq_some_iff.1 hg).1
    have hcur : n * k ≤ cur.size := by rw [hs]; exact Nat.mul_le_mul_right k hcn
    have hF : (flatK enc k ys.toArray).size = n * k := by rw [size_flatK, List.size_toArray, hy]; omega
    refine ⟨by rw [hY, hy]; omega, .inr ⟨g, cap, putCells id 0 (flatK enc k ys.toArray) cur, rfl, hb, ?_, hcn, hm, by simpa [putCells] using hs, ?_⟩⟩
    · unfold sortWorldK grow putRowK putRow mapBlock Sort.ahead
      rw [Array.getElem?_append_left (by simpa using hlt)]
      simp [Array.getElem?_modify, hg, onCells]
    · rw [← flatK_list enc hk h0 ys]
      apply List.ext_getElem?
      intro j
      rw [List.getElem?_take]
      by_cases hj : j < n * k
      · have hjc : j < cur.size := by omega
        have hjF : j < (flatK enc k ys.toArray).size := by omega
        rw [if_pos hj, Array.getElem?_toList, Array.getElem?_toList]
        simp only [putCells, Array.getElem?_mapIdx, Array.getElem?_eq_getElem hjc, Option.map_some]
        rw [if_pos ⟨Nat.zero_le _, by omega⟩, Array.getElem?_eq_getElem hjF]
        simp only [Nat.sub_zero, id]
        congr 1
        exact getElem!_pos _ j hjF
      · rw [if_neg hj, List.getElem?_eq_none (by rw [Array.length_toList]; omega)]
theorem below_sortK {α : Type} [Inhabited α] (enc : α → List Value) (k : Nat) {w0 w : World} {B g q : Nat} {d : Array α} (os : Array Obj) (h : Below B w0 w) (hg : B ≤ g) (hB : B ≤ w.heap.size) : Below B w0 (sortWorldK enc k w g 0 q d os) := by
  refine ⟨h.os, h.tape, h.output, ?_, fun i hi => ?_⟩
  · have := h.size
    unfold sortWorldK grow putRowK putRow mapBlock Sort.ahead
    simp
    omega
  · rw [← h.block i hi]
    unfold sortWorldK grow putRowK putRow mapBlock Sort.ahead
    rw [Array.getElem?_append_left (by simp; omega)]
    simp [Array.getElem?_modify, show g ≠ i by omega]
theorem insInnerK_size {α : Type} [Inhabited α] (lt : α → α → Bool) (a : Nat) : ∀ (j : Nat) (d : Array α), (insInner lt a j d).size = d.size
  | 0, d => by unfold insInner; rfl
  | j + 1, d => by
    unfold insInner
    split
    · rw [insInnerK_size lt a j, swp_size]
    · rfl
theorem insOuterK_size {α : Type} [Inhabited α] (lt : α → α → Bool) (a b : Nat) : ∀ (m i : Nat) (d : Array α), b - i ≤ m → (insOuter lt a b i d).size = d.size := by
  intro m
  induction m with
  | zero =>
    intro i d h
    unfold insOuter
    rw [if_neg (by omega)]
  | succ m ih =>
    intro i d h
    unfold insOuter
    split
    · rw [ih _ _ (by omega), insInnerK_size]
    · rfl
/-- A list sorted by insertion. -/
def insL {α : Type} [Inhabited α] (lt : α → α → Bool) (l : List α) : List α := (insertionSort lt l.toArray 0 l.length).toList
theorem insL_len {α : Type} [Inhabited α] (lt : α → α → Bool) (l : List α) : (insL lt l).length = l.length := by
  unfold insL insertionSort
  rw [Array.length_toList, insOuterK_size _ _ _ _ _ _ (Nat.le_refl _)]
  simp
theorem insL_arr {α : Type} [Inhabited α] (lt : α → α → Bool) (l : List α) : insertionSort lt l.toArray 0 l.length = (insL lt l).toArray := by
  unfold insL
  simp
/-- Up to three elements: two orders that agree where a later one is compared with an earlier one sort alike. -/
theorem insL_same {α : Type} [Inhabited α] (lt lt2 : α → α → Bool) (l : List α) (hl : l.length ≤ 3) (h : ∀ i j, i < j → j < l.length → lt (l.getD j default) (l.getD i default) = lt2 (l.getD j default) (l.getD i default)) : insL lt l = insL lt2 l := by
  match l, hl with
  | [], _ =>
    unfold insL insertionSort insOuter
    simp
  | [x], _ =>
    unfold insL insertionSort insOuter
    simp
  | [x, y], _ =>
    have h1 := h 0 1 (by omega) (by simp)
    simp only [List.getD_cons_zero, List.getD_cons_succ] at h1
    have e : ∀ lt : α → α → Bool, insL lt [x, y] = if lt y x = true then [y, x] else [x, y] := fun lt => by
      unfold insL insertionSort
      rw [insOuter, if_pos (by simp), insOuter, if_neg (by simp)]
      cases hq : lt y x <;> simp [insInner, swp, hq]
    rw [e, e, h1]
  | [x, y, z], _ =>
    have h1 := h 0 1 (by omega) (by simp)
    have h2 := h 0 2 (by omega) (by simp)
    have h3 := h 1 2 (by omega) (by simp)
    simp only [List.getD_cons_zero, List.getD_cons_succ] at h1 h2 h3
    have e : ∀ lt : α → α → Bool, insL lt [x, y, z] = if lt y x = true then (if lt z x = true then (if lt z y = true then [z, y, x] else [y, z, x]) else [y, x, z]) else (if lt z y = true then (if lt z x = true then [z, x, y] else [x, z, y]) else [x, y, z]) := fun lt => by
      unfold insL insertionSort
      rw [insOuter, if_pos (by simp), insOuter, if_pos (by simp), insOuter, if_neg (by simp)]
      cases hq : lt y x <;> cases hr : lt z x <;> cases ht : lt z y <;> simp [insInner, swp, hq, hr, ht]
    rw [e, e, h1, h2, h3]
end Go.Proofs.YtppinnjdaoaddaaGreatDoor

set_option linter.unusedVariables false
set_option linter.unusedSimpArgs false
namespace Go.Proofs.YtppinnjdaoaddaaGreatDoor
open Go.RowKit Go.Sort Go.Lib

set_option maxRecDepth 100000 in
theorem orInt_any (a b : Int) (B : Nat) (w : World) (hB : B < w.heap.size) (h0 : w.cell? ⟨B, 0, none⟩ = some (.int .i64 a)) (h1 : w.cell? ⟨B, 1, none⟩ = some (.int .i64 b)) : Calls Tryz.prog 81 #[.slice (some ⟨B, 0, none⟩) 2 2] w fun r w' => r = .returned (.int .i64 (firstE a b)) ∧ w = w' := by
  by_cases ha : a = 0
  · subst ha
    by_cases hb : b = 0
    · subst hb
      go_enter Tryz.func81, Tryz.ntmps81
      go_wp2_with fail
      go_loopw [8] (fun i wr => ∃ k : Nat, k ≤ 2 ∧ i = .int .i64 k ∧ wr = w) (fun i _ => 2 - (intOf i).toNat)
      case atStart => exact ⟨0, by omega, rfl, rfl⟩
      case round =>
        obtain ⟨k, hk, rfl, rfl⟩ := hrel
        have hkc : k = 0 ∨ k = 1 ∨ k = 2 := by omega
        rcases hkc with rfl | rfl | rfl
        · go_wp2_with fail
          go_roundw
          case rel => exact ⟨1, by omega, by go_num, trivial⟩
          case measure => simp [intOf]
        · go_wp2_with fail
          go_roundw
          case rel => exact ⟨2, by omega, by go_num, trivial⟩
          case measure => simp [intOf]
        · go_wp2_with fail
          go_ret
          exact ⟨rfl, rfl⟩
    · have hbb : (b == 0) = false := by simpa using hb
      go_enter Tryz.func81, Tryz.ntmps81
      go_wp2_with fail
      go_loopw [8] (fun i wr => ∃ k : Nat, k ≤ 1 ∧ i = .int .i64 k ∧ wr = w) (fun i _ => 2 - (intOf i).toNat)
      case atStart => exact ⟨0, by omega, rfl, rfl⟩
      case round =>
        obtain ⟨k, hk, rfl, rfl⟩ := hrel
        have hkc : k = 0 ∨ k = 1 := by omega
        rcases hkc with rfl | rfl
        · go_wp2_with fail
          go_roundw
          case rel => exact ⟨1, by omega, by go_num, trivial⟩
          case measure => simp [intOf]
        · go_wp2_with fail
          go_ret
          exact ⟨rfl, rfl⟩
  · have hab : (a == 0) = false := by simpa using ha
    have HF : Hid (firstE a b = a) := by show _ = _; unfold firstE; rw [if_pos ha]
    go_enter Tryz.func81, Tryz.ntmps81
    go_wp2_with fail
    go_loopw [8] (fun i wr => i = .int .i64 0 ∧ wr = w) (fun i _ => 0)
    case atStart => exact ⟨rfl, rfl⟩
    case round =>
      obtain ⟨rfl, rfl⟩ := hrel
      go_wp2_with fail
      go_ret
      exact ⟨by rw [HF.out]; rfl, rfl⟩
/-- What a call costs by a carrier's decks. -/
def costV (ps : List Deck) (s : List UInt8) (t talk : Int) : Int × Bool := match deckV ps t with | none => (0, false) | some d => priceV d.setup d.least d.step d.rates s talk
set_option maxRecDepth 100000 in
set_option maxHeartbeats 4000000 in
theorem costBy_any (w : World) (ky : List UInt8) (ln : Int) (a : Option Addr) (m cap : Nat) (ps : List Deck) (hp : DeckRow w a m ps) (hcap : m ≤ cap) (s : List UInt8) (hs : s.length ≤ 1000) (t talk : Int) (hg : ∀ d, deckV ps t = some d → DeckGood d.setup d.least d.step d.rates) (h5 : 0 ≤ talk ∧ talk ≤ 86400000) :
    Calls Tryz.prog 84 #[.agg #[.string ⟨ky.toArray⟩, .int .i64 ln, .slice a m cap], .string ⟨s.toArray⟩, .int .i64 t, .int .i64 talk] w (PriceOfPost (costV ps s t talk) w) := by
  have HDA := Lib.hid (fun W (h : Below w.heap.size w W) => deckAt_any W ky ln a m cap ps (hp.below h) hcap t)
  have HRF := Lib.hid (fun W (h : Below w.heap.size w W) => deckV_fineR (hp.below h) t)
  have HG := Lib.hid hg
  have HC : Hid (costV ps s t talk = match deckV ps t with | none => (0, false) | some d => priceV d.setup d.least d.step d.rates s talk) := rfl
  generalize costV ps s t talk = V at HC ⊢
  clear hg hp
  generalize deckV ps t = o at HDA HRF HG HC
  go_enter Tryz.func84, Tryz.ntmps84
  go_upto_region 1 with (fail)
  have HB : Hid (Below w.heap.size w (w.alloc (.cells #[.string ⟨ky.toArray⟩, .int .i64 ln, .slice a m cap] 72))) := ext_alloc (Below.refl _ _)
  have HX : Hid (Blk (w.alloc (.cells #[.string ⟨ky.toArray⟩, .int .i64 ln, .slice a m cap] 72)) w.heap.size [.string ⟨ky.toArray⟩, .int .i64 ln, .slice a m cap] 72) := Blk.new w [.string ⟨ky.toArray⟩, .int .i64 ln, .slice a m cap] 72
  generalize w.alloc (.cells #[.string ⟨ky.toArray⟩, .int .i64 ln, .slice a m cap] 72) = W at HB HX ⊢
  have x0 := HX.out.cell 0 rfl
  have x1 := HX.out.cell 1 rfl
  have x2 := HX.out.cell 2 rfl
  clear HX
  as_aux_lemma =>
    go_wp2_with fail
    refine (HDA.out _ HB.out).mono ?_
    rintro e w1 ⟨rfl, hb⟩
    have HB1 := Lib.hid (ext_trans HB.out hb)
    clear hb HB HDA x0 x1 x2
    have HR1 := Lib.hid (HRF.out _ HB1.out)
    clear HRF
    cases o with
    | none =>
      obtain rfl : V = (0, false) := HC.out
      clear HC HG HR1
      have hb : Below w.heap.size w (w1.alloc (.cells #[.int .i64 0, .int .i64 0, .int .i64 0, .int .i64 0, .slice none 0 0] 63)) := ext_alloc HB1.out
      skip
      as_aux_lemma =>
        go_wp2_with fail
        go_ret2
        exact ⟨rfl, by first | exact hb | exact (by (try show Below _ _ _); repeat (with_reducible first | exact Below.refl _ _ | assumption | exact Hid.out (by assumption) | refine ext_alloc ?_ | refine ext_drewN ?_ | refine ext_drew ?_ | refine ext_setCell ?_ (Nat.le_refl _) | refine ext_setCell ?_ (Nat.le_succ _) | refine ext_trans ?_ (by assumption) | (refine ext_setCell ?_ (by simp)) | (refine ext_setCell ?_ (by simp at *; omega))))⟩
    | some d =>
      have hgd := HG.out d rfl
      obtain ⟨df, ds, dl, dp, ra, rn, rc, rates⟩ := d
      obtain rfl : V = priceV ds dl dp rates s talk := HC.out
      simp only [Option.getD_some, Option.isSome_some] at HR1 ⊢
      have HTX : Hid ((w1.alloc (.cells #[.int .i64 0, .int .i64 0, .int .i64 0, .int .i64 0, .slice none 0 0] 63)).there w1.heap.size 0 5) := (Blk.new w1 [.int .i64 0, .int .i64 0, .int .i64 0, .int .i64 0, .slice none 0 0] 63).th 5 (by decide)
      have HX4 : Hid (Blk (World.setCells (w1.alloc (.cells #[.int .i64 0, .int .i64 0, .int .i64 0, .int .i64 0, .slice none 0 0] 63)) w1.heap.size 0 [.int .i64 df, .int .i64 ds, .int .i64 dl, .int .i64 dp, .slice ra rn rc]) w1.heap.size [.int .i64 df, .int .i64 ds, .int .i64 dl, .int .i64 dp, .slice ra rn rc] 63) := ((((((Blk.new w1 [.int .i64 0, .int .i64 0, .int .i64 0, .int .i64 0, .slice none 0 0] 63).put 0 _).put 1 _).put 2 _).put 3 _).put 4 _)
      have hA : Below w1.heap.size w1 (World.setCells (w1.alloc (.cells #[.int .i64 0, .int .i64 0, .int .i64 0, .int .i64 0, .slice none 0 0] 63)) w1.heap.size 0 [.int .i64 df, .int .i64 ds, .int .i64 dl, .int .i64 dp, .slice ra rn rc]) := below5 (Nat.le_refl _) (ext_alloc (Below.refl _ _)) _
      have HB4 := Lib.hid (ext_trans HB1.out hA)
      have HR4 : Hid (RateRow (World.setCells (w1.alloc (.cells #[.int .i64 0, .int .i64 0, .int .i64 0, .int .i64 0, .slice none 0 0] 63)) w1.heap.size 0 [.int .i64 df, .int .i64 ds, .int .i64 dl, .int .i64 dp, .slice ra rn rc]) ra rn rates) := HR1.out.below hA
      clear hA HC HG HR1 HB1
      as_aux_lemma =>
        go_upto_region 2 with (refine wpList_store_mid rfl 63 (.tmp 10) (.tmp 16) rfl w1.heap.size 0 #[.int .i64 df, .int .i64 ds, .int .i64 dl, .int .i64 dp, .slice ra rn rc] rfl rfl HTX.out Tryz.deckSz (by simp [Value.oneCell']) ?_; generalize World.setCells (w1.alloc (.cells #[.int .i64 0, .int .i64 0, .int .i64 0, .int .i64 0, .slice none 0 0] 63)) w1.heap.size 0 _ = w4 at HX4 HB4 HR4 ⊢)
        generalize w1.heap.size = D at HX4 ⊢
        clear HTX
        have HRX : Hid (w4.rangeAt D 0 [.int .i64 df, .int .i64 ds, .int .i64 dl, .int .i64 dp, .slice ra rn rc]) := fun j v hj => by rw [Nat.zero_add]; exact HX4.out.cell j hj
        clear HX4
        as_aux_lemma =>
          go_wp2_with (refine wpList_load_mid rfl 63 (.tmp 10) rfl D 0 rfl [.int .i64 df, .int .i64 ds, .int .i64 dl, .int .i64 dp, .slice ra rn rc] _ HRX.out Tryz.underlying63 rfl Tryz.deckSz ?_)
          refine (priceOf_any _ df ds dl dp ra rn rc rates s talk HR4.out hgd hs h5).mono ?_
          rintro e w5 ⟨rfl, hb⟩
          have HB5 := Lib.hid (ext_trans HB4.out hb)
          clear hb HB4 HR4
          as_aux_lemma =>
            go_wp2_with fail
            go_ret2
            exact ⟨rfl, HB5.out⟩

/-- An offer. -/
structure Off where
  c : List UInt8
  price : Int
def noOff : Off := ⟨[], 0⟩
instance : Inhabited Off := ⟨noOff⟩
def Off.cells (x : Off) : List Value := [.string ⟨x.c.toArray⟩, .int .i64 x.price]
def cfP (x y : Off) : Int := Lib.compareInt x.price y.price
def cfPC (x y : Off) : Int := firstE (Lib.compareInt x.price y.price) (Lib.compareBytes x.c y.c)
theorem grow_two (W : World) (o1 o2 : Obj) : (W.alloc o1).alloc o2 = grow (W.drewN 0) #[o1, o2] := by
  rw [alloc_eq_grow, alloc_eq_grow, grow_grow]
  rfl
theorem bs_ii (e : Operand → Value) (o : Oper) (w : World) (i0 i1 : Nat) (z0 z1 : Int) (ho : o.op = .buildSlice 22 2 #[(0, .tmp i0), (1, .tmp i1)]) (h0 : e (.tmp i0) = .int .i64 z0) (h1 : e (.tmp i1) = .int .i64 z1) :
   (execOp e o).run Tryz.prog w = .ok (.value (.slice (some ⟨w.heap.size, 0, none⟩) 2 2)) (w.alloc (.cells #[.int .i64 z0, .int .i64 z1] 3)) := by
  unfold execOp
  rw [ho]
  simp only [List.map_toArray, List.map_cons, List.map_nil, h0, h1]
  kernel_rfl
theorem grow_three (W : World) (a b o : Obj) : ((((W.alloc a).alloc b).drew).alloc o) = grow (W.drewN 1) #[a, b, o] := by
  rw [alloc_eq_grow W a, alloc_eq_grow _ b, grow_grow]
  show (grow (W.drewN 1) (#[a] ++ #[b])).alloc o = _
  rw [alloc_eq_grow, grow_grow]
  rfl
theorem cmpP_any (x y : Off) (W : World) : Calls Tryz.prog 104 #[.agg (Off.cells x).toArray, .agg (Off.cells y).toArray] W fun e w' => e = .returned (.int .i64 (cfP x y)) ∧ ∃ q os', w' = grow (W.drewN q) os' := by
  obtain ⟨xc, xp⟩ := x
  obtain ⟨yc, yp⟩ := y
  have hcon := fun w => Tryz.cmp_Compare xp yp w
  have HG := Lib.hid (grow_two W (.cells #[.string ⟨xc.toArray⟩, .int .i64 xp] 80) (.cells #[.string ⟨yc.toArray⟩, .int .i64 yp] 80))
  show Calls Tryz.prog 104 #[.agg #[.string ⟨xc.toArray⟩, .int .i64 xp], .agg #[.string ⟨yc.toArray⟩, .int .i64 yp]] W fun e w' => e = .returned (.int .i64 (Lib.compareInt xp yp)) ∧ ∃ q os', w' = grow (W.drewN q) os'
  generalize Lib.compareInt xp yp = r at hcon ⊢
  go_enter Tryz.func104, Tryz.ntmps104
  go_wp2_with fail
  refine (hcon _).mono ?_
  rintro e w' ⟨rfl, rfl⟩
  go_wp2_with fail
  go_ret
  exact ⟨rfl, 0, _, HG.out⟩
set_option maxRecDepth 100000 in
set_option maxHeartbeats 4000000 in
theorem cmpPC_any (x y : Off) (W : World) : Calls Tryz.prog 80 #[.agg (Off.cells x).toArray, .agg (Off.cells y).toArray] W fun e w' => e = .returned (.int .i64 (cfPC x y)) ∧ ∃ q os', w' = grow (W.drewN q) os' := by
  obtain ⟨xc, xp⟩ := x
  obtain ⟨yc, yp⟩ := y
  have hcon := fun w => Tryz.cmp_Compare xp yp w
  have hcon2 : ∀ w, Calls _ _ #[.string ⟨xc.toArray⟩, .string ⟨yc.toArray⟩] w fun e w' => e = .returned (.int .i64 (Lib.compareBytes xc yc)) ∧ w' = w := fun w => Tryz.strings_Compare ⟨xc.toArray⟩ ⟨yc.toArray⟩ w
  show Calls Tryz.prog 80 #[.agg #[.string ⟨xc.toArray⟩, .int .i64 xp], .agg #[.string ⟨yc.toArray⟩, .int .i64 yp]] W fun e w' => e = .returned (.int .i64 (firstE (Lib.compareInt xp yp) (Lib.compareBytes xc yc))) ∧ ∃ q os', w' = grow (W.drewN q) os'
  generalize Lib.compareInt xp yp = r at hcon ⊢
  generalize Lib.compareBytes xc yc = r2 at hcon2 ⊢
  go_enter Tryz.func80, Tryz.ntmps80
  go_upto_region 1 with (fail)
  have HGR : Hid (∀ o, ((((W.alloc (.cells #[.string ⟨xc.toArray⟩, .int .i64 xp] 80)).alloc (.cells #[.string ⟨yc.toArray⟩, .int .i64 yp] 80)).drew).alloc o) = grow (W.drewN 1) #[.cells #[.string ⟨xc.toArray⟩, .int .i64 xp] 80, .cells #[.string ⟨yc.toArray⟩, .int .i64 yp] 80, o]) := fun o => grow_three W _ _ o
  have hS : (fun W9 : World => W9.cell? ⟨W.heap.size, 0, none⟩ = some (.string ⟨xc.toArray⟩) ∧ W9.cell? ⟨W.heap.size, 1, none⟩ = some (.int .i64 xp) ∧ W9.cell? ⟨W.heap.size + 1, 0, none⟩ = some (.string ⟨yc.toArray⟩) ∧ W9.cell? ⟨W.heap.size + 1, 1, none⟩ = some (.int .i64 yp)) ((W.alloc (.cells #[.string ⟨xc.toArray⟩, .int .i64 xp] 80)).alloc (.cells #[.string ⟨yc.toArray⟩, .int .i64 yp] 80)).drew := ⟨by go_simp, by go_simp, by go_simp, by go_simp⟩
  have hsz : ((W.alloc (.cells #[.string ⟨xc.toArray⟩, .int .i64 xp] 80)).alloc (.cells #[.string ⟨yc.toArray⟩, .int .i64 yp] 80)).heap.size = W.heap.size + 2 := by simp
  generalize ((W.alloc (.cells #[.string ⟨xc.toArray⟩, .int .i64 xp] 80)).alloc (.cells #[.string ⟨yc.toArray⟩, .int .i64 yp] 80)) = WB at HGR hS hsz ⊢
  generalize W.heap.size = B at hS hsz ⊢
  refine region_seqI (S := fun W9 : World => W9.cell? ⟨B, 0, none⟩ = some (.string ⟨xc.toArray⟩) ∧ W9.cell? ⟨B, 1, none⟩ = some (.int .i64 xp) ∧ W9.cell? ⟨B + 1, 0, none⟩ = some (.string ⟨yc.toArray⟩) ∧ W9.cell? ⟨B + 1, 1, none⟩ = some (.int .i64 yp)) [(true, 0), (true, 1), (true, 2), (true, 3), (true, 5), (true, 6), (true, 7), (true, 8), (false, 4), (false, 9), (false, 10), (false, 11), (true, 12)] (by kernel_rfl) (by kernel_rfl) rfl (by kernel_rfl) hS ?_
  simp only [seqOps, List.getD_cons_zero, List.getD_cons_succ]
  refine seqI_take (v := .pointer (some ⟨B, 1, none⟩)) rfl (fun W hW => by obtain ⟨m0, m1, m2, m3⟩ := hW; go_simp) (fun _ _ _ h => h) ?_
  simp only [Act.put, List.setIfInBounds_toArray, List.set_cons_zero, List.set_cons_succ]
  refine seqI_take (v := .int .i64 xp) rfl (fun W hW => by obtain ⟨m0, m1, m2, m3⟩ := hW; go_simp) (fun _ _ _ h => h) ?_
  simp only [Act.put, List.setIfInBounds_toArray, List.set_cons_zero, List.set_cons_succ]
  refine seqI_take (v := .pointer (some ⟨B + 1, 1, none⟩)) rfl (fun W hW => by obtain ⟨m0, m1, m2, m3⟩ := hW; go_simp) (fun _ _ _ h => h) ?_
  simp only [Act.put, List.setIfInBounds_toArray, List.set_cons_zero, List.set_cons_succ]
  refine seqI_take (v := .int .i64 yp) rfl (fun W hW => by obtain ⟨m0, m1, m2, m3⟩ := hW; go_simp) (fun _ _ _ h => h) ?_
  simp only [Act.put, List.setIfInBounds_toArray, List.set_cons_zero, List.set_cons_succ]
  refine seqI_take (v := .pointer (some ⟨B, 0, none⟩)) rfl (fun W hW => by obtain ⟨m0, m1, m2, m3⟩ := hW; go_simp) (fun _ _ _ h => h) ?_
  simp only [Act.put, List.setIfInBounds_toArray, List.set_cons_zero, List.set_cons_succ]
  refine seqI_take (v := .string ⟨xc.toArray⟩) rfl (fun W hW => by obtain ⟨m0, m1, m2, m3⟩ := hW; go_simp) (fun _ _ _ h => h) ?_
  simp only [Act.put, List.setIfInBounds_toArray, List.set_cons_zero, List.set_cons_succ]
  refine seqI_take (v := .pointer (some ⟨B + 1, 0, none⟩)) rfl (fun W hW => by obtain ⟨m0, m1, m2, m3⟩ := hW; go_simp) (fun _ _ _ h => h) ?_
  simp only [Act.put, List.setIfInBounds_toArray, List.set_cons_zero, List.set_cons_succ]
  refine seqI_take (v := .string ⟨yc.toArray⟩) rfl (fun W hW => by obtain ⟨m0, m1, m2, m3⟩ := hW; go_simp) (fun _ _ _ h => h) ?_
  simp only [Act.put, List.setIfInBounds_toArray, List.set_cons_zero, List.set_cons_succ]
  refine seqI_call 82 #[.int .i64 xp, .int .i64 yp] rfl (by go_simp) (hcon _) ?_
  rintro e w6 ⟨rfl, rfl⟩
  refine ⟨_, rfl, hS, ?_⟩
  simp only [Act.put, List.setIfInBounds_toArray, List.set_cons_zero, List.set_cons_succ]
  refine seqI_call 83 #[.string ⟨xc.toArray⟩, .string ⟨yc.toArray⟩] rfl (by go_simp) (hcon2 _) ?_
  rintro e w6 ⟨rfl, rfl⟩
  refine ⟨_, rfl, hS, ?_⟩
  simp only [Act.put, List.setIfInBounds_toArray, List.set_cons_zero, List.set_cons_succ]
  refine seqI_do rfl (wp_val (bs_ii _ _ _ 9 14 r r2 rfl rfl rfl) ⟨?_, ?_⟩)
  · obtain ⟨m0, m1, m2, m3⟩ := hS
    have hB1 : WB.drew.heap.size = B + 2 := hsz
    have hb : Below WB.drew.heap.size WB.drew (WB.drew.alloc (.cells #[.int .i64 r, .int .i64 r2] 3)) := ext_alloc (Below.refl _ _)
    exact ⟨(hb.cell (p := ⟨B, 0, none⟩) (by show B < WB.drew.heap.size; rw [hB1]; omega)).trans m0, (hb.cell (p := ⟨B, 1, none⟩) (by show B < WB.drew.heap.size; rw [hB1]; omega)).trans m1, (hb.cell (p := ⟨B + 1, 0, none⟩) (by show B + 1 < WB.drew.heap.size; rw [hB1]; omega)).trans m2, (hb.cell (p := ⟨B + 1, 1, none⟩) (by show B + 1 < WB.drew.heap.size; rw [hB1]; omega)).trans m3⟩
  simp only [Act.put, List.setIfInBounds_toArray, List.set_cons_zero, List.set_cons_succ]
  refine seqI_call 81 #[.slice (some ⟨WB.drew.heap.size, 0, none⟩) 2 2] rfl (by go_simp) (orInt_any r r2 WB.drew.heap.size _ (by simp) (by go_simp) (by go_simp)) ?_
  rintro e w6 ⟨rfl, rfl⟩
  refine ⟨_, rfl, ?_, ?_⟩
  · obtain ⟨m0, m1, m2, m3⟩ := hS
    have hB1 : WB.drew.heap.size = B + 2 := hsz
    have hb : Below WB.drew.heap.size WB.drew (WB.drew.alloc (.cells #[.int .i64 r, .int .i64 r2] 3)) := ext_alloc (Below.refl _ _)
    exact ⟨(hb.cell (p := ⟨B, 0, none⟩) (by show B < WB.drew.heap.size; rw [hB1]; omega)).trans m0, (hb.cell (p := ⟨B, 1, none⟩) (by show B < WB.drew.heap.size; rw [hB1]; omega)).trans m1, (hb.cell (p := ⟨B + 1, 0, none⟩) (by show B + 1 < WB.drew.heap.size; rw [hB1]; omega)).trans m2, (hb.cell (p := ⟨B + 1, 1, none⟩) (by show B + 1 < WB.drew.heap.size; rw [hB1]; omega)).trans m3⟩
  simp only [Act.put, List.setIfInBounds_toArray, List.set_cons_zero, List.set_cons_succ]
  refine seqI_take (v := .int .i64 (firstE r r2)) rfl (fun W hW => by clear hW; go_simp) (fun _ _ _ h => h) ?_
  simp only [Act.put, List.setIfInBounds_toArray, List.set_cons_zero, List.set_cons_succ]
  refine seqI_nil ?_
  go_wp2_with fail
  go_ret
  exact ⟨rfl, 1, _, HGR.out _⟩
end Go.Proofs.YtppinnjdaoaddaaGreatDoor

set_option linter.unusedVariables false
set_option linter.unusedSimpArgs false
namespace Go.Proofs.YtppinnjdaoaddaaGreatDoor
open Go.RowKit

structure Flt where
  c : List UInt8
  f : Int
  t : Int
def noFlt : Flt := ⟨[], 0, 0⟩
def Flt.cells (x : Flt) : List Value := [.string ⟨x.c.toArray⟩, .int .i64 x.f, .int .i64 x.t]
def FltIn (x : Flt) : Prop := x.c.length ≤ 100 ∧ (-2000000000000 ≤ x.f ∧ x.f ≤ 2000000000000) ∧ (-2000000000000 ≤ x.t ∧ x.t ≤ 2000000000000)
structure FltRow (w : World) (a : Option Addr) (n : Nat) (l : List Flt) : Prop where
  cells : Cells w 3 a n (l.map Flt.cells)
  few : n ≤ 100
  each : ∀ i, i < l.length → FltIn (l.getD i noFlt)
theorem FltRow.below {w w' : World} {a : Option Addr} {n : Nat} {l : List Flt} (h : FltRow w a n l) (hb : Below w.heap.size w w') : FltRow w' a n l := ⟨h.cells.below hb, h.few, h.each⟩
theorem FltRow.len {w : World} {a : Option Addr} {n : Nat} {l : List Flt} (h : FltRow w a n l) : n = l.length := by have := h.cells.len; simpa using this
theorem FltRow.at {w : World} {a : Option Addr} {n : Nat} {l : List Flt} (h : FltRow w a n l) (hn : 0 < n) : ∃ b off, a = some ⟨b, off, none⟩ ∧ b < w.heap.size ∧ ∀ i, i < n → w.cell? ⟨b, off + i * 3, none⟩ = some (.string ⟨(l.getD i noFlt).c.toArray⟩) ∧ w.cell? ⟨b, off + i * 3 + 1, none⟩ = some (.int .i64 (l.getD i noFlt).f) ∧ w.cell? ⟨b, off + i * 3 + 2, none⟩ = some (.int .i64 (l.getD i noFlt).t) := by
  have hl := h.len
  rcases h.cells.row with h0 | ⟨b, off, ha, hb, hc⟩
  · omega
  · refine ⟨b, off, ha, hb, fun i hi => ?_⟩
    have k0 := hc i hi 0 (by omega)
    have k1 := hc i hi 1 (by omega)
    have k2 := hc i hi 2 (by omega)
    rw [getD_map Flt.cells l i noFlt [] (by omega)] at k0 k1 k2
    exact ⟨k0, k1, k2⟩
theorem FltRow.of_own {w : World} {base : Nat} {e : TypeId} {v : Value} {n : Nat} {l : List Flt} (h : w.ownsRow base e 3 v n ((l.map Flt.cells).flatten)) (hf : n ≤ 100) (he : ∀ x ∈ l, FltIn x) : ∃ a c, v = .slice a n c ∧ n ≤ c ∧ FltRow w a n l := by
  obtain ⟨a, c, rfl, hcs⟩ := Cells.of_own h (fun x hx => by obtain ⟨y, _, rfl⟩ := List.mem_map.1 hx; rfl) (by decide)
  exact ⟨a, c, rfl, (own_caps h).2, ⟨hcs, hf, fun i hi => he _ (mem_getD _ hi)⟩⟩
/-- Which of two faults comes first; the error of fault i; of all. -/
def fltCmp (x y : Flt) : Int := firstE (Lib.compareBytes x.c y.c) (Lib.compareInt x.f y.f)
def fltErr (l : List Carr) (s : List Flt) (i : Nat) : Int :=
  if hasC l (s.getD i noFlt).c = false then 8
  else if (s.getD i noFlt).f < 0 ∨ (s.getD i noFlt).t ≤ (s.getD i noFlt).f ∨ 345686400000 < (s.getD i noFlt).t then 1
  else if 0 < i ∧ 0 ≤ fltCmp (s.getD (i - 1) noFlt) (s.getD i noFlt) then 7
  else 0
def fltsErr (l : List Carr) (s : List Flt) : Int := if 1000 < s.length then 2 else firstErr (fltErr l s) s.length
def chkFE (l : List Carr) (s : List Flt) : Int := if carrsErr l ≠ 0 then carrsErr l else fltsErr l s
theorem flts_cases (l : List Carr) (s : List Flt) (h : s.length ≤ 1000) :
    (∀ k, k < s.length → (∀ j, j < k → fltErr l s j = 0) → fltErr l s k ≠ 0 → fltsErr l s = fltErr l s k) ∧ ((∀ j, j < s.length → fltErr l s j = 0) → fltsErr l s = 0) := by
  unfold fltsErr
  refine ⟨fun k k1 k2 k3 => ?_, fun k1 => ?_⟩
  · rw [if_neg (by omega), first_some k2 k1 k3]
  · rw [if_neg (by omega), first_none k1]
end Go.Proofs.YtppinnjdaoaddaaGreatDoor

set_option linter.unusedVariables false
set_option linter.unusedSimpArgs false
namespace Go.Proofs.YtppinnjdaoaddaaGreatDoor
open Go.RowKit

theorem Tryz.infoFts : (Tryz.prog.info? 132).map (fun i => (i.zero, i.size, i.bytes)) = some (some (.agg #[.string ⟨#[]⟩, .int .i64 0, .int .i64 0]), 3, 32) := by kernel_rfl
def FltsIn (l : List Flt) : Prop := ∀ x ∈ l, FltIn x
theorem FltsIn.snoc {l : List Flt} {r : Flt} (h : FltsIn l) (hr : FltIn r) : FltsIn (l ++ [r]) := fun x hx => by
  rcases List.mem_append.1 hx with hx | hx
  · exact h x hx
  · rw [List.mem_singleton.1 hx]; exact hr
theorem ftcells_snoc (l : List Flt) (r : Flt) : ((l ++ [r]).map Flt.cells).flatten = (l.map Flt.cells).flatten ++ Flt.cells r := by simp
theorem fts_snoc {w : World} {base : Nat} {e : TypeId} {v : Value} {l : List Flt} {r : Flt} (h : w.ownsRow base e 3 v (l.length + 1) ((l.map Flt.cells).flatten ++ Flt.cells r)) : w.ownsRow base e 3 v (l ++ [r]).length (((l ++ [r]).map Flt.cells).flatten) := by
  rw [ftcells_snoc, List.length_append]
  exact h
def FltsPost (S k : Nat) (w : World) (e : Ending) (w' : World) : Prop := ∃ v l, e = .returned v ∧ w'.ownsRow w.heap.size 132 3 v l.length ((l.map Flt.cells).flatten) ∧ l.length ≤ 7 ∧ FltsIn l ∧ StreamOk w' S k ∧ Keeps S w w'
theorem bl_fts0 (e : Operand → Value) (he : ∀ v, e (.const v) = v) (o : Oper) (w : World)  (z0 : Int) (z1 : Int) (z2 : Int) (z3 : Int) (ho : o.op = .buildSlice 22 4 #[(0, .const (.int .i64 z0)), (1, .const (.int .i64 z1)), (2, .const (.int .i64 z2)), (3, .const (.int .i64 z3))])  :
   (execOp e o).run Tryz.prog w = .ok (.value (.slice (some ⟨w.heap.size, 0, none⟩) 4 4)) (w.alloc (.cells #[.int .i64 z0, .int .i64 z1, .int .i64 z2, .int .i64 z3] 3)) := by
  unfold execOp
  rw [ho]
  simp only [List.map_toArray, List.map_cons, List.map_nil, he]
  kernel_rfl
theorem bl_fts1 (e : Operand → Value) (he : ∀ v, e (.const v) = v) (o : Oper) (w : World)  (z0 : Int) (z1 : Int) (z2 : Int) (ho : o.op = .buildSlice 22 3 #[(0, .const (.int .i64 z0)), (1, .const (.int .i64 z1)), (2, .const (.int .i64 z2))])  :
   (execOp e o).run Tryz.prog w = .ok (.value (.slice (some ⟨w.heap.size, 0, none⟩) 3 3)) (w.alloc (.cells #[.int .i64 z0, .int .i64 z1, .int .i64 z2] 3)) := by
  unfold execOp
  rw [ho]
  simp only [List.map_toArray, List.map_cons, List.map_nil, he]
  kernel_rfl
theorem bl_fts2 (e : Operand → Value) (he : ∀ v, e (.const v) = v) (o : Oper) (w : World) (i0 : Nat) (p0_0 : ByteArray) (z0_1 : Int) (z0_2 : Int) (ho : o.op = .buildSlice 89 1 #[(0, .tmp i0)]) (h0 : e (.tmp i0) = .agg #[.string p0_0, .int .i64 z0_1, .int .i64 z0_2]) :
   (execOp e o).run Tryz.prog w = .ok (.value (.slice (some ⟨w.heap.size, 0, none⟩) 1 1)) (w.alloc (.cells #[.string p0_0, .int .i64 z0_1, .int .i64 z0_2] 132)) := by
  unfold execOp
  rw [ho]
  simp only [List.map_toArray, List.map_cons, List.map_nil, h0]
  kernel_rfl
theorem bl_fts3 (e : Operand → Value) (he : ∀ v, e (.const v) = v) (o : Oper) (w : World)  (z0 : Int) (z1 : Int) (ho : o.op = .buildSlice 22 2 #[(0, .const (.int .i64 z0)), (1, .const (.int .i64 z1))])  :
   (execOp e o).run Tryz.prog w = .ok (.value (.slice (some ⟨w.heap.size, 0, none⟩) 2 2)) (w.alloc (.cells #[.int .i64 z0, .int .i64 z1] 3)) := by
  unfold execOp
  rw [ho]
  simp only [List.map_toArray, List.map_cons, List.map_nil, he]
  kernel_rfl
theorem bl_fts4 (e : Operand → Value) (he : ∀ v, e (.const v) = v) (o : Oper) (w : World)  (p0 : ByteArray) (p1 : ByteArray) (p2 : ByteArray) (ho : o.op = .buildSlice 121 3 #[(0, .const (.string p0)), (1, .const (.string p1)), (2, .const (.string p2))])  :
   (execOp e o).run Tryz.prog w = .ok (.value (.slice (some ⟨w.heap.size, 0, none⟩) 3 3)) (w.alloc (.cells #[.string p0, .string p1, .string p2] 9)) := by
  unfold execOp
  rw [ho]
  simp only [List.map_toArray, List.map_cons, List.map_nil, he]
  kernel_rfl
set_option maxRecDepth 100000 in
set_option maxHeartbeats 8000000 in
theorem faults_any (S k : Nat) (w : World) (h : StreamOk w S k) (hk : k ≤ 900000) (a : Option Addr) (n cap : Nat) (l : List Carr) (hl : ∀ W, Keeps S w W → CarrRow W a n l) (hn3 : n ≤ 3) : Calls Tryz.prog 41 #[.pointer (some ⟨S, 0, none⟩), .slice a n cap] w (FltsPost S (k + 40) w) := by
  obtain ⟨i1, hi1, hy0, hy1, hy2⟩ := info_parts Tryz.infoFts
  have HS := Lib.hid h
  have HL := Lib.hid hl
  have HLEN := Lib.hid (hl w (Keeps.refl _ _)).len
  have hSW := h.lt
  clear h hl
  go_enter Tryz.func41, Tryz.ntmps41
  go_wp2_with fail
  go_loopw [5, 11] (fun vo it wr => ∃ (i : Nat) (fl : List Flt), i ≤ n ∧ it = .int .i64 i ∧ fl.length ≤ 2 * i ∧ Hid (FltsIn fl) ∧ Hid (wr.ownsRow w.heap.size 132 3 vo fl.length ((fl.map Flt.cells).flatten)) ∧ w.heap.size ≤ wr.heap.size ∧ Hid (StreamOk wr S (k + 6 * i)) ∧ Hid (Keeps S w wr)) (fun _ it _ => n - (intOf it).toNat)
  case atStart => exact ⟨0, [], Nat.zero_le _, rfl, Nat.le_refl _, (fun x hx => by cases hx), World.ownsRow_nil _ _ _ _, Nat.le_refl _, HS.out, Keeps.refl _ _⟩
  case round =>
    clear HS
    obtain ⟨i, fl, hi, rfl, hfl, HFI, HO, hWr, HSr, HKr⟩ := hrel
    obtain ⟨vo, rfl⟩ : ∃ x : Value, x = u5 := ⟨_, rfl⟩
    by_cases hlt : i < n
    case neg =>
      obtain rfl : i = n := by omega
      have hlti : ¬ (i : Int) < (i : Int) := by omega
      as_aux_lemma =>
        go_wp2_with fail
        refine (flip_any S (k + 6 * i) 15 _ HSr.out (by omega) (by decide) (by decide)).mono ?_
        rintro e w1 ⟨fb, rfl, hst, hk'⟩
        have HS1 := Lib.hid hst
        have HK1 := Lib.hid (HKr.out.trans hk')
        have HO1 := Lib.hid (own_keeps HO.out hk' hSW)
        clear hst hk' HSr HKr HO
        cases fb
        · have HE : Hid (FltsPost S (k + 40) w (.returned vo) w1) := ⟨_, fl, rfl, HO1.out, by omega, HFI.out, HS1.out.mono (by omega), HK1.out⟩
          as_aux_lemma =>
            go_wp2_with fail
            go_ret
            exact HE.out
        obtain ⟨oa, oc, rfl⟩ := own_shape HO1.out
        skip
        as_aux_lemma =>
          go_wp2_with (refine wpList_val rfl (bl_fts4 _ (fun _ => rfl) _ _  ⟨#[120, 122]⟩ ⟨#[120, 97]⟩ ⟨#[120, 99]⟩ rfl) ?_)
          refine (some_lit S (k + 6 * i + 1) [[120, 122], [120, 97], [120, 99]] (fun s => s.length ≤ 100) _ _ _ HS1.out (by omega) rfl rfl (by decide) (by decide) (by decide)).mono ?_
          rintro e w2 ⟨sc, rfl, hsc, hst, hk'⟩
          have hsc : sc.length ≤ 100 := hsc
          have HS2 := Lib.hid hst
          have HK2 := Lib.hid (HK1.out.trans hk')
          have HO2 := Lib.hid (own_keeps HO1.out hk' hSW)
          clear hst hk' HS1 HK1 HO1
          as_aux_lemma =>
            go_wp2_with (refine wpList_val rfl (bl_fts3 _ (fun _ => rfl) _ _  500 ((-1)) rfl) ?_)
            refine (pick_lit S (k + 6 * i + 1 + 1) [500, (-1)] (fun x => -1 ≤ x ∧ x ≤ 500) _ _ _ HS2.out (by omega) rfl rfl (by decide) (by decide) (by decide)).mono ?_
            rintro e w3 ⟨t, rfl, ⟨t0, t1⟩, hst, hk'⟩
            have HS3 := Lib.hid hst
            have HK3 := Lib.hid (HK2.out.trans hk')
            have HO3 := Lib.hid (own_keeps HO2.out hk' hSW)
            clear hst hk' HS2 HK2 HO2
            as_aux_lemma =>
              go_wp2_with (refine wpList_val rfl (bl_fts3 _ (fun _ => rfl) _ _  600 500 rfl) ?_)
              refine (pick_lit S (k + 6 * i + 1 + 1 + 1) [600, 500] (fun x => 500 ≤ x ∧ x ≤ 600) _ _ _ HS3.out (by omega) rfl rfl (by decide) (by decide) (by decide)).mono ?_
              rintro e w4 ⟨u, rfl, ⟨u0, u1⟩, hst, hk'⟩
              have HS4 := Lib.hid hst
              have HK4 := Lib.hid (HK3.out.trans hk')
              have HO4 := Lib.hid (own_keeps HO3.out hk' hSW)
              clear hst hk' HS3 HK3 HO3
              have hw4 : w.heap.size ≤ w4.heap.size := HK4.out.size
              have hvw : ∀ b, (Value.slice oa fl.length oc).ownBlock = some b → w.heap.size ≤ b := fun b e => (HO4.out.lt b e).1
              have HOA : Hid (World.ownsRow (w4.alloc (.cells #[.string ⟨sc.toArray⟩, .int .i64 t, .int .i64 u] 132)) w.heap.size 132 3 (.slice oa fl.length oc) fl.length ((fl.map Flt.cells).flatten)) := World.ownsRow.alloc HO4.out (.cells #[.string ⟨sc.toArray⟩, .int .i64 t, .int .i64 u] 132)
              have HNA : Hid (Blk (w4.alloc (.cells #[.string ⟨sc.toArray⟩, .int .i64 t, .int .i64 u] 132)) w4.heap.size [.string ⟨sc.toArray⟩, .int .i64 t, .int .i64 u] 132) := Blk.new w4 [.string ⟨sc.toArray⟩, .int .i64 t, .int .i64 u] 132
              have HFN := Lib.hid (HFI.out.snoc (r := ⟨sc, t, u⟩) ⟨hsc, ⟨by show -2000000000000 ≤ t; omega, by show t ≤ 2000000000000; omega⟩, ⟨by show -2000000000000 ≤ u; omega, by show u ≤ 2000000000000; omega⟩⟩)
              as_aux_lemma =>
                go_wp2_with (first | (refine wpList_val rfl (bl_fts2 _ (fun _ => rfl) _ _ 55 ⟨sc.toArray⟩ t u rfl rfl) ?_) | (at_builtin; go_loud (refine wpList_append_own_at _ rfl (.tmp 44) (.tmp 56) 89 rfl w.heap.size 132 i1 _ 3 32 Tryz.underlying89 hi1 hy0 hy1 hy2 rfl (by omega) (.slice oa fl.length oc) fl.length _ rfl HOA.out ⟨w4.heap.size, 0, none⟩ 1 1 [.string ⟨sc.toArray⟩, .int .i64 t, .int .i64 u] rfl rfl (fun j u hj => by rw [add0]; exact HNA.out.cell j hj) (by simp [Value.oneCell']) (by simp only [maxLen]; omega) (by omega) (by simp; omega) ?_); intro v12 w12 hown12 hgr12 _ hat12; have HQ1 := Lib.hid hown12; have HQ2 := Lib.hid hgr12; clear hown12 hgr12 hat12 HOA HNA; refine Hid.out ?_))
                refine Lib.hid ?_
                have HE : Hid (FltsPost S (k + 40) w (.returned v12) w12) := ⟨_, fl ++ [(⟨sc, t, u⟩ : Flt)], rfl, fts_snoc (r := ⟨sc, t, u⟩) HQ1.out, by rw [List.length_append, List.length_singleton]; omega, HFN.out, (HS4.out.mono (by omega)).upto (upto_grown HQ2.out (by omega) (fun b e => by have := hvw b e; omega)), HK4.out.grown HQ2.out hvw⟩
                clear HQ1 HQ2 HS4 HK4 HO4 HFN
                as_aux_lemma =>
                  go_wp2_with fail
                  go_ret
                  exact HE.out
    have hlti : (i : Int) < (n : Int) := by omega
    obtain ⟨b, off, rfl, hb, hc⟩ := (HL.out _ HKr.out).at (by omega)
    obtain ⟨c0, c1, c2⟩ := hc i hlt
    have hkl := ((HL.out _ HKr.out).each i (by rw [← HLEN.out]; exact hlt)).key
    clear hc
    generalize l.getD i noCarr = cx at c0 c1 c2 hkl
    obtain ⟨ky, ln, da, dn, dc, dk⟩ := cx
    simp only at c0 c1 c2 hkl
    have HC1 : Hid (Blk (wr.alloc (.cells #[.string ⟨ky.toArray⟩, .int .i64 ln, .slice da dn dc] 72)) wr.heap.size [.string ⟨ky.toArray⟩, .int .i64 ln, .slice da dn dc] 72) := Blk.new wr [.string ⟨ky.toArray⟩, .int .i64 ln, .slice da dn dc] 72
    have hk1 : Keeps S wr (wr.alloc (.cells #[.string ⟨ky.toArray⟩, .int .i64 ln, .slice da dn dc] 72)) := (Keeps.refl _ _).alloc _
    have HS1 : Hid (StreamOk (wr.alloc (.cells #[.string ⟨ky.toArray⟩, .int .i64 ln, .slice da dn dc] 72)) S (k + 6 * i)) := HSr.out.below (ext_alloc (Below.refl _ _))
    have HK1 := Lib.hid (HKr.out.trans hk1)
    have HO1 := Lib.hid (own_keeps HO.out hk1 hSW)
    have hCS : wr.heap.size ≠ S := by omega
    clear hk1 HSr HKr HO hWr
    as_aux_lemma =>
      go_upto_region 5 with (fail)
      generalize wr.alloc (.cells #[.string ⟨ky.toArray⟩, .int .i64 ln, .slice da dn dc] 72) = w1 at HC1 HS1 HK1 HO1 ⊢
      generalize wr.heap.size = C at HC1 hCS ⊢
      clear c0 c1 c2
      as_aux_lemma =>
        go_wp2_with fail
        refine (next_any S (k + 6 * i) 30 _ HS1.out (by omega) (by omega) (by omega)).mono ?_
        rintro e w2 ⟨at_, rfl, at0, at1, hst, hk'⟩
        have HS2 := Lib.hid hst
        have HK2 := Lib.hid (HK1.out.trans hk')
        have HO2 := Lib.hid (own_keeps HO1.out hk' hSW)
        have HC2 := Lib.hid (HC1.out.keeps hk' hCS)
        clear hst hk' HS1 HK1 HO1 HC1
        as_aux_lemma =>
          go_wp2_with (refine wpList_val rfl (bl_fts0 _ (fun _ => rfl) _ _  0 0 1 2 rfl) ?_)
          refine (pick_lit S (k + 6 * i + 1) [0, 0, 1, 2] (fun x => 0 ≤ x ∧ x ≤ 2) _ _ _ HS2.out (by omega) rfl rfl (by decide) (by decide) (by decide)).mono ?_
          rintro e w3 ⟨q, rfl, ⟨q0, q1⟩, hst, hk'⟩
          have HS3 := Lib.hid hst
          have HK3 := Lib.hid (HK2.out.trans hk')
          have HO3 := Lib.hid (own_keeps HO2.out hk' hSW)
          have HC3 := Lib.hid (HC2.out.keeps hk' hCS)
          clear hst hk' HS2 HK2 HO2 HC2
          obtain ⟨wo, rfl⟩ : ∃ x : World, x = wr := ⟨_, rfl⟩
          as_aux_lemma =>
            go_wp2_with fail
            go_loopw [5, 8, 20] (fun vo va it wr => ∃ (j : Nat) (fl : List Flt) (t : Int), (j : Int) ≤ q ∧ it = .int .i64 j ∧ va = .int .i64 t ∧ 0 ≤ t ∧ t ≤ 30 + 20 * j ∧ fl.length ≤ 2 * i + j ∧ Hid (FltsIn fl) ∧ Hid (wr.ownsRow w.heap.size 132 3 vo fl.length ((fl.map Flt.cells).flatten)) ∧ Hid (Blk wr C [.string ⟨ky.toArray⟩, .int .i64 ln, .slice da dn dc] 72) ∧ Hid (StreamOk wr S (k + 6 * i + 2 + 2 * j)) ∧ Hid (Keeps S w wr)) (fun _ _ it _ => (q - intOf it).toNat)
            case atStart => exact ⟨0, fl, at_, by omega, rfl, rfl, at0, by omega, by omega, HFI.out, HO3.out, HC3.out, HS3.out, HK3.out⟩
            case round =>
              clear HFI HO3 HC3 HS3 HK3 hfl
              obtain ⟨j, fl, t, hj, rfl, rfl, ht0, ht1, hfl, HFI, HO, HCr, HSr, HKr⟩ := hrel
              obtain ⟨vo, rfl⟩ : ∃ x : Value, x = u5 := ⟨_, rfl⟩
              by_cases hlj : (j : Int) < q
              case neg =>
                have hWr : w.heap.size ≤ wr.heap.size := HKr.out.size
                as_aux_lemma =>
                  go_wp2_with fail
                  go_roundw
                  case rel => exact ⟨i + 1, fl, by omega, by go_num, by omega, HFI.out, HO.out, hWr, HSr.out.mono (by omega), HKr.out⟩
                  case measure => simp [intOf]; omega
              obtain ⟨oa, oc, rfl⟩ := own_shape HO.out
              as_aux_lemma =>
                go_upto_region 8 with (fail)
                have hS0 : wr.drew.cell? ⟨C, 0, none⟩ = some (.string ⟨ky.toArray⟩) := HCr.out.cell 0 rfl
                have hkd : Keeps S wr wr.drew := Keeps.of_below (by exact ext_drew (Below.refl _ _))
                have HSd : Hid (StreamOk wr.drew S (k + 6 * i + 2 + 2 * j)) := HSr.out.below (by exact ext_drew (Below.refl _ _))
                have HKd := Lib.hid (HKr.out.trans hkd)
                have HOd := Lib.hid (own_keeps HO.out hkd hSW)
                have HCd := Lib.hid (HCr.out.keeps hkd hCS)
                have hSl : S < wr.drew.heap.size := HSd.out.lt
                clear hkd HSr HKr HO HCr
                refine region_seqI (S := fun W : World => W.cell? ⟨C, 0, none⟩ = some (.string ⟨ky.toArray⟩)) [(true, 0), (true, 1), (true, 2), (true, 3), (true, 4), (true, 5), (false, 6), (false, 7), (true, 8), (true, 9), (true, 10), (false, 11), (false, 12), (true, 13)] (by kernel_rfl) (by kernel_rfl) rfl (by kernel_rfl) hS0 ?_
                generalize wr.drew = wd at hS0 HSd HKd HOd HCd hSl ⊢
                simp only [seqOps, List.getD_cons_zero, List.getD_cons_succ]
                refine seqI_take (v := .slice oa fl.length oc) rfl (fun W hW => by clear hW; go_simp) (fun _ _ _ h => h) ?_
                simp only [Act.put, List.setIfInBounds_toArray, List.set_cons_zero, List.set_cons_succ]
                refine seqI_take (v := .pointer (some ⟨C, 0, none⟩)) rfl (fun W hW => by clear hW; go_simp) (fun _ _ _ h => h) ?_
                simp only [Act.put, List.setIfInBounds_toArray, List.set_cons_zero, List.set_cons_succ]
                refine seqI_take (v := .string ⟨ky.toArray⟩) rfl (fun W hW => by go_simp) (fun _ _ _ h => h) ?_
                simp only [Act.put, List.setIfInBounds_toArray, List.set_cons_zero, List.set_cons_succ]
                refine seqI_take (v := .int .i64 t) rfl (fun W hW => by clear hW; go_simp) (fun _ _ _ h => h) ?_
                simp only [Act.put, List.setIfInBounds_toArray, List.set_cons_zero, List.set_cons_succ]
                refine seqI_take (v := .int .i64 t) rfl (fun W hW => by clear hW; go_simp) (fun _ _ _ h => h) ?_
                simp only [Act.put, List.setIfInBounds_toArray, List.set_cons_zero, List.set_cons_succ]
                refine seqI_take (v := .pointer (some ⟨S, 0, none⟩)) rfl (fun W hW => by clear hW; go_simp) (fun _ _ _ h => h) ?_
                simp only [Act.put, List.setIfInBounds_toArray, List.set_cons_zero, List.set_cons_succ]
                have hS1 : (wd.alloc (.cells #[.int .i64 1, .int .i64 10, .int .i64 100] 3)).cell? ⟨C, 0, none⟩ = some (.string ⟨ky.toArray⟩) := (HCd.out.alloc _).cell 0 rfl
                refine seqI_do rfl (wp_val (bl_fts1 _ (fun _ => rfl) _ _  1 10 100 rfl) ⟨hS1, ?_⟩)
                simp only [Act.put, List.setIfInBounds_toArray, List.set_cons_zero, List.set_cons_succ]
                refine seqI_call 11 #[.pointer (some ⟨S, 0, none⟩), .slice (some ⟨wd.heap.size, 0, none⟩) 3 3] rfl (by go_simp) (pick_lit S (k + 6 * i + 2 + 2 * j) [1, 10, 100] (fun x => 1 ≤ x ∧ x ≤ 100) wd _ _ HSd.out (by omega) rfl rfl (by decide) (by decide) (by decide)) ?_
                rintro e w5 ⟨p, rfl, ⟨p0, p1⟩, hst, hk'⟩
                have HS5 := Lib.hid hst
                have HK5 := Lib.hid (HKd.out.trans hk')
                have HO5 := Lib.hid (own_keeps HOd.out hk' hSW)
                have HC5 := Lib.hid (HCd.out.keeps hk' hCS)
                have hS5 : w5.cell? ⟨C, 0, none⟩ = some (.string ⟨ky.toArray⟩) := HC5.out.cell 0 rfl
                have wt : IntKind.i64.wrap (t + p) = t + p := IntWalk.i64_in _ (by omega)
                refine ⟨_, rfl, hS5, ?_⟩
                simp only [Act.put, List.setIfInBounds_toArray, List.set_cons_zero, List.set_cons_succ]
                clear hst hk' HSd HKd HOd HCd hSl hS0 hS1
                refine seqI_take (v := .int .i64 (t + p)) rfl (fun W hW => by clear hW; go_simp) (fun _ _ _ h => h) ?_
                simp only [Act.put, List.setIfInBounds_toArray, List.set_cons_zero, List.set_cons_succ]
                refine seqI_take (v := .agg #[.int .i64 t, .int .i64 (t + p)]) rfl (fun W hW => by clear hW; go_simp) (fun _ _ _ h => h) ?_
                simp only [Act.put, List.setIfInBounds_toArray, List.set_cons_zero, List.set_cons_succ]
                refine seqI_take (v := .agg #[.string ⟨ky.toArray⟩, .int .i64 t, .int .i64 (t + p)]) rfl (fun W hW => by clear hW; go_simp) (fun _ _ _ h => h) ?_
                simp only [Act.put, List.setIfInBounds_toArray, List.set_cons_zero, List.set_cons_succ]
                have hk6 : Keeps S w5 (w5.alloc (.cells #[.string ⟨ky.toArray⟩, .int .i64 t, .int .i64 (t + p)] 132)) := (Keeps.refl _ _).alloc _
                have HN6 : Hid (Blk (w5.alloc (.cells #[.string ⟨ky.toArray⟩, .int .i64 t, .int .i64 (t + p)] 132)) w5.heap.size [.string ⟨ky.toArray⟩, .int .i64 t, .int .i64 (t + p)] 132) := Blk.new w5 [.string ⟨ky.toArray⟩, .int .i64 t, .int .i64 (t + p)] 132
                have HO6 := Lib.hid (own_keeps HO5.out hk6 hSW)
                have hS6 : (w5.alloc (.cells #[.string ⟨ky.toArray⟩, .int .i64 t, .int .i64 (t + p)] 132)).cell? ⟨C, 0, none⟩ = some (.string ⟨ky.toArray⟩) := (HC5.out.alloc _).cell 0 rfl
                have hw5 : w.heap.size ≤ w5.heap.size := HK5.out.size
                have hvw : ∀ b, (Value.slice oa fl.length oc).ownBlock = some b → w.heap.size ≤ b := fun b e => (HO5.out.lt b e).1
                have hoC : (Value.slice oa fl.length oc).ownBlock ≠ some C := fun e => by
                  rcases HO5.out.2 with ⟨h, _⟩ | ⟨g9, cap9, cur9, h, _, h9, _⟩
                  · rw [h] at e; cases e
                  · rw [h] at e
                    injection e with e
                    simp only at e
                    rw [e] at h9
                    rw [HC5.out.at_] at h9
                    injection h9 with h9
                    injection h9 with _ h8
                    exact absurd h8 (by decide)
                refine seqI_do rfl (wp_val (bl_fts2 _ (fun _ => rfl) _ _ 32 ⟨ky.toArray⟩ t ((t + p)) rfl rfl) ⟨hS6, ?_⟩)
                simp only [Act.put, List.setIfInBounds_toArray, List.set_cons_zero, List.set_cons_succ]
                refine seqI_do rfl (wp_append_own_at (.tmp 22) (.tmp 33) 89 rfl w.heap.size 132 i1 _ 3 32 Tryz.underlying89 hi1 hy0 hy1 hy2 rfl (by omega) (.slice oa fl.length oc) fl.length _ rfl HO6.out ⟨w5.heap.size, 0, none⟩ 1 1 [.string ⟨ky.toArray⟩, .int .i64 t, .int .i64 (t + p)] rfl rfl (fun j u hj => by rw [add0]; exact HN6.out.cell j hj) (by simp [Value.oneCell']) (by simp only [maxLen]; omega) (by omega) (by simp; omega) ?_)
                intro v10 w10 hown10 hgr10 hat10
                have HO10 := Lib.hid (fts_snoc (r := ⟨ky, t, t + p⟩) hown10)
                have HC10 := Lib.hid ((HC5.out.alloc (.cells #[.string ⟨ky.toArray⟩, .int .i64 t, .int .i64 (t + p)] 132)).grown hgr10 hoC)
                have HS10 : Hid (StreamOk w10 S (k + 6 * i + 2 + 2 * j + 1)) := HS5.out.upto (upto_grown hgr10 (by omega) (fun b e => by have := hvw b e; omega))
                have HK10 : Hid (Keeps S w w10) := HK5.out.grown hgr10 hvw
                have hS10 : w10.cell? ⟨C, 0, none⟩ = some (.string ⟨ky.toArray⟩) := HC10.out.cell 0 rfl
                have HFN := Lib.hid (HFI.out.snoc (r := ⟨ky, t, t + p⟩) ⟨hkl, ⟨by show -2000000000000 ≤ t; omega, by show t ≤ 2000000000000; omega⟩, ⟨by show -2000000000000 ≤ t + p; omega, by show t + p ≤ 2000000000000; omega⟩⟩)
                refine ⟨hS10, ?_⟩
                simp only [Act.put, List.setIfInBounds_toArray, List.set_cons_zero, List.set_cons_succ]
                clear hown10 hgr10 hat10 hk6 HN6 HO6 hS6 HO5 HC5 HS5 HK5 hS5 HFI
                refine seqI_take (v := v10) rfl (fun W hW => by clear hW; go_simp) (fun _ _ _ h => h) ?_
                simp only [Act.put, List.setIfInBounds_toArray, List.set_cons_zero, List.set_cons_succ]
                refine seqI_nil ?_
                clear hS10
                as_aux_lemma =>
                  go_wp2_with (refine wpList_val rfl (bl_fts3 _ (fun _ => rfl) _ _  1 20 rfl) ?_)
                  refine (pick_lit S (k + 6 * i + 2 + 2 * j + 1) [1, 20] (fun x => 1 ≤ x ∧ x ≤ 20) _ _ _ HS10.out (by omega) rfl rfl (by decide) (by decide) (by decide)).mono ?_
                  rintro e w11 ⟨p2, rfl, ⟨p20, p21⟩, hst, hk'⟩
                  have HS11 := Lib.hid hst
                  have HK11 := Lib.hid (HK10.out.trans hk')
                  have HO11 := Lib.hid (own_keeps HO10.out hk' hSW)
                  have HC11 := Lib.hid (HC10.out.keeps hk' hCS)
                  have wt2 : IntKind.i64.wrap (t + p2) = t + p2 := IntWalk.i64_in _ (by omega)
                  clear hst hk' HS10 HK10 HO10 HC10
                  as_aux_lemma =>
                    go_wp2_with fail
                    go_roundw
                    case rel => exact ⟨j + 1, fl ++ [(⟨ky, t, t + p⟩ : Flt)], t + p2, by omega, by go_num, rfl, by omega, by omega, by rw [List.length_append, List.length_singleton]; omega, HFN.out, HO11.out, HC11.out, HS11.out.mono (by omega), HK11.out⟩
                    case measure => simp [intOf]; omega
end Go.Proofs.YtppinnjdaoaddaaGreatDoor

set_option linter.unusedVariables false
set_option linter.unusedSimpArgs false
namespace Go.Proofs.YtppinnjdaoaddaaGreatDoor
open Go.RowKit

def probeD (B : Nat) : Deck := ⟨0, 0, 0, 60000, some ⟨B, 0, none⟩, 1, 1, [⟨[52, 57], 100, false⟩]⟩
theorem probe_fine {w : World} {B : Nat} (h : Blk w B [.string ⟨#[52, 57]⟩, .int .i64 100, .bool false] 120) : DeckFine w (probeD B) := by
  refine ⟨⟨⟨rfl, Or.inr ⟨B, 0, rfl, h.lt, fun i hi j hj => ?_⟩⟩, by show 1 ≤ 100; decide, fun i hi => ?_⟩, Nat.le_refl 1, by show (-2000000000000 : Int) ≤ 0 ∧ (0 : Int) ≤ 2000000000000; decide, by show (-2000000000000 : Int) ≤ 0 ∧ (0 : Int) ≤ 2000000000000; decide, by show (-2000000000000 : Int) ≤ 0 ∧ (0 : Int) ≤ 2000000000000; decide, by show (-2000000000000 : Int) ≤ 60000 ∧ (60000 : Int) ≤ 2000000000000; decide⟩
  · have hi : i < 1 := hi
    obtain rfl : i = 0 := by omega
    match j, hj with
    | 0, _ => exact h.cell 0 rfl
    | 1, _ => exact h.cell 1 rfl
    | 2, _ => exact h.cell 2 rfl
  · have hi : i < 1 := hi
    obtain rfl : i = 0 := by omega
    show ([52, 57] : List UInt8).length ≤ 100 ∧ (-2000000000000 : Int) ≤ 100 ∧ (100 : Int) ≤ 2000000000000
    decide
theorem probe_err (B : Nat) : priceE (probeD B) [43, 52, 57, 51, 48, 49] 61000 = 0 := by
  show priceE ⟨0, 0, 0, 60000, some ⟨B, 0, none⟩, 1, 1, [⟨[52, 57], 100, false⟩]⟩ _ _ = 0
  rfl
theorem probe_val (B : Nat) : priceA (probeD B) [43, 52, 57, 51, 48, 49] 61000 = (200, true) := by
  unfold priceA
  rw [probe_err, if_pos rfl]
  rfl
theorem probe_any (w : World) (B : Nat) (h : Blk w B [.string ⟨#[52, 57]⟩, .int .i64 100, .bool false] 120) : Calls Tryz.prog 65 #[.agg #[.int .i64 0, .int .i64 0, .int .i64 0, .int .i64 60000, .slice (some ⟨B, 0, none⟩) 1 1], .string ⟨#[43, 52, 57, 51, 48, 49]⟩, .int .i64 61000] w fun e w' => e = .returned (.tuple #[.int .i64 200, .bool true, .int .i64 0]) ∧ Below w.heap.size w w' := by
  refine (carPrice_any w (probeD B) (probe_fine h) [43, 52, 57, 51, 48, 49] (by decide) 61000).mono ?_
  rintro e w' ⟨rfl, hb⟩
  rw [probe_err, probe_val]
  exact ⟨rfl, hb⟩
set_option maxRecDepth 100000 in
set_option maxHeartbeats 2000000 in
theorem carried_any (w : World) : Calls Tryz.prog 23 #[] w fun e w' => e = .returned (.bool true) ∧ Below w.heap.size w w' := by
  go_enter Tryz.func23, Tryz.ntmps23
  go_wp2_with fail
  have HB : Hid (Blk (w.alloc (.cells #[.string ⟨#[52, 57]⟩, .int .i64 100, .bool false] 120)) w.heap.size [.string ⟨#[52, 57]⟩, .int .i64 100, .bool false] 120) := Blk.new w [.string ⟨#[52, 57]⟩, .int .i64 100, .bool false] 120
  refine (probe_any _ _ HB.out).mono ?_
  rintro e w1 ⟨rfl, hb⟩
  have HE := Lib.hid (ext_trans (ext_alloc (Below.refl w.heap.size w) (o := .cells #[.string ⟨#[52, 57]⟩, .int .i64 100, .bool false] 120)) hb)
  clear hb HB
  as_aux_lemma =>
    go_wp2_with fail
    go_ret
    exact ⟨rfl, HE.out⟩
end Go.Proofs.YtppinnjdaoaddaaGreatDoor

set_option linter.unusedVariables false
set_option linter.unusedSimpArgs false
namespace Go.Proofs.YtppinnjdaoaddaaGreatDoor
open Go.RowKit Go.Sort Go.Lib

def OffRow (w : World) (base : Nat) (v : Value) (l : List Off) : Prop := w.ownsRow base 80 2 v l.length ((l.map Off.cells).flatten)
def SortPost (base : Nat) (v : Value) (l : List Off) (w : World) (e : Ending) (w' : World) : Prop := e = .returned (.tuple #[]) ∧ OffRow w' base v l ∧ Below base w w'
theorem off_one : ∀ (x : Off), ∀ v ∈ Off.cells x, v.oneCell' = true := fun x v hv => by
  simp only [Off.cells, List.mem_cons, List.not_mem_nil, or_false] at hv
  rcases hv with rfl | rfl <;> rfl
theorem cmpP_lays (blk size : Nat) (w : World) : CmpLays Tryz.prog 104 #[] Off.cells 2 cfP blk 0 size w := fun m os dk _ x y => cmpP_any x y _
theorem cmpPC_lays (blk size : Nat) (w : World) : CmpLays Tryz.prog 80 #[] Off.cells 2 cfPC blk 0 size w := fun m os dk _ x y => cmpPC_any x y _
/-- Nothing is sorted. -/
theorem insO_nil (c : Nat) (a : Option Addr) (fv : Value) (w : World) : Calls Tryz.prog 138 #[.slice a 0 c, .int .i64 0, .int .i64 0, fv] w fun e w' => e = .returned (.tuple #[]) ∧ w = w' := by
  go_enter Tryz.func138, Tryz.ntmps138
  go_wp2_with fail
  go_loopw [8] (fun i wr => i = .int .i64 1 ∧ wr = w) (fun _ _ => 0)
  case atStart => exact ⟨rfl, rfl⟩
  case round =>
    obtain ⟨rfl, rfl⟩ := hrel
    go_wp2_with fail
    go_end0
    exact ⟨rfl, rfl⟩
theorem pdqO_nil (c : Nat) (a : Option Addr) (lim : Int) (fv : Value) (w : World) : Calls Tryz.prog 107 #[.slice a 0 c, .int .i64 0, .int .i64 0, .int .i64 lim, fv] w fun e w' => e = .returned (.tuple #[]) ∧ w = w' := by
  go_enter Tryz.func107, Tryz.ntmps107
  go_wp2_with fail
  go_loopw [1, 2] (fun x1 x2 wr => x1 = .int .i64 0 ∧ x2 = .int .i64 0 ∧ wr = w) (fun _ _ _ => 0)
  case atStart => exact ⟨rfl, rfl, rfl⟩
  case round =>
    obtain ⟨rfl, rfl, rfl⟩ := hrel
    go_wp2_with fail
    refine (insO_nil c a fv _).mono ?_
    rintro e w' ⟨rfl, rfl⟩
    go_wp2_with fail
    refine bodyPost_ret (results_none rfl _ _ _) rfl ?_
    exact ⟨rfl, rfl⟩
theorem sortFO_any (w : World) (base : Nat) (v : Value) (l : List Off) (h : OffRow w base v l) (hl : l.length ≤ 12) : Calls Tryz.prog 79 #[v, .func (.func 80) #[] #[]] w (SortPost base v (insL (ltOf cfPC) l) w) := by
  unfold OffRow at h
  obtain ⟨a, c, rfl⟩ := own_shape h
  by_cases h0 : l.length = 0
  · have hx : l = [] := List.eq_nil_of_length_eq_zero h0
    subst hx
    have e1 : insL (ltOf cfPC) ([] : List Off) = [] := by unfold insL insertionSort insOuter; simp
    rw [e1]
    have HP : Hid (OffRow w base (.slice a 0 c) []) := h
    show Calls Tryz.prog 79 #[.slice a 0 c, .func (.func 80) #[] #[]] w _
    clear h h0 e1
    go_enter Tryz.func79, Tryz.ntmps79
    go_wp2_with fail
    refine (Tryz.bits_Len 0 _ (by omega) (by omega)).mono ?_
    rintro e w' ⟨rfl, rfl⟩
    go_wp2_with fail
    refine (pdqO_nil c a _ _ _).mono ?_
    rintro e w' ⟨rfl, rfl⟩
    go_wp2_with fail
    go_end0
    exact ⟨rfl, HP.out, Below.refl _ _⟩
  · obtain ⟨g, rfl, hg1, hg2⟩ := own_pos h (by omega)
    have hcon := Tryz.slices_sortO Off.cells (fun _ => rfl) off_one cfPC 80 #[] g 0 c l.toArray w (enters_of Tryz.func80 (by kernel_rfl) rfl) (cmpPC_lays g _ w) (holdsK_own Off.cells (fun _ => rfl) (by omega) h) hg2 (by simpa using hl) (fun n W hn => (Tryz.bits_Len n W (by omega) (by omega)).mono (fun e w' ⟨h1, h2⟩ => ⟨⟨_, h1⟩, h2⟩))
    refine Calls.mono hcon ?_
    rintro e w' ⟨rfl, q, os, rfl⟩
    have e2 : l.toArray.size = l.length := by simp
    rw [e2, insL_arr]
    refine ⟨rfl, ?_, below_sortK Off.cells 2 os (Below.refl base w) hg1 (by omega)⟩
    unfold OffRow
    rw [insL_len]
    exact own_putK Off.cells (fun _ => rfl) (by omega) h (insL_len _ _) q os
set_option maxRecDepth 100000 in
set_option maxHeartbeats 2000000 in
theorem stableO_any (w : World) (base : Nat) (v : Value) (l : List Off) (h : OffRow w base v l) (hl : l.length ≤ 12) : Calls Tryz.prog 103 #[v, .func (.func 104) #[] #[]] w (SortPost base v (insL (ltOf cfP) l) w) := by
  unfold OffRow at h
  obtain ⟨a, c, rfl⟩ := own_shape h
  have HINS : Hid (Calls Tryz.prog 138 #[.slice a l.length c, .int .i64 0, .int .i64 l.length, .func (.func 104) #[] #[]] w (SortPost base (.slice a l.length c) (insL (ltOf cfP) l) w)) := by
    show Calls _ _ _ _ _
    by_cases h0 : l.length = 0
    · have hx : l = [] := List.eq_nil_of_length_eq_zero h0
      subst hx
      have e1 : insL (ltOf cfP) ([] : List Off) = [] := by unfold insL insertionSort insOuter; simp
      rw [e1]
      refine (insO_nil c a _ w).mono ?_
      rintro e w' ⟨rfl, rfl⟩
      exact ⟨rfl, h, Below.refl _ _⟩
    · obtain ⟨g, rfl, hg1, hg2⟩ := own_pos h (by omega)
      have hcon := Tryz.slices_insO Off.cells (fun _ => rfl) off_one cfP 104 #[] g 0 c 0 l.length l.toArray w (enters_of Tryz.func104 (by kernel_rfl) rfl) (cmpP_lays g _ w) (holdsK_own Off.cells (fun _ => rfl) (by omega) h) hg2 (Nat.zero_le _) (by simp) (by simp; omega)
      refine Calls.mono hcon ?_
      rintro e w' ⟨rfl, q, os, rfl⟩
      rw [insL_arr]
      refine ⟨rfl, ?_, below_sortK Off.cells 2 os (Below.refl base w) hg1 (by omega)⟩
      unfold OffRow
      rw [insL_len]
      exact own_putK Off.cells (fun _ => rfl) (by omega) h (insL_len _ _) q os
  have hl12 := hl
  clear h
  have HPR : Hid (∀ e W2, SortPost base (.slice a l.length c) (insL (ltOf cfP) l) w e W2 → e = .returned (.tuple #[]) ∧ Hid (SortPost base (.slice a l.length c) (insL (ltOf cfP) l) w (.returned (.tuple #[])) W2)) := fun e W2 h => ⟨h.1, by obtain ⟨rfl, h2⟩ := h; exact ⟨rfl, h2⟩⟩
  generalize hPP : SortPost base (.slice a l.length c) (insL (ltOf cfP) l) w = PP at HINS HPR ⊢
  clear hPP
  generalize l.length = n at HINS hl12 ⊢
  clear hl
  have HSTB : Hid (Calls Tryz.prog 136 #[.slice a n c, .int .i64 n, .func (.func 104) #[] #[]] w fun e w' => e = .returned (.tuple #[]) ∧ PP (.returned (.tuple #[])) w') := by
    show Calls _ _ _ _ _
    have q1 : ¬ ((20 : Int) ≤ (n : Int)) := by omega
    have q2 : ¬ ((20 : Int) < (n : Int)) := by omega
    go_enter Tryz.func136, Tryz.ntmps136
    go_wp2_with fail
    go_loopw [7, 8] (fun a b wr => a = .int .i64 0 ∧ b = .int .i64 20 ∧ wr = w) (fun _ _ _ => 0)
    case atStart => exact ⟨rfl, rfl, rfl⟩
    case round =>
      obtain ⟨rfl, rfl, rfl⟩ := hrel
      go_wp2_with fail
      refine HINS.out.mono ?_
      rintro e W2 hp
      obtain ⟨rfl, HPW⟩ : e = .returned (.tuple #[]) ∧ Hid (PP (.returned (.tuple #[])) W2) := HPR.out e W2 hp
      go_wp2_with fail
      go_loopw [6] (fun a wr => a = .int .i64 20 ∧ wr = W2) (fun _ _ => 0)
      case atStart => exact ⟨rfl, rfl⟩
      case round =>
        obtain ⟨rfl, rfl⟩ := hrel
        go_wp2_with fail
        go_end0
        exact ⟨rfl, HPW.out⟩
  clear HINS
  go_enter Tryz.func103, Tryz.ntmps103
  go_wp2_with fail
  refine HSTB.out.mono ?_
  rintro e w' ⟨rfl, hp⟩
  have HP := Lib.hid hp
  clear hp
  go_wp2_with fail
  go_end0
  exact HP.out
end Go.Proofs.YtppinnjdaoaddaaGreatDoor

set_option linter.unusedVariables false
set_option linter.unusedSimpArgs false
namespace Go.Proofs.YtppinnjdaoaddaaGreatDoor
open Go.RowKit Go.Sort Go.Lib

/-- Offers of the first carriers. -/
def offTo (l : List Carr) (s : List UInt8) (t : Int) : Nat → List Off
  | 0 => []
  | k + 1 => offTo l s t k ++ (if (costV (l.getD k noCarr).decks s t 60000).2 = true then [⟨(l.getD k noCarr).key, (costV (l.getD k noCarr).decks s t 60000).1⟩] else [])
theorem offTo_len (l : List Carr) (s : List UInt8) (t : Int) : ∀ k, (offTo l s t k).length ≤ k
  | 0 => Nat.le_refl _
  | k + 1 => by
    have := offTo_len l s t k
    unfold offTo
    split <;> simp <;> omega
theorem ocells_snoc (l : List Off) (r : Off) : ((l ++ [r]).map Off.cells).flatten = (l.map Off.cells).flatten ++ Off.cells r := by simp
theorem Tryz.infoOff : (Tryz.prog.info? 80).map (fun i => (i.zero, i.size, i.bytes)) = some (some (.agg #[.string ⟨#[]⟩, .int .i64 0]), 2, 24) := by kernel_rfl
theorem off_snoc {w : World} {base : Nat} {v : Value} {l : List Off} {r : Off} (h : w.ownsRow base 80 2 v (l.length + 1) ((l.map Off.cells).flatten ++ Off.cells r)) : OffRow w base v (l ++ [r]) := by
  unfold OffRow
  rw [ocells_snoc, List.length_append]
  exact h
def OfsPost (x : List Off) (w : World) (e : Ending) (w' : World) : Prop := ∃ v, e = .returned v ∧ OffRow w' w.heap.size v x ∧ Below w.heap.size w w'
/-- Where a carrier's deck holds it is right. -/
def GoodAt (l : List Carr) (t : Int) : Prop := ∀ k, k < l.length → ∀ d, deckV (l.getD k noCarr).decks t = some d → DeckGood d.setup d.least d.step d.rates
theorem bl_ofs0 (e : Operand → Value) (he : ∀ v, e (.const v) = v) (o : Oper) (w : World) (i0 : Nat) (p0_0 : ByteArray) (z0_1 : Int) (ho : o.op = .buildSlice 74 1 #[(0, .tmp i0)]) (h0 : e (.tmp i0) = .agg #[.string p0_0, .int .i64 z0_1]) :
   (execOp e o).run Tryz.prog w = .ok (.value (.slice (some ⟨w.heap.size, 0, none⟩) 1 1)) (w.alloc (.cells #[.string p0_0, .int .i64 z0_1] 80)) := by
  unfold execOp
  rw [ho]
  simp only [List.map_toArray, List.map_cons, List.map_nil, h0]
  kernel_rfl
set_option maxRecDepth 100000 in
set_option maxHeartbeats 8000000 in
theorem offersI_any (w : World) (a : Option Addr) (n cap : Nat) (l : List Carr) (hl : CarrRow w a n l) (hn3 : n ≤ 3) (nm : List UInt8) (h1 : 1 ≤ nm.length) (h16 : nm.length ≤ 16) (t : Int) (hg : GoodAt l t) : Calls Tryz.prog 76 #[.slice a n cap, .string ⟨nm.toArray⟩, .int .i64 t] w (OfsPost (insL (ltOf cfP) (offTo l (nm.drop 1) t n)) w) := by
  obtain ⟨i1, hi1, hy0, hy1, hy2⟩ := info_parts Tryz.infoOff
  have HR := Lib.hid hl
  have HG := Lib.hid hg
  have HLEN := Lib.hid hl.len
  have hnd : (nm.drop 1).length ≤ 1000 := by rw [List.length_drop]; omega
  have HEX : Hid ((⟨nm.toArray⟩ : ByteArray).extract 1 nm.length = ⟨(nm.drop 1).toArray⟩) := extract_drop nm 1
  clear hl hg
  go_enter Tryz.func76, Tryz.ntmps76
  go_wp2_with fail
  go_loopw [7, 14] (fun vo it wr => ∃ k : Nat, k ≤ n ∧ it = .int .i64 k ∧ Hid (OffRow wr w.heap.size vo (offTo l (nm.drop 1) t k)) ∧ Hid (Below w.heap.size w wr)) (fun _ it _ => n - (intOf it).toNat)
  case atStart => exact ⟨0, Nat.zero_le _, rfl, World.ownsRow_nil _ _ _ _, Below.refl _ _⟩
  case round =>
    obtain ⟨k, hk, rfl, HO, HB⟩ := hrel
    by_cases hlt : k < n
    case neg =>
      obtain rfl : k = n := by omega
      have hge : ¬ (k : Int) < (k : Int) := by omega
      have hol := offTo_len l (nm.drop 1) t k
      obtain ⟨vo, rfl⟩ : ∃ x : Value, x = u7 := ⟨_, rfl⟩
      as_aux_lemma =>
        go_wp2_with fail
        refine (stableO_any _ w.heap.size vo _ HO.out (by omega)).mono ?_
        rintro e w5 ⟨rfl, ho, hb⟩
        have HO5 := Lib.hid ho
        have HB5 := Lib.hid (HB.out.trans hb)
        clear ho hb
        go_wp2_with fail
        go_ret
        exact ⟨_, rfl, HO5.out, HB5.out⟩
    have hlti : (k : Int) < (n : Int) := by omega
    obtain ⟨b, off, rfl, hb, hc⟩ := (HR.out.below HB.out).at (by omega)
    obtain ⟨c0, c1, c2⟩ := hc k hlt
    have HCF : Hid (CarrFine wr (l.getD k noCarr)) := (HR.out.below HB.out).each k (by rw [← HLEN.out]; exact hlt)
    have HGK : Hid (∀ d, deckV (l.getD k noCarr).decks t = some d → DeckGood d.setup d.least d.step d.rates) := HG.out k (by rw [← HLEN.out]; exact hlt)
    have HE : Hid (offTo l (nm.drop 1) t (k + 1) = offTo l (nm.drop 1) t k ++ (if (costV (l.getD k noCarr).decks (nm.drop 1) t 60000).2 = true then [⟨(l.getD k noCarr).key, (costV (l.getD k noCarr).decks (nm.drop 1) t 60000).1⟩] else [])) := rfl
    have hol := offTo_len l (nm.drop 1) t k
    clear hc
    generalize l.getD k noCarr = cx at c0 c1 c2 HCF HE HGK
    obtain ⟨ky, ln, da, dn, dc, dk⟩ := cx
    simp only at c0 c1 c2 HE HGK
    generalize hos : offTo l (nm.drop 1) t k = os at HO HE hol
    clear hos
    have HCB : Hid (∀ W, Below wr.heap.size wr W → Calls Tryz.prog 84 #[.agg #[.string ⟨ky.toArray⟩, .int .i64 ln, .slice da dn dc], .string ((⟨nm.toArray⟩ : ByteArray).extract 1 nm.length), .int .i64 t, .int .i64 60000] W (PriceOfPost (costV dk (nm.drop 1) t 60000) W)) := fun W hW => by
      rw [HEX.out]
      exact costBy_any W ky ln da dn dc dk (HCF.out.below hW).row HCF.out.cap (nm.drop 1) hnd t 60000 HGK.out ⟨by omega, by omega⟩
    generalize costV dk (nm.drop 1) t 60000 = V at HE HCB
    obtain ⟨p, bb⟩ := V
    clear HCF HGK
    as_aux_lemma =>
      go_upto_region 5 with (fail)
      have HX : Hid (Blk (wr.alloc (.cells #[.string ⟨ky.toArray⟩, .int .i64 ln, .slice da dn dc] 72)) wr.heap.size [.string ⟨ky.toArray⟩, .int .i64 ln, .slice da dn dc] 72) := Blk.new wr [.string ⟨ky.toArray⟩, .int .i64 ln, .slice da dn dc] 72
      have hA : Below wr.heap.size wr (wr.alloc (.cells #[.string ⟨ky.toArray⟩, .int .i64 ln, .slice da dn dc] 72)) := ext_alloc (Below.refl _ _)
      have HBA := Lib.hid (ext_trans HB.out hA)
      have HCA : Hid (∀ W, Below ((wr.alloc (.cells #[.string ⟨ky.toArray⟩, .int .i64 ln, .slice da dn dc] 72))).heap.size (wr.alloc (.cells #[.string ⟨ky.toArray⟩, .int .i64 ln, .slice da dn dc] 72)) W → Below wr.heap.size wr W) := fun W h => ext_trans hA h
      have HOA : Hid (OffRow (wr.alloc (.cells #[.string ⟨ky.toArray⟩, .int .i64 ln, .slice da dn dc] 72)) w.heap.size u7 os) := World.ownsRow.alloc HO.out _
      have hX : wr.heap.size < ((wr.alloc (.cells #[.string ⟨ky.toArray⟩, .int .i64 ln, .slice da dn dc] 72))).heap.size := by simp
      clear hA HB HO
      generalize (wr.alloc (.cells #[.string ⟨ky.toArray⟩, .int .i64 ln, .slice da dn dc] 72)) = wa at HX HBA HCA HOA hX ⊢
      have x0 := HX.out.cell 0 rfl
      have x1 := HX.out.cell 1 rfl
      have x2 := HX.out.cell 2 rfl
      obtain ⟨vo, rfl⟩ : ∃ x : Value, x = u7 := ⟨_, rfl⟩
      go_region_with (go_at_call 84; refine (HCB.out _ (HCA.out _ (ext_drew (Below.refl _ _)))).mono ?_; rintro e w3 ⟨rfl, hb3⟩)
      all_goals
        have hb4 : Below wa.heap.size wa w3 := ext_trans (ext_drew (Below.refl _ _)) hb3
        have HB3 := Lib.hid (ext_trans HBA.out hb4)
        have HX3 := Lib.hid (HX.out.below hb4)
        have HO3 : Hid (OffRow w3 w.heap.size vo os) := own_keep HOA.out hb4
        have x0 := HX3.out.cell 0 rfl
        have x1 := HX3.out.cell 1 rfl
        have x2 := HX3.out.cell 2 rfl
        clear hb4 hb3 HBA HX HOA HCB HCA
        cases bb
        · have HE2 : Hid (offTo l (nm.drop 1) t (k + 1) = os) := by show _ = _; rw [HE.out, if_neg (by simp), List.append_nil]
          clear HE
          as_aux_lemma =>
            go_wp2_with fail
            go_roundw
            case rel => exact ⟨k + 1, by omega, by go_num, by rw [HE2.out]; exact HO3.out, HB3.out⟩
            case measure => simp [intOf]; omega
        · have HE2 : Hid (offTo l (nm.drop 1) t (k + 1) = os ++ [⟨ky, p⟩]) := by show _ = _; rw [HE.out, if_pos rfl]
          clear HE
          have hW9 : w.heap.size ≤ w3.heap.size := HB3.out.size
          obtain ⟨oa, oc, rfl⟩ := own_shape HO3.out
          have hvw : ∀ b, (Value.slice oa os.length oc).ownBlock = some b → w.heap.size ≤ b := fun b e => (HO3.out.lt b e).1
          have HOA : Hid (World.ownsRow (w3.alloc (.cells #[.string ⟨ky.toArray⟩, .int .i64 p] 80)) w.heap.size 80 2 (.slice oa os.length oc) os.length ((os.map Off.cells).flatten)) := World.ownsRow.alloc HO3.out (.cells #[.string ⟨ky.toArray⟩, .int .i64 p] 80)
          have HNA : Hid (Blk (w3.alloc (.cells #[.string ⟨ky.toArray⟩, .int .i64 p] 80)) w3.heap.size [.string ⟨ky.toArray⟩, .int .i64 p] 80) := Blk.new w3 [.string ⟨ky.toArray⟩, .int .i64 p] 80
          clear HO3
          as_aux_lemma =>
            go_wp2_with (first | (refine wpList_val rfl (bl_ofs0 _ (fun _ => rfl) _ _ 31 ⟨ky.toArray⟩ p rfl rfl) ?_) | (at_builtin; go_loud (refine wpList_append_own_at _ rfl (.tmp 27) (.tmp 32) 74 rfl w.heap.size 80 i1 _ 2 24 Tryz.underlying74 hi1 hy0 hy1 hy2 rfl (by omega) (.slice oa os.length oc) os.length _ rfl HOA.out ⟨w3.heap.size, 0, none⟩ 1 1 [.string ⟨ky.toArray⟩, .int .i64 p] rfl rfl (fun j u hj => by rw [add0]; exact HNA.out.cell j hj) (by simp [Value.oneCell']) (by simp only [maxLen]; omega) (by omega) (by simp; omega) ?_); intro v12 w12 hown12 hgr12 _ hat12; have HQ1 := Lib.hid hown12; have HQ2 := Lib.hid hgr12; clear hown12 hgr12 hat12 HOA HNA; refine Hid.out ?_))
            refine Lib.hid ?_
            have HO12 : Hid (OffRow w12 w.heap.size v12 (os ++ [⟨ky, p⟩])) := off_snoc HQ1.out
            have HB12 : Hid (Below w.heap.size w w12) := HB3.out.trans (upto_grown HQ2.out hW9 hvw)
            clear HQ1 HQ2
            as_aux_lemma =>
              go_wp2_with fail
              go_roundw
              case rel => exact ⟨k + 1, by omega, by go_num, by rw [HE2.out]; exact HO12.out, HB12.out⟩
              case measure => simp [intOf]; omega
end Go.Proofs.YtppinnjdaoaddaaGreatDoor

set_option linter.unusedVariables false
set_option linter.unusedSimpArgs false
namespace Go.Proofs.YtppinnjdaoaddaaGreatDoor
open Go.RowKit

theorem rate_flat {w : World} {a : Option Addr} {n : Nat} {l : List Rate} (h : RateRow w a n l) (ad : Addr) (ha : a = some ad) : ∀ (j : Nat) (u : Value), ((l.map Rate.cells).flatten)[j]? = some u → w.cell? (ad.add j) = some u := fun j u hu => by
  have hlen := h.len
  have hfl : ((l.map Rate.cells).flatten).length = l.length * 3 := by
    have := flat_len2 (sz := 3) (cs := l.map Rate.cells) (fun c hc => by obtain ⟨y, _, rfl⟩ := List.mem_map.1 hc; rfl)
    simpa using this
  have hj : j < l.length * 3 := by
    obtain ⟨h1, -⟩ := List.getElem?_eq_some_iff.1 hu
    omega
  rcases h.cells.row with h0 | ⟨b, off, hb, hbl, hc⟩
  · omega
  · rw [ha] at hb
    injection hb with hb
    subst hb
    have h1 := hc (j / 3) (by omega) (j % 3) (by omega)
    have h2 := flat_at (sz := 3) (cs := l.map Rate.cells) (fun c hc => by obtain ⟨y, _, rfl⟩ := List.mem_map.1 hc; rfl) (j / 3) (by simp; omega) (j % 3) (by omega)
    rw [show j / 3 * 3 + j % 3 = j by omega] at h2
    rw [← h2, hu] at h1
    rw [show (⟨b, off, none⟩ : Addr).add j = ⟨b, off + j / 3 * 3 + j % 3, none⟩ by rw [show off + j / 3 * 3 + j % 3 = off + j by omega]; simp [Addr.add]]
    exact h1
theorem own_rate0 (w : World) (base : Nat) (hb : base ≤ w.heap.size) : (w.alloc (.cells #[] 120)).ownsRow base 120 3 (.slice (some ⟨w.heap.size, 0, none⟩) 0 0) 0 [] := World.ownsRow_lit w #[] 0 hb (by simp only [maxLen]; omega) rfl
def CloneRPost (n : Nat) (l : List Rate) (w : World) (e : Ending) (w' : World) : Prop := ∃ v', e = .returned v' ∧ w'.ownsRow w.heap.size 120 3 v' n ((l.map Rate.cells).flatten) ∧ Below w.heap.size w w'
set_option maxRecDepth 100000 in
set_option maxHeartbeats 2000000 in
theorem cloneR_any (w : World) (a : Option Addr) (n c : Nat) (l : List Rate) (h : RateRow w a n l) : Calls Tryz.prog 71 #[.slice a n c] w (CloneRPost n l w) := by
  obtain ⟨i0, hi, hz0, hz1, hz2⟩ := info_parts Tryz.infoRate
  have hl := h.len
  have hfew := h.few
  have q24 : ∀ (w : World) (a : Option Addr) (n c n' c' : Nat), (binOp .eql 61 (.slice a n c) (.slice none n' c')).run Tryz.prog w = .ok (.bool a.isNone) w := fun w a n c n' c' => Lib.run_eql_slice_nil w _ _ a n c n' c' Tryz.underlying61
  cases a with
  | none =>
    have h0 : n = 0 := by
      rcases h.cells.row with h0 | ⟨b, off, hb, -⟩
      · exact h0
      · cases hb
    have hx : l = [] := List.eq_nil_of_length_eq_zero (by omega)
    subst hx
    subst h0
    clear h hl
    go_enter Tryz.func71, Tryz.ntmps71
    go_wp2_with fail
    go_ret
    exact ⟨_, rfl, World.ownsRow_nil _ _ _ _, (by (try show Below _ _ _); repeat (with_reducible first | exact Below.refl _ _ | assumption | exact Hid.out (by assumption) | refine ext_alloc ?_ | refine ext_drewN ?_ | refine ext_drew ?_ | refine ext_setCell ?_ (Nat.le_refl _) | refine ext_setCell ?_ (Nat.le_succ _) | refine ext_trans ?_ (by assumption) | (refine ext_setCell ?_ (by simp)) | (refine ext_setCell ?_ (by simp at *; omega))))⟩
  | some ad =>
    have HLN : Hid (((l.map Rate.cells).flatten).length = n * 3) := by
      show _ = _
      have := flat_len2 (sz := 3) (cs := l.map Rate.cells) (fun c hc => by obtain ⟨y, _, rfl⟩ := List.mem_map.1 hc; rfl)
      rw [this, List.length_map, hl]
    have HCE : Hid (∀ (j : Nat) u, ((l.map Rate.cells).flatten)[j]? = some u → (w.alloc (.cells #[] 120)).cell? (ad.add j) = some u) := fun j u hu => by
      exact rate_flat (h.below (ext_alloc (Below.refl _ _))) ad rfl j u hu
    have HON : Hid (∀ u ∈ (l.map Rate.cells).flatten, u.oneCell' = true) := fun u hu => by
      obtain ⟨cs, h1, h2⟩ := List.mem_flatten.1 hu
      obtain ⟨y, -, rfl⟩ := List.mem_map.1 h1
      simp only [Rate.cells, List.mem_cons, List.not_mem_nil, or_false] at h2
      rcases h2 with rfl | rfl | rfl <;> rfl
    have HOA := Lib.hid (own_rate0 w w.heap.size (Nat.le_refl _))
    have HOK : Hid (∀ (v' : Value) (W : World), W.ownsRow w.heap.size 120 3 v' n ((l.map Rate.cells).flatten) → Below w.heap.size w W → CloneRPost n l w (.returned v') W) := fun v' W h1 h2 => ⟨v', rfl, h1, h2⟩
    generalize hPP : CloneRPost n l w = PP at HOK ⊢
    generalize (l.map Rate.cells).flatten = fl at HLN HCE HON HOK
    clear h hl hPP
    go_enter Tryz.func71, Tryz.ntmps71
    go_wp2_with (at_builtin; refine wpList_append_own_at _ rfl (.tmp 5) (.tmp 6) 61 rfl w.heap.size 120 i0 _ 3 32 Tryz.underlying61 hi hz0 hz1 hz2 rfl (by omega) _ 0 _ rfl HOA.out ad n c fl rfl HLN.out HCE.out HON.out (by simp only [maxLen]; omega) (by omega) (by simp) ?_; intro v6 w6 hown6 hgr6 _ _)
    have HO6 : Hid (w6.ownsRow w.heap.size 120 3 v6 n fl) := by
      show World.ownsRow _ _ _ _ _ _ _
      rw [Nat.zero_add, List.nil_append] at hown6
      exact hown6
    have HB6 : Hid (Below w.heap.size w w6) := upto_grown hgr6 (Nat.le_refl _) (fun b e => (HOA.out.lt b e).1)
    clear hown6 hgr6
    exact HOK.out _ _ HO6.out HB6.out
end Go.Proofs.YtppinnjdaoaddaaGreatDoor

set_option linter.unusedVariables false
set_option linter.unusedSimpArgs false
namespace Go.Proofs.YtppinnjdaoaddaaGreatDoor
open Go.RowKit

theorem results_cell12 {fn : Func} {t u v : Tmp} {T : TypeId} (h : fn.results = #[.cell t T, .tmp u, .tmp v]) (P : Program) (w : World) (tmps : Array Value) {B k : Nat} (hA : ∀ w, (isAgg T).run P w = .ok true w) (hZ : ∀ w, (Go.sizeOf T).run P w = .ok k w) (ht : tmps.getD t undef = .pointer (some ⟨B, 0, none⟩)) (cs : List Value) (hk : cs.length = k) (hc : ∀ j v, cs[j]? = some v → w.cell? ⟨B, j, none⟩ = some v) :
    (results fn tmps).run P w = .ok (.tuple #[.agg cs.toArray, tmps.getD u undef, tmps.getD v undef]) w := by
  have h9 := load_struct (P := P) cs hk hc
  have ht' : tmps[t]?.getD undef = .pointer (some ⟨B, 0, none⟩) := by simpa using ht
  simp [results, h, ht', h9, hA, hZ, asAddr, go_sem]
theorem idxFrom_lt {α : Type} (eq : α → α → Bool) (x : α) : ∀ (zs : List α) (i : Nat), Lib.idxByFrom eq x zs i = -1 ∨ ∃ k : Nat, Lib.idxByFrom eq x zs i = ((i + k : Nat) : Int) ∧ k < zs.length
  | [], _ => Or.inl rfl
  | z :: zs, i => by
    unfold Lib.idxByFrom
    by_cases h : eq x z = true
    · rw [if_pos h]; exact Or.inr ⟨0, rfl, by simp⟩
    · rw [if_neg h]
      rcases idxFrom_lt eq x zs (i + 1) with h1 | ⟨k, h1, h2⟩
      · exact Or.inl h1
      · exact Or.inr ⟨k + 1, by rw [h1]; congr 1; omega, by simp; omega⟩
theorem idxC_lt {l : List Carr} {key : List UInt8} (h : 0 ≤ idxC l key) : (idxC l key).toNat < l.length := by
  unfold idxC Lib.idxBy at h ⊢
  rcases idxFrom_lt (fun _ (y : Carr) => decide (y.key = key)) default l 0 with h1 | ⟨k, h1, h2⟩
  · rw [h1] at h; omega
  · rw [h1]; omega
/-- The error of DeckAt; the deck. -/
def dkE (l : List Carr) (key : List UInt8) (t : Int) : Int := if carrsErr l ≠ 0 then carrsErr l else if idxC l key < 0 then 8 else if isMomB t = false then 1 else 0
def dkX (l : List Carr) (key : List UInt8) (t : Int) : Option Deck := if dkE l key t = 0 then deckV (l.getD (idxC l key).toNat noCarr).decks t else none
def DkAtPost (E : Int) (o : Option Deck) (w : World) (e : Ending) (w' : World) : Prop :=
  ∃ a c, e = .returned (.tuple #[.agg #[.int .i64 (o.getD noDeck).from_, .int .i64 (o.getD noDeck).setup, .int .i64 (o.getD noDeck).least, .int .i64 (o.getD noDeck).step, .slice a (o.getD noDeck).rn c], .bool o.isSome, .int .i64 E]) ∧ RateRow w' a (o.getD noDeck).rn (o.getD noDeck).rates ∧ Below w.heap.size w w'
theorem rate_row0 (w : World) : RateRow w none 0 [] := ⟨⟨rfl, Or.inl rfl⟩, by omega, fun i hi => by cases hi⟩
theorem dk_bad {E : Int} {w W : World} (h : Below w.heap.size w W) : DkAtPost E none w (.returned (.tuple #[.agg #[.int .i64 0, .int .i64 0, .int .i64 0, .int .i64 0, .slice none 0 0], .bool false, .int .i64 E])) W := ⟨none, 0, rfl, rate_row0 W, h⟩
theorem lastD_mem (ps : List Deck) (t : Int) : ∀ k, k ≤ ps.length → ∀ d, lastD ps t k = some d → d ∈ ps
  | 0, _, d, h => by cases h
  | k + 1, hk, d, h => by
    unfold lastD at h
    split at h
    · injection h with h; subst h; exact mem_getD _ (by omega)
    · exact lastD_mem ps t k (by omega) d h
theorem deckV_fine {w : World} {a : Option Addr} {m : Nat} {ps : List Deck} (h : DeckRow w a m ps) (t : Int) : RateRow w ((deckV ps t).getD noDeck).ra ((deckV ps t).getD noDeck).rn ((deckV ps t).getD noDeck).rates := by
  cases h9 : deckV ps t with
  | none => exact rate_row0 w
  | some d =>
    obtain ⟨j, hj, rfl⟩ := List.getElem_of_mem (lastD_mem ps t ps.length (Nat.le_refl _) d h9)
    have := (h.each j hj).row
    rw [List.getD_eq_getElem?_getD, List.getElem?_eq_getElem hj] at this
    exact this
set_option maxRecDepth 100000 in
set_option maxHeartbeats 8000000 in
theorem deckAtX_any (w : World) (a : Option Addr) (n cap : Nat) (l : List Carr) (hl : CarrRow w a n l) (hcap : n ≤ cap) (key : List UInt8) (hkl : key.length ≤ 100) (t : Int) : Calls Tryz.prog 29 #[.slice a n cap, .string ⟨key.toArray⟩, .int .i64 t] w (DkAtPost (dkE l key t) (dkX l key t) w) := by
  have HR := Lib.hid hl
  have HLEN := Lib.hid hl.len
  have hfew := hl.few
  clear hl
  have HE : Hid (dkE l key t = if carrsErr l ≠ 0 then carrsErr l else if idxC l key < 0 then 8 else if isMomB t = false then 1 else 0) := rfl
  have HBAD : Hid (∀ W E, dkE l key t = E → E ≠ 0 → Below w.heap.size w W → DkAtPost (dkE l key t) (dkX l key t) w (.returned (.tuple #[.agg #[.int .i64 0, .int .i64 0, .int .i64 0, .int .i64 0, .slice none 0 0], .bool false, .int .i64 E])) W) := fun W E h1 h2 h3 => by
    unfold dkX
    rw [h1, if_neg h2]
    exact dk_bad h3
  have HGOOD : Hid (dkE l key t = 0 → dkX l key t = deckV (l.getD (idxC l key).toNat noCarr).decks t) := fun h => by unfold dkX; rw [if_pos h]
  have HOK : Hid (∀ W d a' c', dkE l key t = 0 → (dkX l key t).getD noDeck = d → RateRow W a' d.rn d.rates → Below w.heap.size w W → DkAtPost (dkE l key t) (dkX l key t) w (.returned (.tuple #[.agg #[.int .i64 d.from_, .int .i64 d.setup, .int .i64 d.least, .int .i64 d.step, .slice a' d.rn c'], .bool (dkX l key t).isSome, .int .i64 0])) W) := fun W d a' c' h1 h2 h3 h4 => by
    subst h2
    exact ⟨a', c', by rw [h1], h3, h4⟩
  generalize hPP : DkAtPost (dkE l key t) (dkX l key t) w = PP at HBAD HOK ⊢
  clear hPP
  generalize dkE l key t = X at HE HBAD HGOOD HOK
  generalize dkX l key t = o at HGOOD HOK
  have HCC := Lib.hid (fun W (h : Below w.heap.size w W) => checkCarr_any W a n cap l (HR.out.below h) hcap)
  have HFD := Lib.hid (fun W (h : Below w.heap.size w W) => find_any W a n cap l (HR.out.below h) key)
  have HID : Hid (0 ≤ idxC l key → (idxC l key).toNat < l.length) := fun h => idxC_lt h
  generalize carrsErr l = F at HE HCC
  generalize idxC l key = K at HE HFD HGOOD HID
  go_enter Tryz.func29, Tryz.ntmps29
  go_upto_region 1 with (fail)
  have HG0 : Hid (Blk (w.alloc (.cells #[.int .i64 0, .int .i64 0, .int .i64 0, .int .i64 0, .slice none 0 0] 63)) w.heap.size [.int .i64 0, .int .i64 0, .int .i64 0, .int .i64 0, .slice none 0 0] 63) := Blk.new w [.int .i64 0, .int .i64 0, .int .i64 0, .int .i64 0, .slice none 0 0] 63
  have HB0 : Hid (Below w.heap.size w (w.alloc (.cells #[.int .i64 0, .int .i64 0, .int .i64 0, .int .i64 0, .slice none 0 0] 63))) := ext_alloc (Below.refl _ _)
  generalize (w.alloc (.cells #[.int .i64 0, .int .i64 0, .int .i64 0, .int .i64 0, .slice none 0 0] 63)) = w0 at HG0 HB0 ⊢
  as_aux_lemma =>
    go_wp2_with fail
    refine (HCC.out _ HB0.out).mono ?_
    rintro e w1 ⟨rfl, hb⟩
    have HB1 := Lib.hid (ext_trans HB0.out hb)
    have HG1 := Lib.hid (HG0.out.below hb)
    clear hb HB0 HG0 HCC
    by_cases hF : F = 0
    case neg =>
      have hX : X = F := by rw [HE.out, if_pos hF]
      subst hX
      have hXX : X = X := rfl
      clear HE HGOOD HOK HFD HID
      have HFX := Lib.hid (HBAD.out _ X rfl hF (below5 (Nat.le_refl _) HB1.out [.int .i64 0, .int .i64 0, .int .i64 0, .int .i64 0, .slice none 0 0]))
      have HR9 : Hid (Blk (w1.setCells w.heap.size 0 [.int .i64 0, .int .i64 0, .int .i64 0, .int .i64 0, .slice none 0 0]) w.heap.size [.int .i64 0, .int .i64 0, .int .i64 0, .int .i64 0, .slice none 0 0] 63) := (((((HG1.out.put 0 _).put 1 _).put 2 _).put 3 _).put 4 _)
      have HTH : Hid (w1.there w.heap.size 0 5) := HG1.out.th 5 (by simp)
      have hFb : (X == 0) = false := by simpa using hF
      clear HG1 HB1 HBAD hXX hF
      as_aux_lemma =>
        go_wp2_with (refine wpList_store_mid rfl 63 (.tmp 6) (.tmp 17) rfl w.heap.size 0 #[.int .i64 0, .int .i64 0, .int .i64 0, .int .i64 0, .slice none 0 0] rfl rfl HTH.out Tryz.deckSz (by simp [Value.oneCell']) ?_; generalize World.setCells w1 w.heap.size 0 _ = W9 at HFX HR9 ⊢)
        refine bodyPost_ret (v := .tuple #[.agg #[.int .i64 0, .int .i64 0, .int .i64 0, .int .i64 0, .slice none 0 0], .bool false, .int .i64 X]) ?_ rfl HFX.out
        exact results_cell12 (t := 6) (u := 7) (v := 8) (by rfl) _ _ _ Tryz.isAgg63 Tryz.sizeOf63 (by rfl) [.int .i64 0, .int .i64 0, .int .i64 0, .int .i64 0, .slice none 0 0] rfl (fun j v hj => HR9.out.cell j hj)
    subst hF
    have HE1 : Hid (X = if K < 0 then 8 else if isMomB t = false then 1 else 0) := by show X = _; rw [HE.out, if_neg (by simp)]
    clear HE
    as_aux_lemma =>
      go_wp2_with fail
      refine (HFD.out _ HB1.out).mono ?_
      rintro e w2 ⟨rfl, hb⟩
      have HB2 := Lib.hid (ext_trans HB1.out hb)
      have HG2 := Lib.hid (HG1.out.below hb)
      clear hb HB1 HG1 HFD
      by_cases hK : K < 0
      · obtain rfl : X = 8 := by rw [HE1.out, if_pos hK]
        clear HE1 HGOOD HOK HID
        have HFX := Lib.hid (HBAD.out _ 8 rfl (by decide) (below5 (Nat.le_refl _) HB2.out [.int .i64 0, .int .i64 0, .int .i64 0, .int .i64 0, .slice none 0 0]))
        have HR9 : Hid (Blk (w2.setCells w.heap.size 0 [.int .i64 0, .int .i64 0, .int .i64 0, .int .i64 0, .slice none 0 0]) w.heap.size [.int .i64 0, .int .i64 0, .int .i64 0, .int .i64 0, .slice none 0 0] 63) := (((((HG2.out.put 0 _).put 1 _).put 2 _).put 3 _).put 4 _)
        have HTH : Hid (w2.there w.heap.size 0 5) := HG2.out.th 5 (by simp)
        clear HG2 HB2 HBAD
        as_aux_lemma =>
          go_wp2_with (refine wpList_store_mid rfl 63 (.tmp 6) (.tmp 24) rfl w.heap.size 0 #[.int .i64 0, .int .i64 0, .int .i64 0, .int .i64 0, .slice none 0 0] rfl rfl HTH.out Tryz.deckSz (by simp [Value.oneCell']) ?_; generalize World.setCells w2 w.heap.size 0 _ = W9 at HFX HR9 ⊢)
          refine bodyPost_ret (v := .tuple #[.agg #[.int .i64 0, .int .i64 0, .int .i64 0, .int .i64 0, .slice none 0 0], .bool false, .int .i64 8]) ?_ rfl HFX.out
          exact results_cell12 (t := 6) (u := 7) (v := 8) (by rfl) _ _ _ Tryz.isAgg63 Tryz.sizeOf63 (by rfl) [.int .i64 0, .int .i64 0, .int .i64 0, .int .i64 0, .slice none 0 0] rfl (fun j v hj => HR9.out.cell j hj)
      have HE2 : Hid (X = if isMomB t = false then 1 else 0) := by show X = _; rw [HE1.out, if_neg hK]
      obtain ⟨kk, rfl⟩ := Int.eq_ofNat_of_zero_le (show 0 ≤ K by omega)
      have hkn : kk < n := by have h1 := HID.out (by omega); have h2 := HLEN.out; omega
      have hkb : ¬ ((kk : Int) < 0) := by omega
      clear HE1 HID hK
      as_aux_lemma =>
        go_wp2_with fail
        refine (isMoment_any t _).mono ?_
        rintro e w9 ⟨rfl, rfl⟩
        generalize isMomB t = g2 at HE2 ⊢
        cases g2
        · obtain rfl : X = 1 := by rw [HE2.out, if_pos rfl]
          clear HE2 HGOOD HOK
          skip
          have HFX := Lib.hid (HBAD.out _ 1 rfl (by decide) (below5 (Nat.le_refl _) HB2.out [.int .i64 0, .int .i64 0, .int .i64 0, .int .i64 0, .slice none 0 0]))
          have HR9 : Hid (Blk (w2.setCells w.heap.size 0 [.int .i64 0, .int .i64 0, .int .i64 0, .int .i64 0, .slice none 0 0]) w.heap.size [.int .i64 0, .int .i64 0, .int .i64 0, .int .i64 0, .slice none 0 0] 63) := (((((HG2.out.put 0 _).put 1 _).put 2 _).put 3 _).put 4 _)
          have HTH : Hid (w2.there w.heap.size 0 5) := HG2.out.th 5 (by simp)
          clear HG2 HB2 HBAD
          as_aux_lemma =>
            go_wp2_with (refine wpList_store_mid rfl 63 (.tmp 6) (.tmp 28) rfl w.heap.size 0 #[.int .i64 0, .int .i64 0, .int .i64 0, .int .i64 0, .slice none 0 0] rfl rfl HTH.out Tryz.deckSz (by simp [Value.oneCell']) ?_; generalize World.setCells w2 w.heap.size 0 _ = W9 at HFX HR9 ⊢)
            refine bodyPost_ret (v := .tuple #[.agg #[.int .i64 0, .int .i64 0, .int .i64 0, .int .i64 0, .slice none 0 0], .bool false, .int .i64 1]) ?_ rfl HFX.out
            exact results_cell12 (t := 6) (u := 7) (v := 8) (by rfl) _ _ _ Tryz.isAgg63 Tryz.sizeOf63 (by rfl) [.int .i64 0, .int .i64 0, .int .i64 0, .int .i64 0, .slice none 0 0] rfl (fun j v hj => HR9.out.cell j hj)
        obtain rfl : X = 0 := by rw [HE2.out, if_neg (by decide)]
        have HOX : Hid (o = deckV (l.getD kk noCarr).decks t) := HGOOD.out rfl
        have HOK2 := Lib.hid (fun W d a' c' h2 h3 h4 => HOK.out W d a' c' rfl h2 h3 h4)
        clear HE2 HGOOD HOK HBAD
        have HR2 := Lib.hid (HR.out.below HB2.out)
        obtain ⟨b, off, rfl, hb, hc⟩ := HR2.out.at (by omega)
        obtain ⟨c0, c1, c2⟩ := hc kk hkn
        have HCF : Hid (CarrFine w2 (l.getD kk noCarr)) := HR2.out.each kk (by rw [← HLEN.out]; exact hkn)
        clear hc HR2 HR
        generalize l.getD kk noCarr = cx at c0 c1 c2 HCF HOX
        obtain ⟨ky, ln, da, dn, dc, dk⟩ := cx
        simp only at c0 c1 c2 HOX
        have HDR : Hid (DeckRow w2 da dn dk) := HCF.out.row
        have hdc : dn ≤ dc := HCF.out.cap
        have hkni : (kk : Int) < (n : Int) := by omega
        clear HCF
        as_aux_lemma =>
          go_wp2_with fail
          refine (deckAt_any _ ky ln da dn dc dk HDR.out hdc t).mono ?_
          rintro e w3 ⟨rfl, hb3⟩
          rw [← HOX.out]
          have HB3 := Lib.hid (ext_trans HB2.out hb3)
          have HG3 := Lib.hid (HG2.out.below hb3)
          have HRF : Hid (RateRow w3 (o.getD noDeck).ra (o.getD noDeck).rn (o.getD noDeck).rates) := by
            show RateRow _ _ _ _
            rw [HOX.out]; exact deckV_fine (HDR.out.below hb3) t
          have hG3 : w.heap.size < w3.heap.size := HG3.out.lt
          have HOD : Hid (∀ W d a' c', o.getD noDeck = d → RateRow W a' d.rn d.rates → Below w.heap.size w W → PP (.returned (.tuple #[.agg #[.int .i64 d.from_, .int .i64 d.setup, .int .i64 d.least, .int .i64 d.step, .slice a' d.rn c'], .bool o.isSome, .int .i64 0])) W) := HOK2.out
          clear hb3 HB2 HG2 HDR HOX c0 c1 c2 HOK2
          generalize o.isSome = ob at HOD ⊢
          generalize o.getD noDeck = d at HOD HRF ⊢
          obtain ⟨df, ds, dl, dp, ra, rn, rc, rates⟩ := d
          have HOE : Hid (∀ W a' c', RateRow W a' rn rates → Below w.heap.size w W → PP (.returned (.tuple #[.agg #[.int .i64 df, .int .i64 ds, .int .i64 dl, .int .i64 dp, .slice a' rn c'], .bool ob, .int .i64 0])) W) := fun W a' c' h1 h2 => HOD.out W _ a' c' rfl h1 h2
          simp only at HRF ⊢
          have HTX : Hid ((w3.alloc (.cells #[.int .i64 0, .int .i64 0, .int .i64 0, .int .i64 0, .slice none 0 0] 63)).there w3.heap.size 0 5) := (Blk.new w3 [.int .i64 0, .int .i64 0, .int .i64 0, .int .i64 0, .slice none 0 0] 63).th 5 (by decide)
          have HX4 : Hid (Blk (World.setCells (w3.alloc (.cells #[.int .i64 0, .int .i64 0, .int .i64 0, .int .i64 0, .slice none 0 0] 63)) w3.heap.size 0 [.int .i64 df, .int .i64 ds, .int .i64 dl, .int .i64 dp, .slice ra rn rc]) w3.heap.size [.int .i64 df, .int .i64 ds, .int .i64 dl, .int .i64 dp, .slice ra rn rc] 63) := ((((((Blk.new w3 [.int .i64 0, .int .i64 0, .int .i64 0, .int .i64 0, .slice none 0 0] 63).put 0 _).put 1 _).put 2 _).put 3 _).put 4 _)
          have hA : Below w3.heap.size w3 (World.setCells (w3.alloc (.cells #[.int .i64 0, .int .i64 0, .int .i64 0, .int .i64 0, .slice none 0 0] 63)) w3.heap.size 0 [.int .i64 df, .int .i64 ds, .int .i64 dl, .int .i64 dp, .slice ra rn rc]) := below5 (Nat.le_refl _) (ext_alloc (Below.refl _ _)) _
          have HG4 := Lib.hid (HG3.out.below hA)
          have HB4 := Lib.hid (ext_trans HB3.out hA)
          have HR4 := Lib.hid (HRF.out.below hA)
          clear hA HG3 HB3 HRF HOD
          as_aux_lemma =>
            go_upto_region 10 with (refine wpList_store_mid rfl 63 (.tmp 11) (.tmp 36) rfl w3.heap.size 0 #[.int .i64 df, .int .i64 ds, .int .i64 dl, .int .i64 dp, .slice ra rn rc] rfl rfl HTX.out Tryz.deckSz (by simp [Value.oneCell']) ?_; generalize World.setCells (w3.alloc (.cells #[.int .i64 0, .int .i64 0, .int .i64 0, .int .i64 0, .slice none 0 0] 63)) w3.heap.size 0 _ = w4 at HX4 HG4 HB4 HR4 ⊢)
            generalize w3.heap.size = D at HX4 hG3 ⊢
            clear HTX
            have x4 := HX4.out.cell 4 rfl
            as_aux_lemma =>
              go_wp2_with fail
              refine (cloneR_any _ ra rn rc rates HR4.out).mono ?_
              rintro e w5 ⟨v', rfl, hown, hb5⟩
              have HX5 := Lib.hid (HX4.out.below hb5)
              have HG5 := Lib.hid (HG4.out.below hb5)
              have HB5 := Lib.hid (ext_trans HB4.out hb5)
              have hrl : rn = rates.length := HR4.out.len
              have HRR : Hid (∃ sa sc, v' = .slice sa rn sc ∧ RateRow w5 sa rn rates) := by
                obtain ⟨sa, sc, rfl, hcs⟩ := Cells.of_own hown (fun x hx => by obtain ⟨y, _, rfl⟩ := List.mem_map.1 hx; rfl) (by decide)
                exact ⟨sa, sc, rfl, ⟨hcs, HR4.out.few, HR4.out.each⟩⟩
              obtain ⟨sa, sc, rfl, hrr⟩ := HRR.out
              have hD4 : D < w4.heap.size := HX4.out.lt
              have HST : Hid (∀ (W : World) (B : Nat) (i : Nat) (u : Value), B ≤ D → RateRow W sa rn rates → RateRow (W.setCell ⟨B, i, none⟩ u) sa rn rates) := fun W B i u hB h => by
                refine ⟨⟨h.cells.len, h.cells.row.imp id ?_⟩, h.few, h.each⟩
                rintro ⟨b, off, ha, hl, hc⟩
                refine ⟨b, off, ha, by simpa using hl, fun i' hi j hj => ?_⟩
                have hbb : w4.heap.size ≤ b := by
                  rcases hown.2 with ⟨h1, _⟩ | ⟨g, cap', cur, h1, h2, h3, _⟩
                  · injection h1 with h1 h2 h3; rw [ha] at h1; cases h1
                  · injection h1 with h1 _ _; rw [ha] at h1; injection h1 with h1; injection h1 with h1 _; subst h1; exact h2
                rw [World.cell?_setCell_other _ _ _ _ (ne_blk (by omega))]
                exact hc i' hi j hj
              have HRS := Lib.hid hrr
              clear hrr HRR hown hb5 HX4 HG4 HB4 HR4 x4 hrl
              have hDG : D ≠ w.heap.size := by omega
              have x4 := HX5.out.cell 4 rfl
              have xF := HX5.out.fr
              have hDw : w.heap.size ≤ D := by omega
              have HX6 : Hid (Blk (w5.setCell ⟨D, 4, none⟩ (.slice sa rn sc)) D [.int .i64 df, .int .i64 ds, .int .i64 dl, .int .i64 dp, .slice sa rn sc] 63) := HX5.out.put 4 _
              have HG6 : Hid (Blk (w5.setCell ⟨D, 4, none⟩ (.slice sa rn sc)) w.heap.size [.int .i64 0, .int .i64 0, .int .i64 0, .int .i64 0, .slice none 0 0] 63) := HG5.out.far hDG
              have HB6 : Hid (Below w.heap.size w (w5.setCell ⟨D, 4, none⟩ (.slice sa rn sc))) := HB5.out.setCell (p := ⟨D, 4, none⟩) hDw _
              have HCL : Hid (∀ ad : Addr, ad.block ≠ D ∨ True → True) := fun _ _ => trivial
              have HR6 : Hid (RateRow (w5.setCell ⟨D, 4, none⟩ (.slice sa rn sc)) sa rn rates) := HST.out _ D 4 _ (Nat.le_refl _) HRS.out
              have HST5 : Hid (∀ W, RateRow W sa rn rates → RateRow (W.setCells w.heap.size 0 [.int .i64 df, .int .i64 ds, .int .i64 dl, .int .i64 dp, .slice sa rn sc]) sa rn rates) := fun W h => HST.out _ _ 4 _ hDw (HST.out _ _ 3 _ hDw (HST.out _ _ 2 _ hDw (HST.out _ _ 1 _ hDw (HST.out _ _ 0 _ hDw h))))
              clear HX5 HG5 HB5 HRS HCL HST
              as_aux_lemma =>
                go_upto_region 11 with (fail)
                generalize w5.setCell ⟨D, 4, none⟩ (.slice sa rn sc) = w6 at HX6 HG6 HB6 HR6 ⊢
                clear x4 xF
                have HRX : Hid (w6.rangeAt D 0 [.int .i64 df, .int .i64 ds, .int .i64 dl, .int .i64 dp, .slice sa rn sc]) := fun j v hj => by rw [Nat.zero_add]; exact HX6.out.cell j hj
                have HTG : Hid (w6.there w.heap.size 0 5) := HG6.out.th 5 (by simp)
                have HR9 : Hid (Blk (w6.setCells w.heap.size 0 [.int .i64 df, .int .i64 ds, .int .i64 dl, .int .i64 dp, .slice sa rn sc]) w.heap.size [.int .i64 df, .int .i64 ds, .int .i64 dl, .int .i64 dp, .slice sa rn sc] 63) := (((((HG6.out.put 0 _).put 1 _).put 2 _).put 3 _).put 4 _)
                have HFX : Hid (PP (.returned (.tuple #[.agg #[.int .i64 df, .int .i64 ds, .int .i64 dl, .int .i64 dp, .slice sa rn sc], .bool ob, .int .i64 0])) (w6.setCells w.heap.size 0 [.int .i64 df, .int .i64 ds, .int .i64 dl, .int .i64 dp, .slice sa rn sc])) := HOE.out _ sa sc (HST5.out _ HR6.out) (below5 (Nat.le_refl _) HB6.out _)
                clear HX6 HG6 HB6 HR6 HOE
                as_aux_lemma =>
                  go_wp2_with (first | (refine wpList_load_mid rfl 63 (.tmp 11) rfl D 0 rfl [.int .i64 df, .int .i64 ds, .int .i64 dl, .int .i64 dp, .slice sa rn sc] _ HRX.out Tryz.underlying63 rfl Tryz.deckSz ?_) | (refine wpList_store_mid rfl 63 (.tmp 6) (.tmp 42) rfl w.heap.size 0 #[.int .i64 df, .int .i64 ds, .int .i64 dl, .int .i64 dp, .slice sa rn sc] rfl rfl HTG.out Tryz.deckSz (by simp [Value.oneCell']) ?_; generalize World.setCells w6 w.heap.size 0 _ = W9 at HFX HR9 ⊢))
                  refine bodyPost_ret (v := .tuple #[.agg #[.int .i64 df, .int .i64 ds, .int .i64 dl, .int .i64 dp, .slice sa rn sc], .bool ob, .int .i64 0]) ?_ rfl HFX.out
                  exact results_cell12 (t := 6) (u := 7) (v := 8) (by rfl) _ _ _ Tryz.isAgg63 Tryz.sizeOf63 (by rfl) [.int .i64 df, .int .i64 ds, .int .i64 dl, .int .i64 dp, .slice sa rn sc] rfl (fun j v hj => HR9.out.cell j hj)
end Go.Proofs.YtppinnjdaoaddaaGreatDoor

set_option linter.unusedVariables false
set_option linter.unusedSimpArgs false
namespace Go.Proofs.YtppinnjdaoaddaaGreatDoor
open Go.RowKit Go.Sort Go.Lib

theorem good_at {l : List Carr} {t : Int} (hl : l.length ≤ 50) (hr : ∀ i, i < l.length → ∀ d ∈ (l.getD i noCarr).decks, d.rates.length ≤ 5000) (h : carrsErr l = 0) : GoodAt l t := fun k hk d hd => by
  have z1 : ∀ j, j < l.length → carrErr l j = 0 := first_zero (by unfold carrsErr at h; rw [if_neg (by omega)] at h; exact h)
  have z2 := z1 k hk
  have hm := lastD_mem _ t _ (Nat.le_refl _) d hd
  unfold carrErr at z2
  split at z2
  · cases z2
  · split at z2
    · cases z2
    · split at z2
      · cases z2
      · split at z2
        · cases z2
        · have z3 := first_zero z2
          obtain ⟨j, hj, rfl⟩ := List.getElem_of_mem hm
          have z4 := z3 j hj
          unfold deckAtErr at z4
          rw [List.getD_eq_getElem?_getD, List.getElem?_eq_getElem hj] at z4
          refine deck_good (hr k hk _ (List.getElem_mem hj)) ?_
          simp only [Option.getD_some] at z4
          by_cases h9 : deckErr (l.getD k noCarr).decks[j] = 0
          · exact h9
          · rw [if_pos h9] at z4; exact absurd z4 h9
theorem good_row {w : World} {a : Option Addr} {n : Nat} {l : List Carr} {t : Int} (h : CarrRow w a n l) (h0 : carrsErr l = 0) : GoodAt l t := by
  have hl := h.len
  have hf := h.few
  refine good_at (by omega) (fun i hi d hd => ?_) h0
  obtain ⟨j, hj, rfl⟩ := List.getElem_of_mem hd
  have h1 := ((h.each i hi).row.each j hj).row
  rw [List.getD_eq_getElem?_getD (l := (l.getD i noCarr).decks), List.getElem?_eq_getElem hj] at h1
  have h2 := h1.few
  have h3 := h1.len
  simp only [Option.getD_some] at h2 h3
  omega
/-- The error of Offers; the offers. -/
def offE (l : List Carr) (nm : List UInt8) (t : Int) : Int := if carrsErr l ≠ 0 then carrsErr l else if isNumB nm = false then 3 else if isMomB t = false then 1 else 0
def OfxPost (E : Int) (x : List Off) (w : World) (e : Ending) (w' : World) : Prop := ∃ v ys, e = .returned (.tuple #[v, .int .i64 E]) ∧ ys = (if E = 0 then x else []) ∧ OffRow w' w.heap.size v ys ∧ Below w.heap.size w w'
set_option maxRecDepth 100000 in
set_option maxHeartbeats 4000000 in
theorem offersX_any (w : World) (a : Option Addr) (n cap : Nat) (l : List Carr) (hl : CarrRow w a n l) (hcap : n ≤ cap) (hn3 : n ≤ 3) (nm : List UInt8) (hnl : nm.length ≤ 100) (t : Int) : Calls Tryz.prog 34 #[.slice a n cap, .string ⟨nm.toArray⟩, .int .i64 t] w (OfxPost (offE l nm t) (insL (ltOf cfP) (offTo l (nm.drop 1) t n)) w) := by
  have HR := Lib.hid hl
  have HCC := Lib.hid (fun W (h : Below w.heap.size w W) => checkCarr_any W a n cap l (hl.below h) hcap)
  have HGD : Hid (carrsErr l = 0 → GoodAt l t) := fun h => good_row hl h
  have HE : Hid (offE l nm t = if carrsErr l ≠ 0 then carrsErr l else if isNumB nm = false then 3 else if isMomB t = false then 1 else 0) := rfl
  have HBAD : Hid (∀ E W, offE l nm t = E → E ≠ 0 → Below w.heap.size w W → OfxPost (offE l nm t) (insL (ltOf cfP) (offTo l (nm.drop 1) t n)) w (.returned (.tuple #[.slice none 0 0, .int .i64 E])) W) := fun E W h1 h2 h3 => by
    rw [h1]; exact ⟨_, [], rfl, by rw [if_neg h2], World.ownsRow_nil _ _ _ _, h3⟩
  have HOK : Hid (∀ v W, offE l nm t = 0 → OffRow W w.heap.size v (insL (ltOf cfP) (offTo l (nm.drop 1) t n)) → Below w.heap.size w W → OfxPost (offE l nm t) (insL (ltOf cfP) (offTo l (nm.drop 1) t n)) w (.returned (.tuple #[v, .int .i64 0])) W) := fun v W h1 h2 h3 => by
    rw [h1]; exact ⟨v, _, rfl, by rw [if_pos rfl], h2, h3⟩
  have HOF : Hid (carrsErr l = 0 → isNumB nm = true → ∀ W, Below w.heap.size w W → Calls Tryz.prog 76 #[.slice a n cap, .string ⟨nm.toArray⟩, .int .i64 t] W (OfsPost (insL (ltOf cfP) (offTo l (nm.drop 1) t n)) W)) := fun h1 h2 W hW => by
    obtain ⟨d, rfl, -, h4, h5⟩ := num_parts h2
    exact offersI_any W a n cap l (hl.below hW) hn3 _ (by simp) (by simp; omega) t (good_row hl h1)
  have HLE : Hid (∀ W1 v W2, Below w.heap.size w W1 → OffRow W2 W1.heap.size v (insL (ltOf cfP) (offTo l (nm.drop 1) t n)) → OffRow W2 w.heap.size v (insL (ltOf cfP) (offTo l (nm.drop 1) t n))) := fun W1 v W2 h1 h2 => own_le h2 h1.size
  generalize hPP : OfxPost (offE l nm t) (insL (ltOf cfP) (offTo l (nm.drop 1) t n)) w = PP at HBAD HOK ⊢
  clear hPP hl
  generalize offE l nm t = X at HE HBAD HOK
  generalize insL (ltOf cfP) (offTo l (nm.drop 1) t n) = xs at HOK HOF HLE
  have HIN := Lib.hid (fun W => isNumber_l nm W (by omega))
  generalize carrsErr l = F at HCC HE HOF HGD
  generalize isNumB nm = g1 at HE HOF HIN
  go_enter Tryz.func34, Tryz.ntmps34
  go_wp2_with fail
  refine (HCC.out _ (Below.refl _ _)).mono ?_
  rintro e w1 ⟨rfl, hb⟩
  have HB1 := Lib.hid hb
  clear hb HCC
  by_cases hF : F = 0
  case neg =>
    have hX : X = F := by rw [HE.out, if_pos hF]
    subst hX
    have HFX := Lib.hid (HBAD.out _ w1 rfl hF HB1.out)
    have hFb : (X == 0) = false := by simpa using hF
    clear HE HOK HOF HBAD hF HGD
    as_aux_lemma =>
      go_wp2_with fail
      first | exact HFX.out | (go_ret2; exact HFX.out)
  subst hF
  as_aux_lemma =>
    go_wp2_with fail
    refine (HIN.out _).mono ?_
    rintro e w2 ⟨rfl, hb⟩
    have HB2 := Lib.hid (ext_trans HB1.out hb)
    clear hb HB1 HIN
    cases g1
    · obtain rfl : X = 3 := by rw [HE.out, if_neg (by simp), if_pos rfl]
      have HFX := Lib.hid (HBAD.out _ w2 rfl (by decide) HB2.out)
      clear HE HOK HOF HBAD HGD
      skip
      as_aux_lemma =>
        go_wp2_with fail
        first | exact HFX.out | (go_ret2; exact HFX.out)
    have HE2 : Hid (X = if isMomB t = false then 1 else 0) := by show X = _; rw [HE.out, if_neg (by simp), if_neg (by decide)]
    clear HE
    as_aux_lemma =>
      go_wp2_with fail
      refine (isMoment_any t _).mono ?_
      rintro e w9 ⟨rfl, rfl⟩
      generalize isMomB t = g2 at HE2 ⊢
      cases g2
      · obtain rfl : X = 1 := by rw [HE2.out, if_pos rfl]
        have HFX := Lib.hid (HBAD.out _ w2 rfl (by decide) HB2.out)
        clear HE2 HOK HOF HBAD HGD
        skip
        as_aux_lemma =>
          go_wp2_with fail
          first | exact HFX.out | (go_ret2; exact HFX.out)
      obtain rfl : X = 0 := by rw [HE2.out, if_neg (by decide)]
      have HOF2 := Lib.hid (HOF.out (by trivial) (by trivial) w2 HB2.out)
      clear HE2 HBAD HOF HGD
      skip
      as_aux_lemma =>
        go_wp2_with fail
        refine HOF2.out.mono ?_
        rintro e w3 ⟨v, rfl, ho, hb⟩
        have HFX := Lib.hid (HOK.out v w3 (by trivial) (HLE.out w2 v w3 HB2.out ho) (ext_trans HB2.out hb))
        clear ho hb HB2 HOK HLE HOF2
        go_wp2_with fail
        first | exact HFX.out | (go_ret2; exact HFX.out)
end Go.Proofs.YtppinnjdaoaddaaGreatDoor
