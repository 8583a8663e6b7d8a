/- What is proved here: what read of package dialplan answers at the patterns that a stream makes. No condition. -/
import Derived.Test.YtkfflafhlgephaaDoorPatElem
set_option linter.unusedVariables false
set_option linter.unusedSimpArgs false
namespace Go.Proofs.YtkfflafhlgephaaDoor
open Go.RowKit

theorem own_slice0 {w : World} {base : Nat} {e : TypeId} {size : Nat} {v : Value} {n : Nat} {xs : List Value} (h : w.ownsRow base e size v n xs) : ∃ a c, v = .slice a n c := by
  rcases h.2 with ⟨rfl, rfl⟩ | ⟨g, cap, cur, rfl, _⟩
  · exact ⟨none, 0, rfl⟩
  · exact ⟨_, _, rfl⟩
theorem grownB_cell0 {X w1 : World} {row : Option Nat} (h : X.grownBy w1 row) {b : Nat} (hb : b < X.heap.size) (hn : row ≠ some b) (o : Nat) : w1.cell? ⟨b, o, none⟩ = X.cell? ⟨b, o, none⟩ := World.cell?_of_block (w := X) (a := ⟨b, o, none⟩) (h.block b hb (fun e => hn e.symm))
theorem grownB_frozen0 {X w1 : World} {row : Option Nat} (h : X.grownBy w1 row) {b : Nat} (hb : b < X.heap.size) (hn : row ≠ some b) (o : Nat) : w1.frozen? ⟨b, o, none⟩ = X.frozen? ⟨b, o, none⟩ := World.frozen?_of_block (w := X) (a := ⟨b, o, none⟩) (h.block b hb (fun e => hn e.symm))
def maskV (m : Nat) : Value := .int .u16 m
/-- What has been read so far lies in a block of its own. -/
structure RdG (w wr : World) (ms : List Nat) : Prop where
  row : ∃ v, wr.cell? ⟨w.heap.size + 1, 0, none⟩ = some v ∧ wr.ownsRow (w.heap.size + 2) 141 1 v ms.length (ms.map maskV)
  tail : wr.cell? ⟨w.heap.size + 1, 1, none⟩ = some (.int .u8 0)
  fro : ∀ j, wr.frozen? ⟨w.heap.size + 1, j, none⟩ = false
  res0 : wr.cell? ⟨w.heap.size, 0, none⟩ = some (.slice none 0 0)
  res1 : wr.cell? ⟨w.heap.size, 1, none⟩ = some (.int .u8 0)
  fro0 : ∀ j, wr.frozen? ⟨w.heap.size, j, none⟩ = false
  low : Below w.heap.size w wr
  size : w.heap.size + 2 ≤ wr.heap.size

theorem RdG.below {w wr w' : World} {ms : List Nat} (h : RdG w wr ms) (hb : Below wr.heap.size wr w') : RdG w w' ms := by
  have z := h.size
  obtain ⟨v, hv, ho⟩ := h.row
  have c := fun b o (hb' : b < wr.heap.size) => hb.cell (p := ⟨b, o, none⟩) hb'
  have f := fun b o (hb' : b < wr.heap.size) => hb.frozen (p := ⟨b, o, none⟩) hb'
  exact ⟨⟨v, (c _ _ (by omega)).trans hv, ho.kept_below hb⟩, (c _ _ (by omega)).trans h.tail, fun j => (f _ _ (by omega)).trans (h.fro j), (c _ _ (by omega)).trans h.res0, (c _ _ (by omega)).trans h.res1, fun j => (f _ _ (by omega)).trans (h.fro0 j), ext_trans h.low hb, Nat.le_trans z hb.size⟩

theorem rdg_next {w wr X w1 : World} {ms : List Nat} {m : Nat} {v : Value} {row : Option Nat} (h : RdG w wr ms) (hX : Below wr.heap.size wr X) (hg : X.grownBy w1 row) (hr : ∀ b, row = some b → w.heap.size + 2 ≤ b)
    (hown : w1.ownsRow (w.heap.size + 2) 141 1 v (ms.length + 1) (ms.map maskV ++ [maskV m])) : RdG w (w1.setCell ⟨w.heap.size + 1, 0, none⟩ v) (ms ++ [m]) := by
  have hb : ∀ b, b < w.heap.size + 2 → w1.heap[b]? = wr.heap[b]? := fun b hb => (hg.block b (by have := hX.size; have := h.size; omega) (fun e => by have := hr b e.symm; omega)).trans (hX.block b (by have := h.size; omega))
  have hc : ∀ b o, b < w.heap.size + 2 → w1.cell? ⟨b, o, none⟩ = wr.cell? ⟨b, o, none⟩ := fun b o h => World.cell?_of_block (w := wr) (a := ⟨b, o, none⟩) (hb b h)
  have hf : ∀ b o, b < w.heap.size + 2 → w1.frozen? ⟨b, o, none⟩ = wr.frozen? ⟨b, o, none⟩ := fun b o h => World.frozen?_of_block (w := wr) (a := ⟨b, o, none⟩) (hb b h)
  obtain ⟨v0, hv0, _⟩ := h.row
  refine ⟨⟨v, World.cell?_setCell_same _ _ _ ((hc _ _ (by omega)).trans hv0), ?_⟩, ?_, ?_, ?_, ?_, ?_, ?_, ?_⟩
  · rw [List.map_append, List.length_append]; exact ownsRow_setCell_below hown (by show w.heap.size + 1 < _; omega) v
  · exact (World.cell?_setCell_other _ _ _ _ (by simp)).trans ((hc _ _ (by omega)).trans h.tail)
  · intro j; rw [World.frozen?_setCell]; exact (hf _ _ (by omega)).trans (h.fro j)
  · exact (World.cell?_setCell_other _ _ _ _ (by simp)).trans ((hc _ _ (by omega)).trans h.res0)
  · exact (World.cell?_setCell_other _ _ _ _ (by simp)).trans ((hc _ _ (by omega)).trans h.res1)
  · intro j; rw [World.frozen?_setCell]; exact (hf _ _ (by omega)).trans (h.fro0 j)
  · exact ((h.low.trans (hX.mono (by have := h.size; omega))).grown hg (by have := h.size; have := hX.size; omega) (fun b e => by have := hr b e; omega)).setCell (by show w.heap.size ≤ w.heap.size + 1; omega) v
  · have := hg.size; have := hX.size; have := h.size; simp; omega

/-- A pattern in memory. -/
structure PatAt (w : World) (a : Option Addr) (n : Nat) (p : Pat) : Prop where
  len : n = p.sets.length
  row : n = 0 ∨ ∃ g, a = some ⟨g, 0, none⟩ ∧ g < w.heap.size ∧ ∀ i, i < n → w.cell? ⟨g, i, none⟩ = some (.int .u16 (p.sets.getD i 0))
theorem PatAt.below {w w' : World} {a : Option Addr} {n : Nat} {p : Pat} (h : PatAt w a n p) (hb : Below w.heap.size w w') : PatAt w' a n p := by
  refine ⟨h.len, h.row.imp id ?_⟩
  rintro ⟨g, ha, hg, hc⟩
  exact ⟨g, ha, Nat.lt_of_lt_of_le hg hb.size, fun i hi => (hb.cell (p := ⟨g, i, none⟩) hg).trans (hc i hi)⟩
theorem PatAt.set {w : World} {a : Option Addr} {n : Nat} {p : Pat} (h : PatAt w a n p) {q : Addr} (hq : ∀ g, a = some ⟨g, 0, none⟩ → g ≠ q.block) {u : Value} : PatAt (w.setCell q u) a n p := by
  refine ⟨h.len, h.row.imp id ?_⟩
  rintro ⟨g, ha, hg, hc⟩
  exact ⟨g, ha, by simpa using hg, fun i hi => (World.cell?_setCell_other _ _ _ _ (by intro e; exact hq g ha (by rw [e]))).trans (hc i hi)⟩
def patVal (a : Option Addr) (n cap : Nat) (p : Pat) : Value := .agg #[.slice a n cap, .int .u8 p.tail]
def ReadPat (p : Pat) (w : World) (e : Ending) (w' : World) : Prop := ∃ (a : Option Addr) (n cap : Nat), e = .returned (.tuple #[patVal a n cap p, .int .i64 0]) ∧ PatAt w' a n p ∧ Below w.heap.size w w'

theorem map_getD (ms : List Nat) (i : Nat) (hi : i < ms.length) : (ms.map maskV)[i]? = some (.int .u16 (ms.getD i 0)) := by
  simp [List.getD_eq_getElem?_getD, List.getElem?_eq_getElem hi, maskV]

theorem elS_len (x : Nat) : 1 ≤ (elS x).length ∧ (elS x).length ≤ 6 := by unfold elS; split <;> simp
theorem flat_len (l : List Nat) : (l.flatMap elS).length ≤ 6 * l.length := by
  induction l with
  | nil => simp
  | cons x l ih => have := (elS_len x).2; simp only [List.flatMap_cons, List.length_append, List.length_cons]; omega
theorem drop_flat (l : List Nat) (k : Nat) (h : k < l.length) : (l.drop k).flatMap elS = elS (l.getD k 0) ++ (l.drop (k + 1)).flatMap elS := by
  rw [List.drop_eq_getElem_cons h, List.flatMap_cons]
  simp [List.getD_eq_getElem?_getD, List.getElem?_eq_getElem h]
theorem rest_str (s : ByteArray) (n : Nat) (l : List UInt8) (m : List UInt8) (hs : s.data.toList = m ++ l) (hn : n = m.length) : (s.extract n s.size).data.toList = l := by
  rw [Lib.extract_eq]
  have : s.size = m.length + l.length := by
    show s.data.size = _
    rw [← Array.length_toList, hs]; simp
  rw [hs, this, hn]
  simp

theorem el_neq (x : Nat) (hx : x < 12) (r : List UInt8) : (elS x ++ r == []) = false ∧ (elS x ++ r == [46]) = false ∧ (elS x ++ r == [33]) = false ∧ (elS x ++ r).isEmpty = false := by
  have hx' : x = 0 ∨ x = 1 ∨ x = 2 ∨ x = 3 ∨ x = 4 ∨ x = 5 ∨ x = 6 ∨ x = 7 ∨ x = 8 ∨ x = 9 ∨ x = 10 ∨ x = 11 := by omega
  rcases hx' with rfl | rfl | rfl | rfl | rfl | rfl | rfl | rfl | rfl | rfl | rfl | rfl <;> simp [elS]
def sizeOfV : Value → Nat | .string s => s.size | _ => 0

set_option maxRecDepth 100000 in
set_option maxHeartbeats 4000000 in
theorem read_any (w : World) (e : Els) (he : ElsOk e) (str : ByteArray) (hstr : str.data.toList = e.str) : Calls Tryd.prog 39 #[.string str] w (ReadPat e.pat w) := by
  obtain ⟨i0, hi, hz0, hz1, hz2⟩ := info_parts Tryd.infoMask
  have HE := Lib.hid he
  have HST := Lib.hid hstr
  have hl4 := he.len
  have hl1 := he.len1
  have hsz : str.size ≤ 25 := by
    show str.data.size ≤ _
    rw [← Array.length_toList, hstr]
    unfold Els.str
    have := flat_len e.els
    have : (tlS e.tl).length ≤ 1 := by unfold tlS; split <;> simp
    rw [List.length_append]; omega
  clear he hstr
  go_enter Tryd.func39, Tryd.ntmps39
  go_wp2_with fail
  go_loopw [5] (fun s5 wr => ∃ (k : Nat) (s : ByteArray), s5 = .string s ∧ k ≤ e.els.length ∧ Hid (s.data.toList = (e.els.drop k).flatMap elS ++ tlS e.tl) ∧ Hid (RdG w wr ((e.els.take k).map elM))) (fun s5 _ => sizeOfV s5)
  case atStart => exact ⟨0, str, rfl, Nat.zero_le _, (by show _ = _; rw [HST.out]; rfl), ⟨⟨.slice none 0 0, by simp, World.ownsRow_nil _ _ _ _⟩, by simp, by simp, by simp, by simp, by simp, (by (try show Below _ _ _); repeat (with_reducible first | exact Below.refl _ _ | assumption | exact Hid.out (by assumption) | refine ext_alloc ?_ | refine ext_drewN ?_ | refine ext_drew ?_ | refine ext_setCell ?_ (Nat.le_refl _) | refine ext_setCell ?_ (Nat.le_succ _) | refine ext_trans ?_ (by assumption) | (refine ext_setCell ?_ (by simp)) | (refine ext_setCell ?_ (by simp at *; omega)))), by simp⟩⟩
  case round =>
    obtain ⟨k, s, rfl, hk, HS, HR⟩ := hrel
    obtain ⟨v, hv, hown⟩ := HR.out.row
    have hmk : ((e.els.take k).map elM).length = k := by rw [List.length_map, List.length_take]; omega
    have HMK := Lib.hid hmk
    rw [hmk] at hown
    clear hmk
    have HO := Lib.hid hown
    have t1 := HR.out.tail
    have t2 := HR.out.fro 0
    have t3 := HR.out.fro 1
    have zz := HR.out.size
    have zz1 : w.heap.size + 1 < wr.heap.size := by omega
    have zz0 : w.heap.size < wr.heap.size := by omega
    obtain ⟨ga, gc, rfl⟩ := own_slice0 hown
    clear hown
    by_cases hlt : k < e.els.length
    · have hx12 : e.els.getD k 0 < 12 := HE.out.each _ (by rw [List.getD_eq_getElem?_getD, List.getElem?_eq_getElem hlt]; exact List.getElem_mem hlt)
      have hs2 : s.data.toList = elS (e.els.getD k 0) ++ ((e.els.drop (k + 1)).flatMap elS ++ tlS e.tl) := by rw [HS.out, drop_flat _ _ hlt, List.append_assoc]
      have HS2 := Lib.hid hs2
      have hne := el_neq (e.els.getD k 0) hx12 ((e.els.drop (k + 1)).flatMap elS ++ tlS e.tl)
      rw [← hs2, ← Go.ByteArray.toList_eq] at hne
      obtain ⟨n1, n2, n3, n4⟩ := hne
      have hrl : ((e.els.drop (k + 1)).flatMap elS ++ tlS e.tl).length ≤ 1000 := by
        have h1 := flat_len (e.els.drop (k + 1))
        have h2 : (tlS e.tl).length ≤ 1 := by unfold tlS; split <;> simp
        rw [List.length_append]; rw [List.length_drop] at h1; omega
      clear hs2
      go_wp2_with fail
      refine (element_any _ hx12 s _ HS2.out hrl _).mono ?_
      rintro e1 w1 ⟨rfl, hB1⟩
      have HR1 := Lib.hid (HR.out.below hB1)
      have HO1 := Lib.hid (HO.out.kept_below hB1)
      have c1 := (hB1.cell (p := ⟨w.heap.size + 1, 0, none⟩) zz1).trans hv
      have f1 := (hB1.frozen (p := ⟨w.heap.size + 1, 0, none⟩) zz1).trans t2
      have zw1 : w.heap.size + 2 ≤ w1.heap.size := Nat.le_trans zz hB1.size
      have zw2 : w.heap.size + 1 < w1.heap.size := by omega
      have HNX : Hid ((s.extract (elS (e.els.getD k 0)).length s.size).data.toList = (e.els.drop (k + 1)).flatMap elS ++ tlS e.tl) := rest_str s _ _ _ HS2.out rfl
      have hln := elS_len (e.els.getD k 0)
      have hlsz : (elS (e.els.getD k 0)).length ≤ s.size := by
        show _ ≤ s.data.size
        rw [← Array.length_toList, HS2.out, List.length_append]; omega
      have HTK : Hid ((e.els.take (k + 1)).map elM = (e.els.take k).map elM ++ [elM (e.els.getD k 0)]) := by
        show _ = _
        rw [List.take_succ_eq_append_getElem hlt, List.map_append]
        simp [List.getD_eq_getElem?_getD, List.getElem?_eq_getElem hlt]
      have hssz : s.size ≤ 1000 := by
        show s.data.size ≤ _
        rw [← Array.length_toList, HS2.out, List.length_append]
        have := (elS_len (e.els.getD k 0)).2
        have h1 := flat_len (e.els.drop (k + 1))
        have h2 : (tlS e.tl).length ≤ 1 := by unfold tlS; split <;> simp
        rw [List.length_append]; rw [List.length_drop] at h1; omega
      clear hB1 HR HO hv t1 t2 t3 n1 n2 n3 n4
      generalize (e.els.take k).map elM = ms at HR1 HO1 HTK HMK
      generalize elM (e.els.getD k 0) = mx at HTK ⊢
      generalize hlen : (elS (e.els.getD k 0)).length = ln at HNX hln hlsz ⊢
      have HLEN := Lib.hid hlen
      clear hlen
      obtain ⟨ln0, ln1⟩ := hln
      have q0 : ((ln : Int) == 0) = false := by simp; omega
      have ng : (Value.slice ga k gc).ownBlock ≠ some (w.heap.size + 1) := fun e9 => by have := (HO1.out.lt _ e9).1; omega
      have NG := Lib.hid ng
      clear ng
      go_wp2_with fail
      go_region_law (refine step_append_lies _ rfl (.tmp 34) (.tmp 36) 93 rfl (w.heap.size + 2) 141 i0 (.int .u16 0) 1 2 Tryd.underlying93 hi hz0 hz1 hz2 rfl (by decide) (.slice ga k gc) k (ms.map maskV) (by simp [Act.eval, Act.put]) (by first | exact (HO1.out.drew).alloc _ | exact (HO1.out.alloc _).drew) ⟨w1.heap.size, 0, none⟩ 1 1 [maskV mx] (by simp [Act.eval, Act.put]) rfl (news_one (by first | (go_simp; done) | (go_simp; rfl))) (by simp [Value.oneCell', maskV]) (by omega) (by unfold maxLen; omega) (by omega) (by simp; omega) _ rfl ?_; intro g cap w2 hown2 hgr2 hwh2 hg2; have c9 : w2.cell? ⟨w.heap.size + 1, 0, none⟩ = some (.slice ga k gc) := (grownB_cell0 hgr2 (by simp; omega) NG.out 0).trans (by go_simp); have f9 : w2.frozen? ⟨w.heap.size + 1, 0, none⟩ = false := (grownB_frozen0 hgr2 (by simp; omega) NG.out 0).trans (by go_simp))
      all_goals
        go_simp
        go_wp2_with fail
        go_roundw
        case rel => exact ⟨k + 1, s.extract ln s.size, rfl, by omega, HNX, (by show RdG _ _ _; rw [HTK.out]; exact rdg_next HR1.out (by (try show Below _ _ _); repeat (with_reducible first | exact Below.refl _ _ | assumption | exact Hid.out (by assumption) | refine ext_alloc ?_ | refine ext_drewN ?_ | refine ext_drew ?_ | refine ext_setCell ?_ (Nat.le_refl _) | refine ext_setCell ?_ (Nat.le_succ _) | refine ext_trans ?_ (by assumption) | (refine ext_setCell ?_ (by simp)) | (refine ext_setCell ?_ (by simp at *; omega)))) hgr2 (fun b e9 => (HO1.out.lt _ e9).1) (by rw [HMK.out]; exact hown2))⟩
        case measure => simp [sizeOfV, ByteArray.size_extract]; omega
    · obtain rfl : k = e.els.length := by omega
      have hlast : s.data.toList = tlS e.tl := by rw [HS.out, List.drop_length]; rfl
      have hrow : PatAt wr ga e.els.length e.pat := by
        refine ⟨by simp [Els.pat], ?_⟩
        rcases HO.out.2 with ⟨h9, h9'⟩ | ⟨g, cap, cur, h9, hb, hg, _⟩
        · exact Or.inl h9'
        · cases h9
          refine Or.inr ⟨g, rfl, (HO.out.lt g rfl).2, fun i hi => ?_⟩
          rw [HO.out.cellAt i (by omega), map_getD _ i (by rw [HMK.out]; exact hi)]
          rw [List.take_length]; rfl
      have HROW := Lib.hid hrow
      have gne : ∀ g o, ga = some ⟨g, o, none⟩ → w.heap.size + 2 ≤ g := fun g o e9 => by subst e9; exact (HO.out.lt g rfl).1
      have HG := Lib.hid gne
      have r0 := HR.out.res0
      have r1 := HR.out.res1
      have r2 := HR.out.fro0 0
      have r3 := HR.out.fro0 1
      have HLOW := Lib.hid HR.out.low
      have htl := HE.out.tl0
      have htl1 := HE.out.tl1
      have hcase : e.tl = 13 ∨ e.tl = 12 ∨ e.tl = 14 := by omega
      clear hrow gne htl htl1
      rcases hcase with hc | hc | hc
      · have n1 : s.toList = [] := by rw [Go.ByteArray.toList_eq, hlast, hc]; rfl
        have HT : Hid (e.pat.tail = 0) := by show tlB e.tl = 0; rw [hc]; rfl
        clear hlast hc
        go_wp2_with fail
        refine bodyPost_ret (v := .tuple #[.agg #[.slice ga e.els.length gc, .int .u8 0], .int .i64 0]) (by simp [results, Tryd.results39, go_sem, r0, r1]) rfl ⟨ga, e.els.length, gc, ?_, ?_, ?_⟩
        · rw [patVal, HT.out]; rfl
        · exact ((HROW.out).set (fun g e9 => by have := HG.out g 0 e9; show g ≠ w.heap.size; omega)).set (fun g e9 => by have := HG.out g 0 e9; show g ≠ w.heap.size; omega)
        · exact ext_setCell (ext_setCell HLOW.out (Nat.le_refl _)) (Nat.le_refl _)
      · have n1 : s.toList = [46] := by rw [Go.ByteArray.toList_eq, hlast, hc]; rfl
        have HT : Hid (e.pat.tail = 46) := by show tlB e.tl = 46; rw [hc]; rfl
        have hss : s.size = 1 := by
          show s.data.size = _
          rw [← Array.length_toList, hlast, hc]; rfl
        have p0 : 0 < s.size := by omega
        have x0 : (s[0]'p0).toNat = 46 := byte_at s 0 46 p0 (by rw [hlast, hc]; rfl)
        clear hlast hc hss
        go_wp2_with fail
        refine bodyPost_ret (v := .tuple #[.agg #[.slice ga e.els.length gc, .int .u8 46], .int .i64 0]) (by simp [results, Tryd.results39, go_sem, r0, r1]) rfl ⟨ga, e.els.length, gc, ?_, ?_, ?_⟩
        · rw [patVal, HT.out]; rfl
        · exact ((HROW.out.set (fun g e9 => by have := HG.out g 0 e9; show g ≠ w.heap.size + 1; omega)).set (fun g e9 => by have := HG.out g 0 e9; show g ≠ w.heap.size; omega)).set (fun g e9 => by have := HG.out g 0 e9; show g ≠ w.heap.size; omega)
        · exact ext_setCell (ext_setCell (ext_setCell HLOW.out (by show w.heap.size ≤ w.heap.size + 1; omega)) (Nat.le_refl _)) (Nat.le_refl _)
      · have n1 : s.toList = [33] := by rw [Go.ByteArray.toList_eq, hlast, hc]; rfl
        have HT : Hid (e.pat.tail = 33) := by show tlB e.tl = 33; rw [hc]; rfl
        have hss : s.size = 1 := by
          show s.data.size = _
          rw [← Array.length_toList, hlast, hc]; rfl
        have p0 : 0 < s.size := by omega
        have x0 : (s[0]'p0).toNat = 33 := byte_at s 0 33 p0 (by rw [hlast, hc]; rfl)
        clear hlast hc hss
        go_wp2_with fail
        refine bodyPost_ret (v := .tuple #[.agg #[.slice ga e.els.length gc, .int .u8 33], .int .i64 0]) (by simp [results, Tryd.results39, go_sem, r0, r1]) rfl ⟨ga, e.els.length, gc, ?_, ?_, ?_⟩
        · rw [patVal, HT.out]; rfl
        · exact ((HROW.out.set (fun g e9 => by have := HG.out g 0 e9; show g ≠ w.heap.size + 1; omega)).set (fun g e9 => by have := HG.out g 0 e9; show g ≠ w.heap.size; omega)).set (fun g e9 => by have := HG.out g 0 e9; show g ≠ w.heap.size; omega)
        · exact ext_setCell (ext_setCell (ext_setCell HLOW.out (by show w.heap.size ≤ w.heap.size + 1; omega)) (Nat.le_refl _)) (Nat.le_refl _)
end Go.Proofs.YtkfflafhlgephaaDoor
