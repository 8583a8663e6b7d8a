/- What is proved here: lemmas and contracts for the statement, put together out of smaller texts (CarrCarA, CarrCar, CarrBack, CarrRate, CarrPrice, CarrDof). No condition beyond those stated. -/
import Derived.Test.YtppinnjdaoaddaaGreatDoorCsPkG
import Derived.Test.YtppinnjdaoaddaaGreatDoorCsPkD
import Derived.RangeFuncNested
import Derived.RangeFuncLeaves
import Derived.Shelf.Abstract
import Derived.OwnWalkIn
import Derived.TacticsInMore
import Derived.LoopNIn
import Derived.LoopIn
import Derived.Test.YtppinnjdaoaddaaGreatDoorCsPkB
import Derived.Test.YtppinnjdaoaddaaGreatDoorCsPkC
import Derived.Test.YtppinnjdaoaddaaGreatDoorCsPkA
import Derived.Test.YtppinnjdaoaddaaGreatDoorShelfPort
import Derived.Deep.RegionWith
import Derived.StillTailTactics
set_option linter.unusedVariables false
set_option linter.unusedSimpArgs false
namespace Go.Proofs.YtppinnjdaoaddaaGreatDoor
open Go.RowKit

def moreDecks (c : Carr) (a : Option Addr) (n cp : Nat) (d : Deck) : Carr := ⟨c.key, c.lines, a, n, cp, c.decks ++ [d]⟩
theorem carrs_append {base S g : Nat} {w4 w7 w10 : World} {l : List Carr} {r : Nat} {d : Deck} {o : Obj} {a12 : Option Addr} {n12 c12 : Nat}
    (HC : CSep base (some g) w4 l) (hr : r < l.length) (hk : Keeps S w4 w7) (hS : S < base) (hg : g < w4.heap.size) (hbg : base ≤ w4.heap.size) (hd : DeckOwn w4.heap.size w7 d)
    (hn : n12 = (l.getD r noCarr).decks.length + 1)
    (hown : w10.ownsRow base 63 5 (.slice a12 n12 c12) n12 ((((l.getD r noCarr).decks ++ [d]).map Deck.cells).flatten))
    (hgr : (w7.alloc o).grownBy w10 (l.getD r noCarr).dv.ownBlock)
    (hat : (Value.slice a12 n12 c12).ownBlock = (l.getD r noCarr).dv.ownBlock ∨ ∀ b, (Value.slice a12 n12 c12).ownBlock = some b → w7.heap.size ≤ b)
    (hfew : (l.getD r noCarr).decks.length ≤ 2) (i : Nat) (u : Value) :
    CarrsIf (fun b => base ≤ b ∧ some g ≠ some b) (w10.setCell ⟨g, i, none⟩ u) (l.set r (moreDecks (l.getD r noCarr) a12 n12 c12 d)) := by
  intro W hW q hq
  have hq2 : q < l.length := by simpa using hq
  have hrow := HC.own r hr
  have hdv : ∀ b, (l.getD r noCarr).dv.ownBlock = some b → b < w4.heap.size ∧ b ≠ g := fun b e => ⟨(hrow.lt b e).2, fun h => HC.ne r hr b e (by rw [h])⟩
  have s1 : (w7.alloc o).heap.size = w7.heap.size + 1 := by simp
  have s2 := hgr.size
  have s3 := hk.size
  have hset : ∀ b, b ≠ g → (w10.setCell ⟨g, i, none⟩ u).heap[b]? = w10.heap[b]? := fun b hb => Below.heap_setCell _ _ _ _ hb
  have z10 : (w10.setCell ⟨g, i, none⟩ u).heap.size = w10.heap.size := by simp
  -- what W keeps of w10, w7, w4
  have k10 : ∀ b, b < w10.heap.size → base ≤ b → b ≠ g → W.heap[b]? = w10.heap[b]? := fun b h1 h2 h3 => (hW.2 b (by rw [z10]; exact h1) ⟨h2, fun e => h3 (Option.some.inj e).symm⟩).trans (hset b h3)
  have k7 : ∀ b, b < w7.heap.size → base ≤ b → b ≠ g → (l.getD r noCarr).dv.ownBlock ≠ some b → W.heap[b]? = w7.heap[b]? := fun b h1 h2 h3 h4 => (k10 b (by omega) h2 h3).trans ((hgr.block b (by omega) (fun e => h4 e.symm)).trans (Below.heap_alloc _ _ _ h1))
  have k4 : KeepsIf (fun b => base ≤ b ∧ some g ≠ some b ∧ (l.getD r noCarr).dv.ownBlock ≠ some b) w4 W := ⟨by have := hW.1; omega, fun b h1 h2 => (k7 b (by omega) h2.1 (fun e => h2.2.1 (by rw [e])) h2.2.2).trans (hk.block b h1 (by omega))⟩
  obtain ⟨hdk, hoth⟩ := HC.sep r hr W k4
  by_cases hqr : q = r
  · subst hqr
    have e1 : (l.set q (moreDecks (l.getD q noCarr) a12 n12 c12 d)).getD q noCarr = moreDecks (l.getD q noCarr) a12 n12 c12 d := by simp [hq2]
    rw [e1]
    have hw : W.ownsRow base 63 5 (.slice a12 n12 c12) n12 ((((l.getD q noCarr).decks ++ [d]).map Deck.cells).flatten) := by
      refine own_if (p := fun b => base ≤ b ∧ b ≠ g) hown ⟨by have := hW.1; omega, fun b h1 h2 => k10 b h1 h2.1 h2.2⟩ (fun b e => ⟨(hown.lt b e).1, ?_⟩)
      rcases hat with h | h
      · exact (hdv b (h ▸ e)).2
      · have := h b e; omega
    have hf := HC.few q hr
    refine carr_fine (base := base) (c := moreDecks (l.getD q noCarr) a12 n12 c12 d) ?_ ⟨?_, hf.key, hf.lines⟩ ?_
    · have hl : (moreDecks (l.getD q noCarr) a12 n12 c12 d).decks.length = n12 := by simp [moreDecks, hn]
      rw [hl]
      exact hw
    · show ((l.getD q noCarr).decks ++ [d]).length ≤ 3
      rw [List.length_append, List.length_singleton]; omega
    · intro j hj
      show DeckFine W (((l.getD q noCarr).decks ++ [d]).getD j noDeck)
      rw [getD_snoc]
      have hj2 : j < ((l.getD q noCarr).decks ++ [d]).length := hj
      rw [List.length_append, List.length_singleton] at hj2
      by_cases h1 : j < (l.getD q noCarr).decks.length
      · rw [if_pos h1]; exact hdk j h1
      · rw [if_neg h1, if_pos (by omega)]
        exact (hd.ge ⟨by have := hW.1; omega, fun b h1 h2 => k7 b h1 (by have : w4.heap.size ≤ b := h2; omega) (by have : w4.heap.size ≤ b := h2; omega) (fun e => by have := (hdv b e).1; have : w4.heap.size ≤ b := h2; omega)⟩).fine
  · have e1 : (l.set r (moreDecks (l.getD r noCarr) a12 n12 c12 d)).getD q noCarr = l.getD q noCarr := by simp [List.getElem?_set, Ne.symm hqr]
    rw [e1]
    exact hoth q hq2 hqr
/-- The row itself is written, keys and lines turn. -/
theorem carrs_put {base g : Nat} {w W : World} {l : List Carr} {r : Nat} {x : List UInt8} {y : Int} (HC : CSep base (some g) w l) (hr : r < l.length) (hk : KeepsIf (fun b => base ≤ b ∧ some g ≠ some b) w W) (hx : x.length ≤ 100) (hy : -2000000000000 ≤ y ∧ y ≤ 2000000000000) :
    CarrsIf (fun b => base ≤ b ∧ some g ≠ some b) W (l.set r ⟨x, y, (l.getD r noCarr).da, (l.getD r noCarr).dn, (l.getD r noCarr).dc, (l.getD r noCarr).decks⟩) :=
  (CarrsIf.set (r := r) (CarrsIf.on HC.fine (fun V hV => hk.trans hV)) (fun V hV => by
    have h := HC.fine V (hk.trans hV) r hr
    exact ⟨h.row, h.cap, hx, hy⟩))
end Go.Proofs.YtppinnjdaoaddaaGreatDoor

set_option linter.unusedVariables false
set_option linter.unusedSimpArgs false
namespace Go.Proofs.YtppinnjdaoaddaaGreatDoor
open Go.RowKit

theorem bs_k3 (e : Operand → Value) (he : ∀ v, e (.const v) = v) (o : Oper) (w : World) (i0 : Nat) (p0 p1 p2 : ByteArray) (ho : o.op = .buildSlice 121 3 #[(0, .tmp i0), (1, .const (.string p1)), (2, .const (.string p2))]) (h0 : e (.tmp i0) = .string p0) :
   (execOp e o).run Tryz.prog w = .ok (.value (.slice (some ⟨w.heap.size, 0, none⟩) 3 3)) (w.alloc (.cells #[.string p0, .string p1, .string p2] 9)) := by
  unfold execOp
  rw [ho]
  simp only [List.map_toArray, List.map_cons, List.map_nil, he, h0]
  kernel_rfl
theorem carrs_out {S k k2 : Nat} {w w1 : World} {v : Value} {l : List Carr} (hO : w1.ownsRow w.heap.size 72 3 v l.length ((l.map Carr.cells).flatten)) (hl : l.length ≤ 3) (hC : CarrsIf (fun b => w.heap.size ≤ b ∧ v.ownBlock ≠ some b) w1 l) (hS : StreamOk w1 S k) (hk : k ≤ k2) (hK : Keeps S w w1) : CarrsPost S k2 w (.returned v) w1 := ⟨v, l, rfl, hO, hl, hC, hS.mono hk, hK⟩

set_option maxRecDepth 100000 in
set_option maxHeartbeats 8000000 in
theorem carriers_any (S k : Nat) (w : World) (h : StreamOk w S k) (hk : k ≤ 400000) : Calls Tryz.prog 6 #[.pointer (some ⟨S, 0, none⟩)] w (CarrsPost S (k + 400) w) := by
  obtain ⟨i1, hi1, hy0, hy1, hy2⟩ := info_parts Tryz.infoDeck
  have HS := Lib.hid h
  have hSW := h.lt
  clear h
  go_enter Tryz.func6, Tryz.ntmps6
  go_wp2_with fail
  refine (rightCarriers_any S k w HS.out (by omega)).mono ?_
  rintro e w1 ⟨v, l, rfl, hown, hl3, hd2, hsep, hst, hk'⟩
  obtain ⟨a, c, rfl⟩ := own_shape hown
  obtain ⟨n, hn⟩ : ∃ n, n = l.length := ⟨_, rfl⟩
  have HO1 := Lib.hid hown
  rw [← hn] at HO1 hsep ⊢
  have HC1 := Lib.hid hsep
  have HS1 := Lib.hid hst
  have HK1 := Lib.hid hk'
  have HD := Lib.hid hd2
  have HN := Lib.hid hn
  have HE1 : Hid (CarrsPost S (k + 400) w (.returned (.slice a n c)) w1) := carrs_out (l := l) (by rw [← hn]; exact HO1.out) hl3 HC1.out.fine HS1.out (by omega) HK1.out
  have hSz := hk'.size
  rw [← hn] at hl3
  clear hown hsep hst hk' hd2 hn HS
  by_cases hn0 : n = 0
  · subst hn0
    go_wp2_with fail
    go_ret
    exact HE1.out
  obtain ⟨g, rfl, hg1, hg2⟩ := own_pos HO1.out (by omega)
  have hgS : g ≠ S := by omega
  have hnp : 0 < n := by omega
  clear HE1
  skip
  as_aux_lemma =>
    go_wp2_with (fail)
    refine (flip_any S (k + 300) 15 _ HS1.out (by omega) (by decide) (by decide)).mono ?_
    rintro e w2 ⟨fl, rfl, hst, hk'⟩
    have hgz := Nat.lt_of_lt_of_le hg2 hk'.size
    have HS2 := Lib.hid hst
    have HK2 := Lib.hid (HK1.out.trans hk')
    have HO2 := Lib.hid (own_keeps HO1.out hk' hSW)
    have HC2 := Lib.hid (HC1.out.keeps hk' hSW)
    clear hst hk'
    clear HS1 HK1 HO1 HC1
    cases fl
    · have HE : Hid (CarrsPost S (k + 400) w (.returned (.slice (some ⟨g, 0, none⟩) n c)) w2) := carrs_out (l := l) (by rw [← HN.out]; exact HO2.out) (by rw [← HN.out]; exact hl3) HC2.out.fine HS2.out (by omega) HK2.out
      as_aux_lemma =>
        go_wp2_with fail
        go_ret
        exact HE.out
    skip
    as_aux_lemma =>
      go_wp2_with (fail)
      refine (next_any S (k + 301) n _ HS2.out (by omega) (by omega) (by omega)).mono ?_
      rintro e w3 ⟨r, rfl, r0, r1, hst, hk'⟩
      have hgz3 := Nat.lt_of_lt_of_le hgz hk'.size
      have HS3 := Lib.hid hst
      have HK3 := Lib.hid (HK2.out.trans hk')
      have HO3 := Lib.hid (own_keeps HO2.out hk' hSW)
      have HC3 := Lib.hid (HC2.out.keeps hk' hSW)
      clear hst hk'
      clear HS2 HK2 HO2 HC2
      obtain ⟨r, rfl⟩ := Int.eq_ofNat_of_zero_le r0
      have hr : r < n := by omega
      clear r0 r1
      as_aux_lemma =>
        go_wp2_with (fail)
        refine (next_any S (k + 302) 3 _ HS3.out (by omega) (by omega) (by omega)).mono ?_
        rintro e w4 ⟨q, rfl, q0, q1, hst, hk'⟩
        have hgz4 := Nat.lt_of_lt_of_le hgz3 hk'.size
        have HS4 := Lib.hid hst
        have HK4 := Lib.hid (HK3.out.trans hk')
        have HO4 := Lib.hid (own_keeps HO3.out hk' hSW)
        have HC4 := Lib.hid (HC3.out.keeps hk' hSW)
        clear hst hk'
        clear HS3 HK3 HO3 HC3
        obtain ⟨q, rfl⟩ := Int.eq_ofNat_of_zero_le q0
        have hrl : r < l.length := by have := HN.out; omega
        have hsz4 : w.heap.size ≤ w4.heap.size := HK4.out.size
        have HD2 := Lib.hid (HD.out r hrl)
        obtain ⟨dc1, dc2⟩ := own_caps (HC4.out.own r hrl)
        have c0 := own_field Carr.cells (fun _ => rfl) HO4.out r 0 noCarr (v := .string ⟨(l.getD r noCarr).key.toArray⟩) hrl (by omega) rfl
        have c1 := own_field Carr.cells (fun _ => rfl) HO4.out r 1 noCarr (v := .int .i64 (l.getD r noCarr).lines) hrl (by omega) rfl
        have c2 := own_field Carr.cells (fun _ => rfl) HO4.out r 2 noCarr (v := (l.getD r noCarr).dv) hrl (by omega) rfl
        have hkl := (HC4.out.few r hrl).key
        have cf := own_soft1 HO4.out
        rw [Nat.add_zero] at c0
        have hq : q = 0 ∨ q = 1 ∨ q = 2 := by omega
        clear q0 q1 hgz hgz3
        rcases hq with rfl | rfl | rfl
        · have HX : Hid (∀ (x : List UInt8) (y : Int) (W : World), x.length ≤ 100 → -2000000000000 ≤ y → y ≤ 2000000000000 → StreamOk W S (k + 306) → Keeps S w4 W → W.cell? ⟨g, r * 3, none⟩ = some (.string ⟨(l.getD r noCarr).key.toArray⟩) → CarrsPost S (k + 400) w (.returned (.slice (some ⟨g, 0, none⟩) n c)) ((W.setCell ⟨g, r * 3, none⟩ (.string ⟨x.toArray⟩)).setCell ⟨g, r * 3 + 1, none⟩ (.int .i64 y))) := fun x y W hx hy0 hy1 hst hk _ => by
            have h1 := own_put1 Carr.cells (fun _ => rfl) (own_keeps HO4.out hk hSW) r 0 noCarr ⟨x, (l.getD r noCarr).lines, (l.getD r noCarr).da, (l.getD r noCarr).dn, (l.getD r noCarr).dc, (l.getD r noCarr).decks⟩ (.string ⟨x.toArray⟩) hrl (by omega) rfl
            rw [Nat.add_zero] at h1
            have h2 := own_put1 Carr.cells (fun _ => rfl) h1 r 1 noCarr ⟨x, y, (l.getD r noCarr).da, (l.getD r noCarr).dn, (l.getD r noCarr).dc, (l.getD r noCarr).decks⟩ (.int .i64 y) (by simpa using hrl) (by omega) (by simp [hrl, Carr.cells])
            rw [List.set_set] at h2
            have hkw : Keeps S w W := HK4.out.trans hk
            refine carrs_out (k := k + 306) (l := l.set r ⟨x, y, (l.getD r noCarr).da, (l.getD r noCarr).dn, (l.getD r noCarr).dc, (l.getD r noCarr).decks⟩) ?_ (by rw [List.length_set, ← HN.out]; exact hl3) ?_ ?_ (by omega) ?_
            · rw [List.length_set, ← HN.out]; exact h2
            · refine carrs_put HC4.out hrl ?_ hx ⟨hy0, hy1⟩
              refine ((KeepsIf.of_keeps hk (fun b hb => by have := hb.1; omega)).trans (KeepsIf.set (fun b hb e => hb.2 (by rw [← e])))).trans (KeepsIf.set (fun b hb e => hb.2 (by rw [← e])))
            · exact (hst.upto ((Below.refl (S + 1) W).setCell (p := ⟨g, r * 3, none⟩) (by show S + 1 ≤ g; omega) _)).upto ((Below.refl (S + 1) _).setCell (p := ⟨g, r * 3 + 1, none⟩) (by show S + 1 ≤ g; omega) _)
            · exact (hkw.setCell_new (p := ⟨g, r * 3, none⟩) hg1 _).setCell_new (p := ⟨g, r * 3 + 1, none⟩) hg1 _
          have HC0 := Lib.hid c0
          generalize (l.getD r noCarr).key = key at c0 HC0 hkl HX
          generalize (l.getD r noCarr).lines = lines at c1
          clear c2 dc1 dc2 HD2 HC4 HO4
          as_aux_lemma =>
            go_wp2_with (first | (refine wpList_val rfl (bs_k3 _ (fun _ => rfl) _ _ 41 ⟨key.toArray⟩ _ _ rfl rfl) ?_))
            refine (some_lit S (k + 303) [key, [], [120, 97]] (fun s => s.length ≤ 100) _ _ _ HS4.out (by omega) rfl rfl (by simp) (by simp) (by intro x hx; simp only [List.mem_cons, List.not_mem_nil, or_false] at hx; rcases hx with rfl | rfl | rfl <;> first | exact hkl | decide)).mono ?_
            rintro e w5 ⟨x, rfl, hx, hst, hk'⟩
            have hx : x.length ≤ 100 := hx
            have HS5 := Lib.hid hst
            have HR5 := Lib.hid hk'
            have d0 := (hk'.cell (p := ⟨g, r * 3, none⟩) hgz4 hgS).trans c0
            have d1 := (hk'.cell (p := ⟨g, r * 3 + 1, none⟩) hgz4 hgS).trans c1
            have df : ∀ j, w5.frozen? ⟨g, j, none⟩ = false := fun j => (hk'.frozen (p := ⟨g, j, none⟩) hgz4 hgS).trans (cf j)
            have hz5 := Nat.lt_of_lt_of_le hgz4 hk'.size
            clear hst hk' c0 c1 cf HS4
            as_aux_lemma =>
              go_wp2_with fail
              refine (odd_any S (k + 303 + 1) 1 100000 _ HS5.out (by omega) (by omega) (by omega) (by omega)).mono ?_
              rintro e w6 ⟨y, rfl, ⟨y0, y1⟩, hst, hk'⟩
              have HS6 := Lib.hid hst
              have HR6 := Lib.hid (HR5.out.trans hk')
              have f0 := (hk'.cell (p := ⟨g, r * 3, none⟩) hz5 hgS).trans d0
              have f1 := (hk'.cell (p := ⟨g, r * 3 + 1, none⟩) hz5 hgS).trans d1
              have ff : ∀ j, w6.frozen? ⟨g, j, none⟩ = false := fun j => (hk'.frozen (p := ⟨g, j, none⟩) hz5 hgS).trans (df j)
              have HE : Hid (CarrsPost S (k + 400) w (.returned (.slice (some ⟨g, 0, none⟩) n c)) ((w6.setCell ⟨g, r * 3, none⟩ (.string ⟨x.toArray⟩)).setCell ⟨g, r * 3 + 1, none⟩ (.int .i64 y))) := HX.out x y w6 hx (by omega) (by omega) (HS6.out.mono (by omega)) HR6.out f0
              clear hst hk' d0 d1 df HS5 HX
              as_aux_lemma =>
                go_wp2_with fail
                go_ret
                exact HE.out
        · have HX : Hid (∀ (w7 w10 : World) (d : Deck) (o : Obj) (a12 : Option Addr) (c12 : Nat), Keeps S w4 w7 → DeckOwn w4.heap.size w7 d → StreamOk w10 S (k + 360) → w10.ownsRow w.heap.size 63 5 (.slice a12 ((l.getD r noCarr).decks.length + 1) c12) ((l.getD r noCarr).decks.length + 1) (((l.getD r noCarr).decks.map Deck.cells).flatten ++ Deck.cells d) → (w7.alloc o).grownBy w10 (l.getD r noCarr).dv.ownBlock → ((Value.slice a12 ((l.getD r noCarr).decks.length + 1) c12).ownBlock = (l.getD r noCarr).dv.ownBlock ∨ ∀ b, (Value.slice a12 ((l.getD r noCarr).decks.length + 1) c12).ownBlock = some b → w7.heap.size ≤ b) → CarrsPost S (k + 400) w (.returned (.slice (some ⟨g, 0, none⟩) n c)) (w10.setCell ⟨g, r * 3 + 2, none⟩ (.slice a12 ((l.getD r noCarr).decks.length + 1) c12))) := fun w7 w10 d o a12 c12 hk hd hst hown hgr hat => by
            have hrl2 := HC4.out.ne r hrl
            have hvg : (l.getD r noCarr).dv.ownBlock ≠ some g := fun e => hrl2 g e rfl
            have hdvb : ∀ b, (l.getD r noCarr).dv.ownBlock = some b → w.heap.size ≤ b := fun b e => ((HC4.out.own r hrl).lt b e).1
            have hO10 : w10.ownsRow w.heap.size 72 3 (.slice (some ⟨g, 0, none⟩) n c) n ((l.map Carr.cells).flatten) := own_if (p := fun b => b = g) ((own_keeps HO4.out hk hSW).alloc o) (KeepsIf.grown hgr (fun b hb => by rw [hb]; exact hvg)) (fun b e => (Option.some.inj e).symm)
            have h2 := own_put1 Carr.cells (fun _ => rfl) hO10 r 2 noCarr (moreDecks (l.getD r noCarr) a12 ((l.getD r noCarr).decks.length + 1) c12 d) (.slice a12 ((l.getD r noCarr).decks.length + 1) c12) hrl (by omega) rfl
            refine carrs_out (k := k + 360) (l := l.set r (moreDecks (l.getD r noCarr) a12 ((l.getD r noCarr).decks.length + 1) c12 d)) ?_ (by rw [List.length_set, ← HN.out]; exact hl3) ?_ ?_ (by omega) ?_
            · rw [List.length_set, ← HN.out]; exact h2
            · exact carrs_append HC4.out hrl hk hSW hgz4 hsz4 hd rfl (by rw [dcells_snoc]; exact hown) hgr hat HD2.out _ _
            · exact hst.upto ((Below.refl (S + 1) _).setCell (p := ⟨g, r * 3 + 2, none⟩) (by show S + 1 ≤ g; omega) _)
            · exact ((HK4.out.trans hk).grown hgr hdvb).setCell_new (p := ⟨g, r * 3 + 2, none⟩) hg1 _
          have HOD := Lib.hid (HC4.out.own r hrl)
          have HVN : Hid ((l.getD r noCarr).dv.ownBlock ≠ some g) := fun e => HC4.out.ne r hrl g e rfl
          clear c0 c1 hkl HC4 HO4 hn0
          have hdl := HD2.out
          unfold Carr.dv at c2 HOD HX HVN
          rw [dc1] at c2 HOD HX HVN
          generalize l.getD r noCarr = cc at *
          obtain ⟨key, lines, da, dn, dc, decks⟩ := cc
          simp only at *
          clear dc1
          as_aux_lemma =>
            go_upto_region 9 with (fail)
            have hS0 : (fun W : World => W.cell? ⟨g, r * 3 + 2, none⟩ = some (.slice da decks.length dc)) w4.drew := c2
            have HSd : Hid (StreamOk w4.drew S (k + 303)) := HS4.out.below (by exact ext_drew (Below.refl _ _))
            have hkd : Keeps S w4 w4.drew := Keeps.of_below (by exact ext_drew (Below.refl _ _))
            refine region_lastI (S := fun W : World => W.cell? ⟨g, r * 3 + 2, none⟩ = some (.slice da decks.length dc)) [(true, 0), (true, 1), (true, 2), (true, 3), (true, 4), (true, 5), (false, 6), (false, 7), (false, 8), (true, 9), (true, 10)] (by kernel_rfl) rfl rfl (by kernel_rfl) (by kernel_rfl) rfl (by kernel_rfl) hS0 ?_
            simp only [seqOps, List.dropLast, List.getD_cons_zero, List.getD_cons_succ]
            refine seqI_take (v := .pointer (some ⟨g, r * 3, none⟩)) rfl (fun W hW => by clear hW; go_simp) (fun _ _ _ h => h) ?_
            simp only [Act.put, List.setIfInBounds_toArray, List.set_cons_zero, List.set_cons_succ]
            refine seqI_take (v := .pointer (some ⟨g, r * 3, none⟩)) rfl (fun W hW => by clear hW; go_simp) (fun _ _ _ h => h) ?_
            simp only [Act.put, List.setIfInBounds_toArray, List.set_cons_zero, List.set_cons_succ]
            refine seqI_take (v := .pointer (some ⟨g, r * 3, none⟩)) rfl (fun W hW => by clear hW; go_simp) (fun _ _ _ h => h) ?_
            simp only [Act.put, List.setIfInBounds_toArray, List.set_cons_zero, List.set_cons_succ]
            refine seqI_take (v := .pointer (some ⟨g, r * 3 + 2, none⟩)) rfl (fun W hW => by clear hW; go_simp) (fun _ _ _ h => h) ?_
            simp only [Act.put, List.setIfInBounds_toArray, List.set_cons_zero, List.set_cons_succ]
            refine seqI_take (v := .slice da decks.length dc) rfl (fun W hW => by go_simp) (fun _ _ _ h => h) ?_
            simp only [Act.put, List.setIfInBounds_toArray, List.set_cons_zero, List.set_cons_succ]
            refine seqI_take (v := .pointer (some ⟨S, 0, none⟩)) rfl (fun W hW => by clear hW; go_simp) (fun _ _ _ h => h) ?_
            simp only [Act.put, List.setIfInBounds_toArray, List.set_cons_zero, List.set_cons_succ]
            refine seqI_call 52 #[.pointer (some ⟨S, 0, none⟩), .int .i64 0] rfl (by go_simp) ((rightDeck_any S (k + 303) w4.drew HSd.out (by omega) 0 ⟨by omega, by omega⟩).mono (fun e w7 ⟨d, h1, h2, h3, h4, h5⟩ => ⟨d, h1, h2, h4.mono (show k + 303 + 43 ≤ k + 353 by omega), h5⟩ : ∀ e w7, RDeckPost S (k + 303 + 43) w4.drew e w7 → DeckPost S (k + 353) w4.drew e w7)) ?_
            rintro e w7 ⟨d, rfl, hown, hst, hk7⟩
            obtain ⟨df, ds, dl, dt, ra, rn, rc, rates⟩ := d
            have HDO : Hid (DeckOwn w4.heap.size w7 ⟨df, ds, dl, dt, ra, rn, rc, rates⟩) := hown
            have hk' : Keeps S w4 w7 := hkd.trans hk7
            have HS7 := Lib.hid hst
            have HO7 := Lib.hid (own_keeps HOD.out hk' hSW)
            have HR7 := Lib.hid hk'
            have f2 := (hk'.cell (p := ⟨g, r * 3 + 2, none⟩) hgz4 hgS).trans c2
            have ff : ∀ j, w7.frozen? ⟨g, j, none⟩ = false := fun j => (hk'.frozen (p := ⟨g, j, none⟩) hgz4 hgS).trans (cf j)
            have hz7 := Nat.lt_of_lt_of_le hgz4 hk'.size
            have hvl : ∀ b, (Value.slice da decks.length dc).ownBlock = some b → w.heap.size ≤ b := fun b e => (HOD.out.lt b e).1
            refine ⟨_, rfl, f2, ?_⟩
            simp only [Act.put, List.setIfInBounds_toArray, List.set_cons_zero, List.set_cons_succ]
            dsimp only [Deck.cells]
            clear hown hst hk7 hk' hkd HSd HOD c2 cf
            have f28 : (w7.alloc (.cells #[.int .i64 df, .int .i64 ds, .int .i64 dl, .int .i64 dt, .slice ra rn rc] 63)).cell? ⟨g, r * 3 + 2, none⟩ = some (.slice da decks.length dc) := by go_simp
            have HO8 := Lib.hid (own_keeps HO7.out ((Keeps.refl S w7).alloc (.cells #[.int .i64 df, .int .i64 ds, .int .i64 dl, .int .i64 dt, .slice ra rn rc] 63)) hSW)
            refine seqI_do rfl (wp_val (bs_d1 _ _ _ 58 df ds dl dt ra rn rc rfl rfl) ⟨f28, ?_⟩)
            simp only [Act.put, List.setIfInBounds_toArray, List.set_cons_zero, List.set_cons_succ]
            refine seqI_do rfl (wp_append_own_at (.tmp 56) (.tmp 59) 70 rfl w.heap.size 63 i1 _ 5 56 Tryz.underlying70 hi1 hy0 hy1 hy2 rfl (by omega) (.slice da decks.length dc) decks.length _ rfl HO8.out ⟨w7.heap.size, 0, none⟩ 1 1 [.int .i64 df, .int .i64 ds, .int .i64 dl, .int .i64 dt, .slice ra rn rc] rfl rfl (fun j u hj => by rw [add0]; match j, hj with | 0, hj => simp at hj; subst hj; go_simp | 1, hj => simp at hj; subst hj; go_simp | 2, hj => simp at hj; subst hj; go_simp | 3, hj => simp at hj; subst hj; go_simp | 4, hj => simp at hj; subst hj; go_simp) (by simp [Value.oneCell']) (by simp only [maxLen]; omega) (by omega) (by simp; have := HK4.out.size; have := HR7.out.size; omega) ?_)
            intro v10 w10 hown10 hgr10 hat10
            obtain ⟨da2, dc2, rfl⟩ := own_shape hown10
            have hbk := hgr10.block g (by simp; omega) (fun e => HVN.out e.symm)
            have g2 : w10.cell? ⟨g, r * 3 + 2, none⟩ = some (.slice da decks.length dc) := (World.cell?_of_block (a := ⟨g, r * 3 + 2, none⟩) hbk).trans f28
            have gf : ∀ j, w10.frozen? ⟨g, j, none⟩ = false := fun j => (World.frozen?_of_block (a := ⟨g, j, none⟩) hbk).trans (by go_simp)
            have HS10 : Hid (StreamOk w10 S (k + 360)) := (HS7.out.mono (by omega)).upto (upto_grown hgr10 (by have := HK4.out.size; have := HR7.out.size; omega) (fun b e => by have := hvl b e; omega))
            have HE := Lib.hid (HX.out w7 w10 ⟨df, ds, dl, dt, ra, rn, rc, rates⟩ _ da2 dc2 HR7.out HDO.out HS10.out hown10 hgr10 (by
              rcases hat10 with h | h
              · exact Or.inl h
              · exact Or.inr (fun b e => by rw [h] at e; injection e with e; simp at e; omega)))
            refine ⟨g2, ?_⟩
            simp only [Act.put, List.setIfInBounds_toArray, List.set_cons_zero, List.set_cons_succ]
            clear hown10 hgr10 hat10 hbk HX HS10 HO8 HO7 HS7 HDO f28 f2 ff
            refine seqI_take (v := .pointer (some ⟨g, r * 3, none⟩)) rfl (fun W hW => by clear hW; go_simp) (fun _ _ _ h => h) ?_
            simp only [Act.put, List.setIfInBounds_toArray, List.set_cons_zero, List.set_cons_succ]
            refine seqI_take (v := .pointer (some ⟨g, r * 3 + 2, none⟩)) rfl (fun W hW => by clear hW; go_simp) (fun _ _ _ h => h) ?_
            simp only [Act.put, List.setIfInBounds_toArray, List.set_cons_zero, List.set_cons_succ]
            refine seqI_nil (Or.inl ?_)
            show Oper.wp _ (⟨none, .store 70 (.tmp 62) (.tmp 60), _, _, _, none⟩ : Oper) _ _ _ _
            refine wp_skip (w' := w10.setCell ⟨g, r * 3 + 2, none⟩ (.slice da2 (decks.length + 1) dc2)) (by go_simp) ?_
            simp only [Act.put]
            clear g2 gf
            generalize w10.setCell ⟨g, r * 3 + 2, none⟩ (.slice da2 (decks.length + 1) dc2) = wA at HE ⊢
            as_aux_lemma =>
              go_wp2_with fail
              go_ret
              exact HE.out
        · have HX : Hid (∀ (w7 w10 : World) (d : Deck) (o : Obj) (a12 : Option Addr) (c12 : Nat), Keeps S w4 w7 → DeckOwn w4.heap.size w7 d → StreamOk w10 S (k + 360) → w10.ownsRow w.heap.size 63 5 (.slice a12 ((l.getD r noCarr).decks.length + 1) c12) ((l.getD r noCarr).decks.length + 1) (((l.getD r noCarr).decks.map Deck.cells).flatten ++ Deck.cells d) → (w7.alloc o).grownBy w10 (l.getD r noCarr).dv.ownBlock → ((Value.slice a12 ((l.getD r noCarr).decks.length + 1) c12).ownBlock = (l.getD r noCarr).dv.ownBlock ∨ ∀ b, (Value.slice a12 ((l.getD r noCarr).decks.length + 1) c12).ownBlock = some b → w7.heap.size ≤ b) → CarrsPost S (k + 400) w (.returned (.slice (some ⟨g, 0, none⟩) n c)) (w10.setCell ⟨g, r * 3 + 2, none⟩ (.slice a12 ((l.getD r noCarr).decks.length + 1) c12))) := fun w7 w10 d o a12 c12 hk hd hst hown hgr hat => by
            have hrl2 := HC4.out.ne r hrl
            have hvg : (l.getD r noCarr).dv.ownBlock ≠ some g := fun e => hrl2 g e rfl
            have hdvb : ∀ b, (l.getD r noCarr).dv.ownBlock = some b → w.heap.size ≤ b := fun b e => ((HC4.out.own r hrl).lt b e).1
            have hO10 : w10.ownsRow w.heap.size 72 3 (.slice (some ⟨g, 0, none⟩) n c) n ((l.map Carr.cells).flatten) := own_if (p := fun b => b = g) ((own_keeps HO4.out hk hSW).alloc o) (KeepsIf.grown hgr (fun b hb => by rw [hb]; exact hvg)) (fun b e => (Option.some.inj e).symm)
            have h2 := own_put1 Carr.cells (fun _ => rfl) hO10 r 2 noCarr (moreDecks (l.getD r noCarr) a12 ((l.getD r noCarr).decks.length + 1) c12 d) (.slice a12 ((l.getD r noCarr).decks.length + 1) c12) hrl (by omega) rfl
            refine carrs_out (k := k + 360) (l := l.set r (moreDecks (l.getD r noCarr) a12 ((l.getD r noCarr).decks.length + 1) c12 d)) ?_ (by rw [List.length_set, ← HN.out]; exact hl3) ?_ ?_ (by omega) ?_
            · rw [List.length_set, ← HN.out]; exact h2
            · exact carrs_append HC4.out hrl hk hSW hgz4 hsz4 hd rfl (by rw [dcells_snoc]; exact hown) hgr hat HD2.out _ _
            · exact hst.upto ((Below.refl (S + 1) _).setCell (p := ⟨g, r * 3 + 2, none⟩) (by show S + 1 ≤ g; omega) _)
            · exact ((HK4.out.trans hk).grown hgr hdvb).setCell_new (p := ⟨g, r * 3 + 2, none⟩) hg1 _
          have HOD := Lib.hid (HC4.out.own r hrl)
          have HVN : Hid ((l.getD r noCarr).dv.ownBlock ≠ some g) := fun e => HC4.out.ne r hrl g e rfl
          clear c0 c1 hkl HC4 HO4 hn0
          have hdl := HD2.out
          unfold Carr.dv at c2 HOD HX HVN
          rw [dc1] at c2 HOD HX HVN
          generalize l.getD r noCarr = cc at *
          obtain ⟨key, lines, da, dn, dc, decks⟩ := cc
          simp only at *
          clear dc1
          as_aux_lemma =>
            go_upto_region 5 with (fail)
            have hS0 : (fun W : World => W.cell? ⟨g, r * 3 + 2, none⟩ = some (.slice da decks.length dc)) w4.drew := c2
            have HSd : Hid (StreamOk w4.drew S (k + 303)) := HS4.out.below (by exact ext_drew (Below.refl _ _))
            have hkd : Keeps S w4 w4.drew := Keeps.of_below (by exact ext_drew (Below.refl _ _))
            refine region_lastI (S := fun W : World => W.cell? ⟨g, r * 3 + 2, none⟩ = some (.slice da decks.length dc)) [(true, 0), (true, 1), (true, 2), (true, 3), (true, 4), (true, 5), (false, 6), (false, 7), (false, 8), (true, 9), (true, 10)] (by kernel_rfl) rfl rfl (by kernel_rfl) (by kernel_rfl) rfl (by kernel_rfl) hS0 ?_
            simp only [seqOps, List.dropLast, List.getD_cons_zero, List.getD_cons_succ]
            refine seqI_take (v := .pointer (some ⟨g, r * 3, none⟩)) rfl (fun W hW => by clear hW; go_simp) (fun _ _ _ h => h) ?_
            simp only [Act.put, List.setIfInBounds_toArray, List.set_cons_zero, List.set_cons_succ]
            refine seqI_take (v := .pointer (some ⟨g, r * 3, none⟩)) rfl (fun W hW => by clear hW; go_simp) (fun _ _ _ h => h) ?_
            simp only [Act.put, List.setIfInBounds_toArray, List.set_cons_zero, List.set_cons_succ]
            refine seqI_take (v := .pointer (some ⟨g, r * 3, none⟩)) rfl (fun W hW => by clear hW; go_simp) (fun _ _ _ h => h) ?_
            simp only [Act.put, List.setIfInBounds_toArray, List.set_cons_zero, List.set_cons_succ]
            refine seqI_take (v := .pointer (some ⟨g, r * 3 + 2, none⟩)) rfl (fun W hW => by clear hW; go_simp) (fun _ _ _ h => h) ?_
            simp only [Act.put, List.setIfInBounds_toArray, List.set_cons_zero, List.set_cons_succ]
            refine seqI_take (v := .slice da decks.length dc) rfl (fun W hW => by go_simp) (fun _ _ _ h => h) ?_
            simp only [Act.put, List.setIfInBounds_toArray, List.set_cons_zero, List.set_cons_succ]
            refine seqI_take (v := .pointer (some ⟨S, 0, none⟩)) rfl (fun W hW => by clear hW; go_simp) (fun _ _ _ h => h) ?_
            simp only [Act.put, List.setIfInBounds_toArray, List.set_cons_zero, List.set_cons_succ]
            refine seqI_call 53 #[.pointer (some ⟨S, 0, none⟩)] rfl (by go_simp) ((deck_any S (k + 303) w4.drew HSd.out (by omega)).mono (fun e w7 ⟨d, h1, h2, h4, h5⟩ => ⟨d, h1, h2, h4.mono (show k + 303 + 50 ≤ k + 353 by omega), h5⟩ : ∀ e w7, DeckPost S (k + 303 + 50) w4.drew e w7 → DeckPost S (k + 353) w4.drew e w7)) ?_
            rintro e w7 ⟨d, rfl, hown, hst, hk7⟩
            obtain ⟨df, ds, dl, dt, ra, rn, rc, rates⟩ := d
            have HDO : Hid (DeckOwn w4.heap.size w7 ⟨df, ds, dl, dt, ra, rn, rc, rates⟩) := hown
            have hk' : Keeps S w4 w7 := hkd.trans hk7
            have HS7 := Lib.hid hst
            have HO7 := Lib.hid (own_keeps HOD.out hk' hSW)
            have HR7 := Lib.hid hk'
            have f2 := (hk'.cell (p := ⟨g, r * 3 + 2, none⟩) hgz4 hgS).trans c2
            have ff : ∀ j, w7.frozen? ⟨g, j, none⟩ = false := fun j => (hk'.frozen (p := ⟨g, j, none⟩) hgz4 hgS).trans (cf j)
            have hz7 := Nat.lt_of_lt_of_le hgz4 hk'.size
            have hvl : ∀ b, (Value.slice da decks.length dc).ownBlock = some b → w.heap.size ≤ b := fun b e => (HOD.out.lt b e).1
            refine ⟨_, rfl, f2, ?_⟩
            simp only [Act.put, List.setIfInBounds_toArray, List.set_cons_zero, List.set_cons_succ]
            dsimp only [Deck.cells]
            clear hown hst hk7 hk' hkd HSd HOD c2 cf
            have f28 : (w7.alloc (.cells #[.int .i64 df, .int .i64 ds, .int .i64 dl, .int .i64 dt, .slice ra rn rc] 63)).cell? ⟨g, r * 3 + 2, none⟩ = some (.slice da decks.length dc) := by go_simp
            have HO8 := Lib.hid (own_keeps HO7.out ((Keeps.refl S w7).alloc (.cells #[.int .i64 df, .int .i64 ds, .int .i64 dl, .int .i64 dt, .slice ra rn rc] 63)) hSW)
            refine seqI_do rfl (wp_val (bs_d1 _ _ _ 28 df ds dl dt ra rn rc rfl rfl) ⟨f28, ?_⟩)
            simp only [Act.put, List.setIfInBounds_toArray, List.set_cons_zero, List.set_cons_succ]
            refine seqI_do rfl (wp_append_own_at (.tmp 26) (.tmp 29) 70 rfl w.heap.size 63 i1 _ 5 56 Tryz.underlying70 hi1 hy0 hy1 hy2 rfl (by omega) (.slice da decks.length dc) decks.length _ rfl HO8.out ⟨w7.heap.size, 0, none⟩ 1 1 [.int .i64 df, .int .i64 ds, .int .i64 dl, .int .i64 dt, .slice ra rn rc] rfl rfl (fun j u hj => by rw [add0]; match j, hj with | 0, hj => simp at hj; subst hj; go_simp | 1, hj => simp at hj; subst hj; go_simp | 2, hj => simp at hj; subst hj; go_simp | 3, hj => simp at hj; subst hj; go_simp | 4, hj => simp at hj; subst hj; go_simp) (by simp [Value.oneCell']) (by simp only [maxLen]; omega) (by omega) (by simp; have := HK4.out.size; have := HR7.out.size; omega) ?_)
            intro v10 w10 hown10 hgr10 hat10
            obtain ⟨da2, dc2, rfl⟩ := own_shape hown10
            have hbk := hgr10.block g (by simp; omega) (fun e => HVN.out e.symm)
            have g2 : w10.cell? ⟨g, r * 3 + 2, none⟩ = some (.slice da decks.length dc) := (World.cell?_of_block (a := ⟨g, r * 3 + 2, none⟩) hbk).trans f28
            have gf : ∀ j, w10.frozen? ⟨g, j, none⟩ = false := fun j => (World.frozen?_of_block (a := ⟨g, j, none⟩) hbk).trans (by go_simp)
            have HS10 : Hid (StreamOk w10 S (k + 360)) := (HS7.out.mono (by omega)).upto (upto_grown hgr10 (by have := HK4.out.size; have := HR7.out.size; omega) (fun b e => by have := hvl b e; omega))
            have HE := Lib.hid (HX.out w7 w10 ⟨df, ds, dl, dt, ra, rn, rc, rates⟩ _ da2 dc2 HR7.out HDO.out HS10.out hown10 hgr10 (by
              rcases hat10 with h | h
              · exact Or.inl h
              · exact Or.inr (fun b e => by rw [h] at e; injection e with e; simp at e; omega)))
            refine ⟨g2, ?_⟩
            simp only [Act.put, List.setIfInBounds_toArray, List.set_cons_zero, List.set_cons_succ]
            clear hown10 hgr10 hat10 hbk HX HS10 HO8 HO7 HS7 HDO f28 f2 ff
            refine seqI_take (v := .pointer (some ⟨g, r * 3, none⟩)) rfl (fun W hW => by clear hW; go_simp) (fun _ _ _ h => h) ?_
            simp only [Act.put, List.setIfInBounds_toArray, List.set_cons_zero, List.set_cons_succ]
            refine seqI_take (v := .pointer (some ⟨g, r * 3 + 2, none⟩)) rfl (fun W hW => by clear hW; go_simp) (fun _ _ _ h => h) ?_
            simp only [Act.put, List.setIfInBounds_toArray, List.set_cons_zero, List.set_cons_succ]
            refine seqI_nil (Or.inl ?_)
            show Oper.wp _ (⟨none, .store 70 (.tmp 32) (.tmp 30), _, _, _, none⟩ : Oper) _ _ _ _
            refine wp_skip (w' := w10.setCell ⟨g, r * 3 + 2, none⟩ (.slice da2 (decks.length + 1) dc2)) (by go_simp) ?_
            simp only [Act.put]
            clear g2 gf
            generalize w10.setCell ⟨g, r * 3 + 2, none⟩ (.slice da2 (decks.length + 1) dc2) = wA at HE ⊢
            as_aux_lemma =>
              go_wp2_with fail
              go_ret
              exact HE.out
end Go.Proofs.YtppinnjdaoaddaaGreatDoor

set_option linter.unusedVariables false
set_option linter.unusedSimpArgs false
namespace Go.Proofs.YtppinnjdaoaddaaGreatDoor
open Go.RowKit Go.Shelf

attribute [local go_sem] Oper.semAt_some

/-- The last of the first decks that holds at a moment. -/
def lastD (ds : List Deck) (t : Int) : Nat → Option Deck
  | 0 => none
  | k + 1 => if (ds.getD k noDeck).from_ ≤ t then some (ds.getD k noDeck) else lastD ds t k
def deckV (ds : List Deck) (t : Int) : Option Deck := lastD ds t ds.length
/-- What comes off the back: decks m - 1, m - 2, .. with their places. -/
def dbacks (ps : List Deck) (m k : Nat) : List (Int × Deck) := (List.range k).map fun (j : Nat) => ((m : Int) - 1 - (j : Int), ps.getD (m - 1 - j) noDeck)
theorem dbacks_succ (ps : List Deck) (m k : Nat) : dbacks ps m (k + 1) = dbacks ps m k ++ [((m : Int) - 1 - k, ps.getD (m - 1 - k) noDeck)] := by simp [dbacks, List.range_succ]
theorem dbacks_len (ps : List Deck) (m k : Nat) : (dbacks ps m k).length = k := by simp [dbacks]

set_option maxRecDepth 100000 in
set_option maxHeartbeats 2000000 in
theorem dback1_in (n : Nat) (hn : 1 ≤ n) (l Bs n₀ : Nat) (a : Option Addr) (m cap : Nat) (ps : List Deck) (hcap : m ≤ cap) (J Jx : List (Int × Deck) → World → Prop)
    (hY : ∀ pre x W, J pre W → pre.length < m → YieldAt Fence.wide (n - 1) Tryz.prog l #[.int .i64 x.1, .agg (Deck.cells x.2).toArray] W fun e W' =>
      (e = .returned (.bool true) ∧ J (pre ++ [x]) W' ∧ Below n₀ W W') ∨ (e = .returned (.bool false) ∧ Jx (pre ++ [x]) W'))
    (W : World) (hn0 : n₀ ≤ W.heap.size) (hBs : Bs < n₀) (hB0 : W.cell? ⟨Bs, 0, none⟩ = some (.slice a m cap)) (hp : ∀ w', Below n₀ W w' → DeckRow w' a m ps) (hb : ∀ b off, a = some ⟨b, off, none⟩ → 0 < m → b < n₀) (h0 : J [] W) :
    CallsIn Fence.wide n Tryz.prog 133 #[.func (.yield l) #[] #[], .pointer (some ⟨Bs, 0, none⟩)] W fun e W' => (∃ v, e = .returned v) ∧
      (J (dbacks ps m m) W' ∨ (∃ k, k ≤ m ∧ Jx (dbacks ps m k) W')) := by
  have hfew := (hp W (Below.refl _ _)).few
  refine callsIn_of_wp Tryz.func133 rfl trivial ?_ rfl
  simp only [Tryz.ntmps133, List.size_toArray, List.length_cons, List.length_nil, Nat.reduceAdd, Nat.reduceSub, Array.replicate_succ, Array.replicate_zero, List.push_toArray, List.append_toArray, List.nil_append, List.cons_append]
  gi_wp2
  gi_loopw [3] (fun i wr => ∃ k : Nat, k ≤ m ∧ i = .int .i64 ((m : Int) - 1 - k) ∧ J (dbacks ps m k) wr ∧ Below n₀ W wr)
    (fun i _ => ((intOf i) + 1).toNat)
  case atStart => exact ⟨0, Nat.zero_le _, by go_num, h0, Below.refl _ _⟩
  case round =>
    obtain ⟨k, hk, rfl, hJs, hnx⟩ := hrel
    have hcS : wr.cell? ⟨Bs, 0, none⟩ = some (.slice a m cap) := (hnx.cell (p := ⟨Bs, 0, none⟩) hBs).trans hB0
    by_cases hlt : k < m
    · obtain ⟨b, off, rfl, hbl, hc⟩ := (hp wr hnx).at (by omega)
      obtain ⟨e0, e1, e2, e3, e4⟩ := hc (m - 1 - k) (by omega)
      obtain ⟨fn, tmps, assign, body, hy, hR⟩ := hY _ ((m : Int) - 1 - k, ps.getD (m - 1 - k) noDeck) wr hJs (by rw [dbacks_len]; exact hlt)
      have hge : (0 : Int) ≤ (m : Int) - 1 - k := by omega
      have hidx : ((m : Int) - 1 - k).toNat = m - 1 - k := by omega
      have hlm : (m : Int) - 1 - k < m := by omega
      have hsub : IntKind.i64.wrap ((m : Int) - 1 - k - 1) = (m : Int) - 1 - k - 1 := IntWalk.i64_in _ (by omega)
      generalize hpx : ps.getD (m - 1 - k) noDeck = p at e0 e1 e2 e3 e4 hy hR
      have HPX := Lib.hid hpx
      clear hpx hc
      obtain ⟨df, ds, dl, dp, ra, rn, rc, rates⟩ := p
      dsimp only [Deck.cells] at e0 e1 e2 e3 e4 hy hR
      gi_wp2
      refine hR.mono ?_
      rintro e W3 (⟨rfl, hJ3, hk3⟩ | ⟨rfl, hJx3⟩)
      · gi_wp2
        go_roundw
        case rel => exact ⟨k + 1, by omega, by go_num, by rw [dbacks_succ, HPX.out]; exact hJ3, hnx.trans hk3⟩
        case measure => simp [intOf]; omega
      · gi_wp2
        refine bodyPost_ret (results_none rfl _ _ _) rfl ?_
        exact ⟨⟨_, rfl⟩, .inr ⟨k + 1, by omega, by rw [dbacks_succ, HPX.out]; exact hJx3⟩⟩
    · obtain rfl : k = m := by omega
      gi_wp2
      go_end0
      exact ⟨⟨_, rfl⟩, .inl hJs⟩

set_option maxHeartbeats 1000000 in
theorem dback_in (n : Nat) (a : Option Addr) (m cap : Nat) (w : World) :
    CallsIn Fence.wide n Tryz.prog 100 #[.slice a m cap] w fun e w' => e = .returned (.func (.func 133) #[] #[.pointer (some ⟨w.heap.size, 0, none⟩)]) ∧ w' = w.alloc (.cells #[.slice a m cap] 70) := by
  refine callsIn_of_wp Tryz.func100 rfl trivial ?_ rfl
  simp only [Tryz.ntmps100, List.size_toArray, List.length_cons, List.length_nil, Nat.reduceAdd, Nat.reduceSub, Array.replicate_succ, Array.replicate_zero, List.push_toArray, List.append_toArray, List.nil_append, List.cons_append]
  gi_wp2
  go_ret
  exact ⟨rfl, rfl⟩
theorem dback_stops (n : Nat) (hn : 1 ≤ n) (Bs : Nat) (a : Option Addr) (m cap : Nat) (ps : List Deck) (hcap : m ≤ cap) (w : World) (hBs : Bs < w.heap.size) (hB0 : w.cell? ⟨Bs, 0, none⟩ = some (.slice a m cap)) (hp : DeckRow w a m ps) :
    SeqStopsK Fence.wide n Tryz.prog 133 #[.pointer (some ⟨Bs, 0, none⟩)] (fun x : Int × Deck => #[.int .i64 x.1, .agg (Deck.cells x.2).toArray]) (Below w.heap.size) (fun ys => ys = dbacks ps m m) (fun pre => ∃ k, k ≤ m ∧ pre = dbacks ps m k) m w := fun l J Jx W hW _ _ hY h0 => by
  refine (dback1_in n hn l Bs w.heap.size a m cap ps hcap J Jx hY W hW.size hBs ((hW.cell (p := ⟨Bs, 0, none⟩) hBs).trans hB0) (fun w' h => hp.below (hW.trans h)) (fun b off ha hm => ?_) h0).mono ?_
  · obtain ⟨b', off', h1, h2, -⟩ := hp.at hm
    rw [ha] at h1
    cases h1
    exact h2
  · rintro e W' ⟨hv, h | ⟨k, hk, h⟩⟩
    · exact ⟨hv, .inl ⟨_, rfl, h⟩⟩
    · exact ⟨hv, .inr ⟨_, ⟨k, hk, rfl⟩, h⟩⟩


theorem lastD_less (ps : List Deck) (t : Int) (m : Nat) : ∀ k, k ≤ m → (∀ p ∈ dbacks ps m k, ¬ p.2.from_ ≤ t) → lastD ps t m = lastD ps t (m - k)
  | 0, _, _ => rfl
  | k + 1, hk, h => by
    rw [lastD_less ps t m k (by omega) (fun p hp => h p (by rw [dbacks_succ]; exact List.mem_append_left _ hp))]
    have h1 := h _ (by rw [dbacks_succ]; exact List.mem_append_right _ (List.mem_singleton.2 rfl))
    rw [show m - k = (m - (k + 1)) + 1 by omega, lastD, if_neg]
    rw [show m - 1 - k = m - (k + 1) by omega] at h1
    exact h1
theorem deck_back {ps : List Deck} {t : Int} {k : Nat} (hk : k < ps.length) (h : ∀ p ∈ dbacks ps ps.length k, ¬ p.2.from_ ≤ t) (h1 : (ps.getD (ps.length - 1 - k) noDeck).from_ ≤ t) : deckV ps t = some (ps.getD (ps.length - 1 - k) noDeck) := by
  unfold deckV
  rw [lastD_less ps t ps.length k (by omega) h, show ps.length - k = (ps.length - 1 - k) + 1 by omega, lastD, if_pos h1]
theorem deck_none {ps : List Deck} {t : Int} (h : ∀ p ∈ dbacks ps ps.length ps.length, ¬ p.2.from_ ≤ t) : deckV ps t = none := by
  unfold deckV
  rw [lastD_less ps t ps.length ps.length (Nat.le_refl _) h, Nat.sub_self]
  rfl
/-- A deck, or none, with whether it is there. -/
def DeckAns (o : Option Deck) (w : World) (e : Ending) (w' : World) : Prop := e = .returned (.tuple #[.agg #[.int .i64 (o.getD noDeck).from_, .int .i64 (o.getD noDeck).setup, .int .i64 (o.getD noDeck).least, .int .i64 (o.getD noDeck).step, .slice (o.getD noDeck).ra (o.getD noDeck).rn (o.getD noDeck).rc], .bool o.isSome]) ∧ Below w.heap.size w w'
theorem Blk.ownB {A B : World} {G : Nat} {cs : List Value} {ty : TypeId} {row : Option Nat} (h : Blk A G cs ty) (hg : A.grownBy B row) (hr : ∀ r, row = some r → ∃ o : Obj, A.heap[r]? = some o ∧ o.isCells = false) : Blk B G cs ty := h.grown hg (fun e => by
  obtain ⟨o, h1, h2⟩ := hr _ e
  rw [h.at_] at h1
  injection h1 with h1
  subst h1
  cases h2)
/-- The boxes of the call: the moment, the two results. -/
structure DBoxes (G : Nat) (t : Int) (d : Deck) (b : Bool) (W : World) : Prop where
  b1 : Blk W (G + 1) [.int .i64 t] 3
  b2 : Blk W (G + 1 + 1) (Deck.cells d) 63
  b3 : Blk W (G + 1 + 1 + 1) [.bool b] 4
theorem DBoxes.below {G : Nat} {t : Int} {d : Deck} {b : Bool} {W W' : World} (h : DBoxes G t d b W) (hb : Below W.heap.size W W') : DBoxes G t d b W' := ⟨h.b1.below hb, h.b2.below hb, h.b3.below hb⟩
theorem DBoxes.own {G : Nat} {t : Int} {d : Deck} {b : Bool} {A B : World} {row : Option Nat} (h : DBoxes G t d b A) (hg : A.grownBy B row) (hr : ∀ r, row = some r → ∃ o : Obj, A.heap[r]? = some o ∧ o.isCells = false) : DBoxes G t d b B := ⟨h.b1.ownB hg hr, h.b2.ownB hg hr, h.b3.ownB hg hr⟩
theorem DBoxes.store {G : Nat} {t : Int} {d : Deck} {b : Bool} {W : World} (h : DBoxes G t d b W) (df ds dl dp : Int) (ra : Option Addr) (rn rc : Nat) (rates : List Rate) (b' : Bool) :
    DBoxes G t ⟨df, ds, dl, dp, ra, rn, rc, rates⟩ b' ((((((W.setCell ⟨G + 1 + 1, 0, none⟩ (.int .i64 df)).setCell ⟨G + 1 + 1, 1, none⟩ (.int .i64 ds)).setCell ⟨G + 1 + 1, 2, none⟩ (.int .i64 dl)).setCell ⟨G + 1 + 1, 3, none⟩ (.int .i64 dp)).setCell ⟨G + 1 + 1, 4, none⟩ (.slice ra rn rc)).setCell ⟨G + 1 + 1 + 1, 0, none⟩ (.bool b')) := by
  have n1 : ∀ i, (⟨G + 1 + 1, i, none⟩ : Addr).block ≠ G + 1 := fun i => by show G + 1 + 1 ≠ G + 1; omega
  have n2 : ∀ i, (⟨G + 1 + 1, i, none⟩ : Addr).block ≠ G + 1 + 1 + 1 := fun i => by show G + 1 + 1 ≠ G + 1 + 1 + 1; omega
  refine ⟨?_, ?_, ?_⟩
  · exact ((((((h.b1.far (n1 _)).far (n1 _)).far (n1 _)).far (n1 _)).far (n1 _)).far (by show G + 1 + 1 + 1 ≠ G + 1; omega))
  · exact ((((((h.b2.put 0 _).put 1 _).put 2 _).put 3 _).put 4 _).far (by show G + 1 + 1 + 1 ≠ G + 1 + 1; omega))
  · exact ((((((h.b3.far (n2 _)).far (n2 _)).far (n2 _)).far (n2 _)).far (n2 _)).put 0 _)
theorem DBoxes.lt {G : Nat} {t : Int} {d : Deck} {b : Bool} {W : World} (h : DBoxes G t d b W) : G + 3 < W.heap.size := h.b3.lt
theorem deckAt_results (W : World) (tmps : Array Value) (G H : Nat) (f0 s0 l0 p0 : Int) (ra : Option Addr) (rn rc : Nat) (b : Bool) (h4 : tmps.getD 4 undef = .pointer (some ⟨G, 0, none⟩)) (h5 : tmps.getD 5 undef = .pointer (some ⟨H, 0, none⟩)) (h2 : Blk W G [.int .i64 f0, .int .i64 s0, .int .i64 l0, .int .i64 p0, .slice ra rn rc] 63) (h3 : Blk W H [.bool b] 4) :
    (results Tryz.f70 tmps).run Tryz.prog W = .ok (.tuple #[.agg #[.int .i64 f0, .int .i64 s0, .int .i64 l0, .int .i64 p0, .slice ra rn rc], .bool b]) W := by
  have r0 := h2.cell 0 rfl
  have r1 := h2.cell 1 rfl
  have r2 := h2.cell 2 rfl
  have r3 := h2.cell 3 rfl
  have r4 := h2.cell 4 rfl
  have r5 := h3.cell 0 rfl
  have g4 : tmps[4]?.getD undef = .pointer (some ⟨G, 0, none⟩) := by simpa using h4
  have g5 : tmps[5]?.getD undef = .pointer (some ⟨H, 0, none⟩) := by simpa using h5
  simp [results, Tryz.f70, go_sem, r0, r1, r2, r3, r4, r5, g4, g5]
def NoDk (t : Int) (pre : List (Int × Deck)) : Prop := ∀ p ∈ pre, ¬ p.2.from_ ≤ t
def DkAt (G : Nat) (t : Int) (pre : List (Int × Deck)) (W : World) : Prop := ∃ ini last, pre = ini ++ [last] ∧ NoDk t ini ∧ last.2.from_ ≤ t ∧ DBoxes G t last.2 true W
theorem six_below {w W : World} (h : Below w.heap.size w W) (u0 u1 u2 u3 u4 u5 : Value) : Below w.heap.size w ((((((W.setCell ⟨w.heap.size + 1 + 1, 0, none⟩ u0).setCell ⟨w.heap.size + 1 + 1, 1, none⟩ u1).setCell ⟨w.heap.size + 1 + 1, 2, none⟩ u2).setCell ⟨w.heap.size + 1 + 1, 3, none⟩ u3).setCell ⟨w.heap.size + 1 + 1, 4, none⟩ u4).setCell ⟨w.heap.size + 1 + 1 + 1, 0, none⟩ u5) := by
  have n1 : ∀ i, w.heap.size ≤ (⟨w.heap.size + 1 + 1, i, none⟩ : Addr).block := fun i => by show w.heap.size ≤ w.heap.size + 1 + 1; omega
  exact (((((h.setCell (n1 _) u0).setCell (n1 _) u1).setCell (n1 _) u2).setCell (n1 _) u3).setCell (n1 _) u4).setCell (p := ⟨w.heap.size + 1 + 1 + 1, 0, none⟩) (show w.heap.size ≤ w.heap.size + 1 + 1 + 1 by omega) u5

set_option maxRecDepth 100000 in
set_option maxHeartbeats 4000000 in
theorem deckAt_in (w : World) (ky : List UInt8) (ln : Int) (a : Option Addr) (m cap : Nat) (ps : List Deck) (hp : DeckRow w a m ps) (hcap : m ≤ cap) (t : Int) :
    CallsIn Fence.wide 6 Tryz.prog 70 #[.agg #[.string ⟨ky.toArray⟩, .int .i64 ln, .slice a m cap], .int .i64 t] w (DeckAns (deckV ps t) w) := by
  have HP := Lib.hid hp
  have HLEN := Lib.hid hp.len
  have HEND : Hid (∀ w' (X : Option Deck), X = deckV ps t → Below w.heap.size w w' → DeckAns (deckV ps t) w (.returned (.tuple #[.agg #[.int .i64 (X.getD noDeck).from_, .int .i64 (X.getD noDeck).setup, .int .i64 (X.getD noDeck).least, .int .i64 (X.getD noDeck).step, .slice (X.getD noDeck).ra (X.getD noDeck).rn (X.getD noDeck).rc], .bool X.isSome])) w') := by
    rintro w' X rfl h
    exact ⟨rfl, h⟩
  clear hp
  refine callsIn_of_wp_marks Tryz.func70 rfl trivial ?_ rfl
  simp only [Tryz.ntmps70, List.size_toArray, List.length_cons, List.length_nil, Nat.reduceAdd, Nat.reduceSub, Array.replicate_succ, Array.replicate_zero, List.push_toArray, List.append_toArray, List.nil_append, List.cons_append]
  refine wpIn_wide.2 ?_
  go_upto_region 1 with (fail)
  have HF0 : Hid (DBoxes w.heap.size t noDeck false ((((w.alloc (.cells #[.string ⟨ky.toArray⟩, .int .i64 ln, .slice a m cap] 72)).alloc (.cells #[.int .i64 t] 3)).alloc (.cells #[.int .i64 0, .int .i64 0, .int .i64 0, .int .i64 0, .slice none 0 0] 63)).alloc (.cells #[.bool false] 4))) := by
    have h1 := Blk.new (w.alloc (.cells #[.string ⟨ky.toArray⟩, .int .i64 ln, .slice a m cap] 72)) [.int .i64 t] 3
    have h2 := Blk.new ((w.alloc (.cells #[.string ⟨ky.toArray⟩, .int .i64 ln, .slice a m cap] 72)).alloc (.cells #[.int .i64 t] 3)) [.int .i64 0, .int .i64 0, .int .i64 0, .int .i64 0, .slice none 0 0] 63
    have h3 := Blk.new (((w.alloc (.cells #[.string ⟨ky.toArray⟩, .int .i64 ln, .slice a m cap] 72)).alloc (.cells #[.int .i64 t] 3)).alloc (.cells #[.int .i64 0, .int .i64 0, .int .i64 0, .int .i64 0, .slice none 0 0] 63)) [.bool false] 4
    simp only [World.size_alloc] at h1 h2 h3
    exact ⟨(h1.alloc _).alloc _, h2.alloc _, h3⟩
  have HC0 : Hid (Blk ((((w.alloc (.cells #[.string ⟨ky.toArray⟩, .int .i64 ln, .slice a m cap] 72)).alloc (.cells #[.int .i64 t] 3)).alloc (.cells #[.int .i64 0, .int .i64 0, .int .i64 0, .int .i64 0, .slice none 0 0] 63)).alloc (.cells #[.bool false] 4)) w.heap.size [.string ⟨ky.toArray⟩, .int .i64 ln, .slice a m cap] 72) := (((Blk.new w [.string ⟨ky.toArray⟩, .int .i64 ln, .slice a m cap] 72).alloc _).alloc _).alloc _
  have HB0 : Hid (Below w.heap.size w ((((w.alloc (.cells #[.string ⟨ky.toArray⟩, .int .i64 ln, .slice a m cap] 72)).alloc (.cells #[.int .i64 t] 3)).alloc (.cells #[.int .i64 0, .int .i64 0, .int .i64 0, .int .i64 0, .slice none 0 0] 63)).alloc (.cells #[.bool false] 4))) := ext_alloc (ext_alloc (ext_alloc (ext_alloc (Below.refl _ _))))
  generalize (((w.alloc (.cells #[.string ⟨ky.toArray⟩, .int .i64 ln, .slice a m cap] 72)).alloc (.cells #[.int .i64 t] 3)).alloc (.cells #[.int .i64 0, .int .i64 0, .int .i64 0, .int .i64 0, .slice none 0 0] 63)).alloc (.cells #[.bool false] 4) = w0 at HF0 HB0 HC0 ⊢
  have c2 := HC0.out.cell 2 rfl
  clear HC0
  as_aux_lemma =>
    go_wp2_with fail
    refine ((callsIn_wide (n := 5)).1 (dback_in 5 a m cap _)).mono ?_
    rintro e w4 ⟨rfl, rfl⟩
    have HF4 : Hid (DBoxes w.heap.size t noDeck false (w0.alloc (.cells #[.slice a m cap] 70))) := HF0.out.below (ext_alloc (Below.refl _ _))
    have HB4 : Hid (Below w.heap.size w (w0.alloc (.cells #[.slice a m cap] 70))) := ext_alloc HB0.out
    have hBs : w0.heap.size < (w0.alloc (.cells #[.slice a m cap] 70)).heap.size := by simp
    have hB0 : (w0.alloc (.cells #[.slice a m cap] 70)).cell? ⟨w0.heap.size, 0, none⟩ = some (.slice a m cap) := by go_simp
    generalize w0.alloc (.cells #[.slice a m cap] 70) = W0 at HF4 HB4 hBs hB0 ⊢
    have hz2 : w.heap.size + 4 ≤ w0.heap.size := HF0.out.lt
    generalize w0.heap.size = Bs at hz2 hBs hB0 ⊢
    clear HF0 HB0 c2
    as_aux_lemma =>
      go_wp2_with fail
      refine (wpIn_wide (n := 6)).1 ?_
      have hz4 : w.heap.size + 4 ≤ W0.heap.size := by omega
      refine wpIn_rangeFunc_ownH (F := Fence.wide) (n := 6) rfl (by decide) (gf := 133) (lb := #[.pointer (some ⟨Bs, 0, none⟩)]) rfl trivial (enters_of Tryz.func133 (by kernel_rfl) rfl)
        (dback_stops 5 (by decide) Bs a m cap ps hcap W0 hBs hB0 (HP.out.below HB4.out)) belowK_t (belowK_b (Nat.le_refl _)) (Below.refl _ _) (fun _ => rfl)
        (fun pre W => (NoDk t pre ∧ DBoxes w.heap.size t noDeck false W) ∧ Below W0.heap.size W0 W)
        (fun c pre W => (c = .ret ∧ DkAt w.heap.size t pre W) ∧ Below w.heap.size w W)
        (OwnFrom.and (Own.from (fun s A B row hs hg hr => ⟨hs.1, hs.2.own hg hr⟩) _) (ownFrom_below (Nat.le_refl _) (Nat.le_refl _)))
        (fun c => OwnFrom.and (Own.from (fun s A B row hs hg hr => by obtain ⟨hc, ini, last, e1, e2, e3, e4⟩ := hs; exact ⟨hc, ini, last, e1, e2, e3, e4.own hg hr⟩) _) (ownFrom_below (Nat.le_refl _) (by omega)))
        ⟨⟨(fun p hp => by cases hp), HF4.out⟩, Below.refl _ _⟩
        (fun x a' W => ∃ Bx, w.heap.size + 3 < Bx ∧ Blk W Bx (Deck.cells x.2) 63 ∧ a' = { tmps := #[.agg #[.string ⟨ky.toArray⟩, .int .i64 ln, .slice a m cap], .int .i64 t, .pointer (some ⟨w.heap.size, 0, none⟩), .pointer (some ⟨w.heap.size + 1, 0, none⟩), .pointer (some ⟨w.heap.size + 1 + 1, 0, none⟩), .pointer (some ⟨w.heap.size + 1 + 1 + 1, 0, none⟩), undef, .pointer (some ⟨Bx, 0, none⟩), .pointer (some ⟨w.heap.size, 2, none⟩), .slice a m cap, .func (.func 133) #[] #[.pointer (some ⟨Bs, 0, none⟩)], .int .i64 x.1, .agg #[.int .i64 x.2.from_, .int .i64 x.2.setup, .int .i64 x.2.least, .int .i64 x.2.step, .slice x.2.ra x.2.rn x.2.rc], undef, undef, undef, undef, undef, undef], defers := [] })
        (fun x a' _ X Y row hs hg hr => by obtain ⟨Bx, h1, h2, h3⟩ := hs; exact ⟨Bx, h1, h2.ownB hg (fun r e => (hr r e).2), h3⟩)
        ?assign ?body ?done ?stop
      case assign =>
        rintro l pre ⟨xi, xd⟩ W K ⟨⟨hp1, hf1⟩, hB1⟩ hK
        obtain ⟨df, ds, dl, dp, ra, rn, rc, rates⟩ := xd
        dsimp only [Deck.cells] at hK ⊢
        have hW1 : w.heap.size + 3 < W.heap.size := hf1.lt
        have hbn := Blk.new W [.int .i64 df, .int .i64 ds, .int .i64 dl, .int .i64 dp, .slice ra rn rc] 63
        gi_wp2
        exact hK _ _ ((KeepsOthers.alloc _ _).from _) ((Below.refl _ W).alloc hB1.size _) ⟨⟨hp1, hf1.below (ext_alloc (Below.refl _ _))⟩, hB1.alloc hB1.size _⟩ ⟨W.heap.size, hW1, hbn, rfl⟩
      case body =>
        rintro l pre x a' W hl ⟨r, hr⟩ ⟨⟨hp1, hf1⟩, hB1⟩ ⟨Bx, hBx, hbx, rfl⟩ hlt
        obtain ⟨xi, df, ds, dl, dp, ra, rn, rc, rates⟩ := x
        have t0 := hf1.b1.cell 0 rfl
        have d0 := hf1.b2.cell 0 rfl
        have d1 := hf1.b2.cell 1 rfl
        have d2 := hf1.b2.cell 2 rfl
        have d3 := hf1.b2.cell 3 rfl
        have d4 := hf1.b2.cell 4 rfl
        have dF := hf1.b2.fr
        have q0 := hf1.b3.cell 0 rfl
        have qF := hf1.b3.fr
        have x0 := hbx.cell 0 rfl
        have x1 := hbx.cell 1 rfl
        have x2 := hbx.cell 2 rfl
        have x3 := hbx.cell 3 rfl
        have x4 := hbx.cell 4 rfl
        simp only at x0 x1 x2 x3 x4 ⊢
        by_cases hm : df ≤ t
        · gi_wp2
          exact ⟨((KeepsOthers.setCell _ _ _).trans ((KeepsOthers.setCell _ _ _).trans ((KeepsOthers.setCell _ _ _).trans ((KeepsOthers.setCell _ _ _).trans ((KeepsOthers.setCell _ _ _).trans (KeepsOthers.setCell _ _ _)))))).from _, ⟨rfl, pre, (xi, ⟨df, ds, dl, dp, ra, rn, rc, rates⟩), rfl, hp1, hm, hf1.store df ds dl dp ra rn rc rates true⟩, six_below (ext_trans HB4.out hB1) _ _ _ _ _ _⟩
        · have hend : NoDk t (pre ++ [(xi, Deck.mk df ds dl dp ra rn rc rates)]) := fun p hp' => (List.mem_append.1 hp').elim (hp1 p) (fun h => by rw [List.mem_singleton.1 h]; exact hm)
          gi_wp2
          exact ⟨KeepsFrom.refl _ _, Below.refl _ _, ⟨⟨hend, hf1⟩, hB1⟩⟩
      case done =>
        rintro D ys W hD rfl ⟨⟨hne, hf⟩, hB⟩ hK
        have HFW := Lib.hid hf
        have HBW := Lib.hid (ext_trans HB4.out hB)
        have HK9 := Lib.hid hK
        have HC : Hid (deckV ps t = none) := by
          have hl := HLEN.out
          subst hl
          exact deck_none hne
        have d0 := hf.b2.cell 0 rfl
        have d1 := hf.b2.cell 1 rfl
        have d2 := hf.b2.cell 2 rfl
        have d3 := hf.b2.cell 3 rfl
        have d4 := hf.b2.cell 4 rfl
        have dF := hf.b2.fr
        have q0 := hf.b3.cell 0 rfl
        have qF := hf.b3.fr
        clear hne hf hB hK HB4 HF4
        as_aux_lemma =>
          go_wp2_with fail
          have HF9 := Lib.hid (HFW.out.store 0 0 0 0 none 0 0 [] false)
          have HB9 := Lib.hid (six_below HBW.out (.int .i64 0) (.int .i64 0) (.int .i64 0) (.int .i64 0) (.slice none 0 0) (.bool false))
          have hK9 := (((KeepsOthers.setCell W ⟨w.heap.size + 1 + 1, 0, none⟩ (.int .i64 0)).trans ((KeepsOthers.setCell (W.setCell ⟨w.heap.size + 1 + 1, 0, none⟩ (.int .i64 0)) ⟨w.heap.size + 1 + 1, 1, none⟩ (.int .i64 0)).trans ((KeepsOthers.setCell ((W.setCell ⟨w.heap.size + 1 + 1, 0, none⟩ (.int .i64 0)).setCell ⟨w.heap.size + 1 + 1, 1, none⟩ (.int .i64 0)) ⟨w.heap.size + 1 + 1, 2, none⟩ (.int .i64 0)).trans ((KeepsOthers.setCell (((W.setCell ⟨w.heap.size + 1 + 1, 0, none⟩ (.int .i64 0)).setCell ⟨w.heap.size + 1 + 1, 1, none⟩ (.int .i64 0)).setCell ⟨w.heap.size + 1 + 1, 2, none⟩ (.int .i64 0)) ⟨w.heap.size + 1 + 1, 3, none⟩ (.int .i64 0)).trans ((KeepsOthers.setCell ((((W.setCell ⟨w.heap.size + 1 + 1, 0, none⟩ (.int .i64 0)).setCell ⟨w.heap.size + 1 + 1, 1, none⟩ (.int .i64 0)).setCell ⟨w.heap.size + 1 + 1, 2, none⟩ (.int .i64 0)).setCell ⟨w.heap.size + 1 + 1, 3, none⟩ (.int .i64 0)) ⟨w.heap.size + 1 + 1, 4, none⟩ (.slice none 0 0)).trans (KeepsOthers.setCell (((((W.setCell ⟨w.heap.size + 1 + 1, 0, none⟩ (.int .i64 0)).setCell ⟨w.heap.size + 1 + 1, 1, none⟩ (.int .i64 0)).setCell ⟨w.heap.size + 1 + 1, 2, none⟩ (.int .i64 0)).setCell ⟨w.heap.size + 1 + 1, 3, none⟩ (.int .i64 0)).setCell ⟨w.heap.size + 1 + 1, 4, none⟩ (.slice none 0 0)) ⟨w.heap.size + 1 + 1 + 1, 0, none⟩ (.bool false)))))))).same D _ HK9.out rfl
          generalize ((((((W.setCell ⟨w.heap.size + 1 + 1, 0, none⟩ (.int .i64 0)).setCell ⟨w.heap.size + 1 + 1, 1, none⟩ (.int .i64 0)).setCell ⟨w.heap.size + 1 + 1, 2, none⟩ (.int .i64 0)).setCell ⟨w.heap.size + 1 + 1, 3, none⟩ (.int .i64 0)).setCell ⟨w.heap.size + 1 + 1, 4, none⟩ (.slice none 0 0)).setCell ⟨w.heap.size + 1 + 1 + 1, 0, none⟩ (.bool false)) = W9 at HF9 HB9 hK9 ⊢
          refine ⟨by simp, .inl ⟨_, _, rfl, run_takeDeferred hK9, ?_⟩⟩
          have h9 := HF9.out.own (grownBy_putObj' _ D (.deferred none)) (fun r e => by cases e; exact ⟨_, hK9, rfl⟩)
          refine ⟨.tuple #[.agg #[.int .i64 0, .int .i64 0, .int .i64 0, .int .i64 0, .slice none 0 0], .bool false], ?_, HEND.out _ none HC.out.symm (HB9.out.trans (belowK_b (w := w) (Nat.le_refl _) _ D _ _ (by omega) hK9 rfl rfl))⟩
          exact deckAt_results _ _ (w.heap.size + 1 + 1) (w.heap.size + 1 + 1 + 1) 0 0 0 0 none 0 0 false rfl rfl h9.b2 h9.b3
      case stop =>
        rintro D c pre W hD ⟨k, hk, rfl⟩ ⟨⟨rfl, ini, last, e1, e2, e3, hf⟩, hB⟩ hK
        obtain ⟨k', rfl⟩ : ∃ k', k = k' + 1 := by
          cases k with
          | zero => simp [dbacks] at e1
          | succ k' => exact ⟨k', rfl⟩
        rw [dbacks_succ] at e1
        obtain ⟨rfl, e5⟩ := List.append_inj' e1 rfl
        obtain rfl : ((m : Int) - 1 - k', ps.getD (m - 1 - k') noDeck) = last := by simpa using e5
        have HC : Hid (deckV ps t = some (ps.getD (m - 1 - k') noDeck)) := by
          have hl := HLEN.out
          subst hl
          exact deck_back (by omega) e2 e3
        simp only at hf
        have HF9 := Lib.hid hf
        clear e1 e2 e3 e5 hf
        generalize ps.getD (m - 1 - k') noDeck = xd at HC HF9
        gi_wp2
        refine ⟨by simp, .inl ⟨_, _, rfl, run_takeDeferred hK, ?_⟩⟩
        have h9 := HF9.out.own (grownBy_putObj' _ D (.deferred none)) (fun r e => by cases e; exact ⟨_, hK, rfl⟩)
        refine ⟨_, ?_, HEND.out _ (some xd) HC.out.symm (hB.trans (belowK_b (w := w) (Nat.le_refl _) _ D _ _ (by omega) hK rfl rfl))⟩
        exact deckAt_results _ _ (w.heap.size + 1 + 1) (w.heap.size + 1 + 1 + 1) _ _ _ _ _ _ _ true rfl rfl h9.b2 h9.b3
theorem deckAt_any (w : World) (ky : List UInt8) (ln : Int) (a : Option Addr) (m cap : Nat) (ps : List Deck) (hp : DeckRow w a m ps) (hcap : m ≤ cap) (t : Int) :
    Calls Tryz.prog 70 #[.agg #[.string ⟨ky.toArray⟩, .int .i64 ln, .slice a m cap], .int .i64 t] w (DeckAns (deckV ps t) w) := (callsIn_wide (n := 6)).1 (deckAt_in w ky ln a m cap ps hp hcap t)
end Go.Proofs.YtppinnjdaoaddaaGreatDoor

set_option linter.unusedVariables false
set_option linter.unusedSimpArgs false
namespace Go.Proofs.YtppinnjdaoaddaaGreatDoor
open Go.RowKit

/-- The rates are in order, each before the next. -/
def RSorted (cs : List Rate) : Prop := ∀ i, 0 < i → i < cs.length → Op.bytesLess (cs.getD (i - 1) noRate).p (cs.getD i noRate).p = true
theorem RSorted.lt {cs : List Rate} (h : RSorted cs) : ∀ (i d : Nat), i + (d + 1) < cs.length → Op.bytesLess (cs.getD i noRate).p (cs.getD (i + (d + 1)) noRate).p = true
  | i, 0, hi => h (i + 1) (by omega) hi
  | i, d + 1, hi => by
    have h1 := RSorted.lt h i d (by omega)
    have h2 := h (i + (d + 1) + 1) (by omega) (by omega)
    exact less_trans h1 h2
theorem RSorted.lt' {cs : List Rate} (h : RSorted cs) {i j : Nat} (hij : i < j) (hj : j < cs.length) : Op.bytesLess (cs.getD i noRate).p (cs.getD j noRate).p = true := by
  have := h.lt i (j - i - 1) (by omega)
  rwa [show i + (j - i - 1 + 1) = j by omega] at this
def rcmp (cs : List Rate) (t : List UInt8) (i : Nat) : Int := Lib.compareBytes (cs.getD i noRate).p t
theorem rcmp_mono {cs : List Rate} (h : RSorted cs) {t : List UInt8} {i j : Nat} (hij : i ≤ j) (hj : j < cs.length) (hc : rcmp cs t j < 0) : rcmp cs t i < 0 := by
  rcases Nat.lt_or_eq_of_le hij with h' | rfl
  · unfold rcmp at hc ⊢
    rw [cmp_neg] at hc ⊢
    exact less_trans (h.lt' h' hj) hc
  · exact hc
def findR (cs : List Rate) (t : List UInt8) : Option Rate := cs.find? (fun c => c.p == t)
theorem findR_hit {cs : List Rate} (h : RSorted cs) {t : List UInt8} {i : Nat} (hi : i < cs.length) (hc : rcmp cs t i = 0) : findR cs t = some (cs.getD i noRate) := by
  unfold rcmp at hc
  rw [cmp_zero] at hc
  unfold findR
  rw [List.find?_eq_some_iff_getElem]
  have e : cs.getD i noRate = cs[i] := by simp [List.getD_eq_getElem?_getD, List.getElem?_eq_getElem hi]
  refine ⟨by simpa using hc, i, hi, e.symm, fun j hj => ?_⟩
  have e2 : cs.getD j noRate = cs[j] := by simp [List.getD_eq_getElem?_getD, List.getElem?_eq_getElem (Nat.lt_trans hj hi)]
  have := h.lt' hj hi
  rw [hc, e2] at this
  simp only [Bool.not_eq_true', beq_eq_false_iff_ne]
  intro e3
  rw [e3, less_irrefl] at this
  cases this
theorem findR_miss {cs : List Rate} (h : RSorted cs) {t : List UInt8} {i : Nat} (hi : i ≤ cs.length) (h1 : ∀ m, m < i → rcmp cs t m < 0) (h2 : ∀ m, i ≤ m → m < cs.length → ¬ rcmp cs t m < 0) (h3 : i < cs.length → rcmp cs t i ≠ 0) : findR cs t = none := by
  unfold findR
  rw [List.find?_eq_none]
  intro c hc hp
  obtain ⟨j, hj, rfl⟩ := List.getElem_of_mem hc
  have e : cs.getD j noRate = cs[j] := by simp [List.getD_eq_getElem?_getD, List.getElem?_eq_getElem hj]
  have hp' : cs[j].p = t := by simpa using hp
  have hz : rcmp cs t j = 0 := by unfold rcmp; rw [cmp_zero, e]; exact hp'
  by_cases hji : j < i
  · have := h1 j hji; omega
  · by_cases hje : j = i
    · subst hje; exact h3 hj hz
    · have hlt : i < j := by omega
      have := h2 i (Nat.le_refl _) (by omega)
      apply this
      unfold rcmp
      rw [cmp_neg]
      have hl := h.lt' hlt hj
      rw [e, hp'] at hl
      exact hl
theorem rate1_any (p t : List UInt8) (a : Int) (b : Bool) (w : World) :
    Calls Tryz.prog 167 #[.agg #[.string ⟨p.toArray⟩, .int .i64 a, .bool b], .string ⟨t.toArray⟩] w fun e w' => e = .returned (.int .i64 (Lib.compareBytes p t)) ∧ Below w.heap.size w w' := by
  have hcon := fun w => Tryz.strings_Compare ⟨p.toArray⟩ ⟨t.toArray⟩ w
  change ∀ w, Calls _ _ _ w fun e w' => e = .returned (.int .i64 (Lib.compareBytes p t)) ∧ w' = w at hcon
  generalize Lib.compareBytes p t = r at hcon ⊢
  go_enter Tryz.func167, Tryz.ntmps167
  go_wp2_with (go_at_call 83; refine (hcon _).mono ?_; rintro e w' ⟨rfl, rfl⟩)
  go_ret
  exact ⟨rfl, (by (try show Below _ _ _); repeat (with_reducible first | exact Below.refl _ _ | assumption | exact Hid.out (by assumption) | refine ext_alloc ?_ | refine ext_drewN ?_ | refine ext_drew ?_ | refine ext_setCell ?_ (Nat.le_refl _) | refine ext_setCell ?_ (Nat.le_succ _) | refine ext_trans ?_ (by assumption) | (refine ext_setCell ?_ (by simp)) | (refine ext_setCell ?_ (by simp at *; omega))))⟩
/-- What the search comes to. -/
def RFound (cs : List Rate) (t : List UInt8) (n : Nat) (w : World) (e : Ending) (w' : World) : Prop :=
  Below w.heap.size w w' ∧ ((∃ i, i < n ∧ e = .returned (.tuple #[.int .i64 (i : Nat), .bool true]) ∧ findR cs t = some (cs.getD i noRate)) ∨ ∃ i : Int, e = .returned (.tuple #[.int .i64 i, .bool false]) ∧ findR cs t = none)

set_option maxHeartbeats 1000000 in
theorem searchR_any (w : World) (a : Option Addr) (n cap : Nat) (cs : List Rate) (t : List UInt8) (hr : RateRow w a n cs) (ho : RSorted cs) :
    Calls Tryz.prog 166 #[.slice a n cap, .string ⟨t.toArray⟩, .func (.func 167) #[] #[]] w (RFound cs t n w) := by
  have Hn := Lib.hid hr.len
  have hn2 := hr.few
  have Hr := Lib.hid hr
  have Ho := Lib.hid ho
  clear hr ho
  go_enter Tryz.func166, Tryz.ntmps166
  go_wp2_with fail
  go_loopw [9, 10] (fun s9 s10 wr => ∃ i j : Nat, i ≤ j ∧ j ≤ n ∧ s9 = .int .i64 i ∧ s10 = .int .i64 j ∧ Hid (Below w.heap.size w wr) ∧ Hid (∀ m, m < i → rcmp cs t m < 0) ∧ Hid (∀ m, j ≤ m → m < n → 0 ≤ rcmp cs t m)) (fun s9 s10 _ => (intOf s10).toNat - (intOf s9).toNat)
  case atStart => exact ⟨0, n, Nat.zero_le _, Nat.le_refl _, rfl, rfl, Below.refl _ _, fun m hm => absurd hm (by omega), fun m h1 h2 => absurd h1 (by omega)⟩
  case round =>
    obtain ⟨i, j, hij, hjn, rfl, rfl, HB, HL, HU⟩ := hrel
    by_cases hlt : i < j
    · obtain ⟨b, off, rfl, hb, hc⟩ := Hr.out.at (by omega)
      obtain ⟨q0, q1, q2⟩ := hc ((i + j) / 2) (by omega)
      have c0 := (HB.out.cell (p := ⟨b, off + ((i + j) / 2) * 3, none⟩) hb).trans q0
      have c1 := (HB.out.cell (p := ⟨b, off + ((i + j) / 2) * 3 + 1, none⟩) hb).trans q1
      have c2 := (HB.out.cell (p := ⟨b, off + ((i + j) / 2) * 3 + 2, none⟩) hb).trans q2
      have hcmp : Hid (rcmp cs t ((i + j) / 2) = Lib.compareBytes (cs.getD ((i + j) / 2) noRate).p t) := rfl
      clear hc Hr q0 q1 q2
      generalize cs.getD ((i + j) / 2) noRate = cl at c0 c1 c2 hcmp
      go_wp2_with fail
      refine (rate1_any _ _ _ _ _).mono ?_
      rintro e w1 ⟨rfl, hB1⟩
      generalize Lib.compareBytes cl.p t = r at hcmp
      by_cases hr0 : r < 0
      · go_wp2_with fail
        go_roundw
        case rel => exact ⟨(i + j) / 2 + 1, j, by omega, hjn, by go_num, rfl, ext_trans HB.out hB1, fun m hm => rcmp_mono Ho.out (j := (i + j) / 2) (by omega) (by rw [← Hn.out]; omega) (by rw [hcmp.out]; exact hr0), HU⟩
        case measure => simp [intOf]; omega
      · go_wp2_with fail
        go_roundw
        case rel => exact ⟨i, (i + j) / 2, by omega, by omega, rfl, by go_num, ext_trans HB.out hB1, HL, fun m h1 h2 => Int.not_lt.1 (fun hm => absurd (show r < 0 by rw [← hcmp.out]; exact rcmp_mono Ho.out h1 (by rw [← Hn.out]; exact h2) hm) (by omega))⟩
        case measure => simp [intOf]; omega
    · obtain rfl : i = j := by omega
      by_cases hin : i < n
      · obtain ⟨b, off, rfl, hb, hc⟩ := Hr.out.at (by omega)
        obtain ⟨q0, q1, q2⟩ := hc i hin
        have c0 := (HB.out.cell (p := ⟨b, off + i * 3, none⟩) hb).trans q0
        have c1 := (HB.out.cell (p := ⟨b, off + i * 3 + 1, none⟩) hb).trans q1
        have c2 := (HB.out.cell (p := ⟨b, off + i * 3 + 2, none⟩) hb).trans q2
        have hcmp : Hid (rcmp cs t i = Lib.compareBytes (cs.getD i noRate).p t) := rfl
        have hin2 : (i : Int) < (n : Int) := by omega
        clear hc Hr q0 q1 q2
        generalize hcl : cs.getD i noRate = cl at c0 c1 c2 hcmp
        have Hcl := Lib.hid hcl
        clear hcl
        go_wp2_with fail
        refine (rate1_any _ _ _ _ _).mono ?_
        rintro e w1 ⟨rfl, hB1⟩
        generalize Lib.compareBytes cl.p t = r at hcmp
        by_cases hr0 : r = 0
        · subst hr0
          go_wp2_with fail
          go_ret2
          exact ⟨ext_trans HB.out hB1, Or.inl ⟨i, hin, rfl, findR_hit Ho.out (by rw [← Hn.out]; exact hin) hcmp.out⟩⟩
        · have hr1 : (r == 0) = false := by simpa using hr0
          go_wp2_with fail
          go_ret2
          exact ⟨ext_trans HB.out hB1, Or.inr ⟨_, rfl, findR_miss Ho.out (by rw [← Hn.out]; omega) HL.out (by rw [← Hn.out]; exact fun m h1 h2 => Int.not_lt.2 (HU.out m h1 h2)) (fun _ => by rw [hcmp.out]; exact hr0)⟩⟩
      · have hin2 : ¬ (i : Int) < (n : Int) := by omega
        go_wp2_with fail
        go_ret2
        exact ⟨HB.out, Or.inr ⟨_, rfl, findR_miss Ho.out (by rw [← Hn.out]; omega) HL.out (by rw [← Hn.out]; exact fun m h1 h2 => Int.not_lt.2 (HU.out m h1 h2)) (fun h => absurd h (by rw [← Hn.out]; omega))⟩⟩
def RFoundP (cs : List Rate) (t : List UInt8) (n : Nat) (i : Int) (f : Bool) : Prop := (f = true → ∃ m : Nat, m < n ∧ i = m ∧ findR cs t = some (cs.getD m noRate)) ∧ (f = false → findR cs t = none)
def RFound2 (cs : List Rate) (t : List UInt8) (n : Nat) (w : World) (e : Ending) (w' : World) : Prop :=
  ∃ (i : Int) (f : Bool), e = .returned (.tuple #[.int .i64 i, .bool f]) ∧ Below w.heap.size w w' ∧ RFoundP cs t n i f
theorem searchR_str (w : World) (a : Option Addr) (n cap : Nat) (cs : List Rate) (t : List UInt8) (s : ByteArray) (hs : s.data.toList = t) (hr : RateRow w a n cs) (ho : RSorted cs) :
    Calls Tryz.prog 166 #[.slice a n cap, .string s, .func (.func 167) #[] #[]] w (RFound2 cs t n w) := by
  have h := searchR_any w a n cap cs t hr ho
  have e : (⟨t.toArray⟩ : ByteArray) = s := by rw [← hs]
  rw [e] at h
  refine h.mono ?_
  rintro e w' ⟨hb, ⟨i, hi, rfl, hf⟩ | ⟨i, rfl, hf⟩⟩
  · exact ⟨_, _, rfl, hb, (fun _ => ⟨i, hi, rfl, hf⟩), (fun h => by cases h)⟩
  · exact ⟨_, _, rfl, hb, (fun h => by cases h), fun _ => hf⟩
theorem extractR_take (l : List UInt8) (k : Nat) : ((⟨l.toArray⟩ : ByteArray).extract 0 k).data.toList = l.take k := by
  simp [ByteArray.extract, ByteArray.copySlice]
/-- The rate of digits: that of the longest of their beginnings of at most k bytes. -/
def rateTo (cs : List Rate) (l : List UInt8) : Nat → Option Rate
  | 0 => findR cs (l.take 0)
  | k + 1 => (findR cs (l.take (k + 1))).or (rateTo cs l k)
def rateOf (cs : List Rate) (l : List UInt8) (m : Nat) : Option Rate := rateTo cs l (min l.length m)
def RatePost (o : Option Rate) (w : World) (e : Ending) (w' : World) : Prop :=
  Below w.heap.size w w' ∧ e = .returned (.tuple #[.agg #[.string ⟨(o.getD noRate).p.toArray⟩, .int .i64 (o.getD noRate).price, .bool (o.getD noRate).closed], .bool o.isSome])

set_option maxRecDepth 100000 in
set_option maxHeartbeats 4000000 in
theorem rate_any (w : World) (df ds dl dp : Int) (ra : Option Addr) (rn rc : Nat) (cs : List Rate) (l : List UInt8) (m : Nat) (hr : RateRow w ra rn cs) (ho : RSorted cs) (hl : l.length ≤ 1000) (hm : m ≤ 1000) :
    Calls Tryz.prog 131 #[.agg #[.int .i64 df, .int .i64 ds, .int .i64 dl, .int .i64 dp, .slice ra rn rc], .string ⟨l.toArray⟩, .int .i64 m] w (RatePost (rateOf cs l m) w) := by
  have Hr := Lib.hid hr
  have Ho := Lib.hid ho
  clear hr ho
  go_enter Tryz.func131, Tryz.ntmps131
  have HD0 : Hid (Blk ((w.alloc (.cells #[.int .i64 df, .int .i64 ds, .int .i64 dl, .int .i64 dp, .slice ra rn rc] 63)).alloc (.cells #[.string ⟨#[]⟩, .int .i64 0, .bool false] 120)) w.heap.size [.int .i64 df, .int .i64 ds, .int .i64 dl, .int .i64 dp, .slice ra rn rc] 63) := (Blk.new w [.int .i64 df, .int .i64 ds, .int .i64 dl, .int .i64 dp, .slice ra rn rc] 63).alloc _
  have HZ0 : Hid (Blk ((w.alloc (.cells #[.int .i64 df, .int .i64 ds, .int .i64 dl, .int .i64 dp, .slice ra rn rc] 63)).alloc (.cells #[.string ⟨#[]⟩, .int .i64 0, .bool false] 120)) (w.heap.size + 1) [.string ⟨#[]⟩, .int .i64 0, .bool false] 120) := by
    have := Blk.new (w.alloc (.cells #[.int .i64 df, .int .i64 ds, .int .i64 dl, .int .i64 dp, .slice ra rn rc] 63)) [.string ⟨#[]⟩, .int .i64 0, .bool false] 120
    show Blk _ _ _ _
    simpa using this
  have HB0 : Hid (Below w.heap.size w ((w.alloc (.cells #[.int .i64 df, .int .i64 ds, .int .i64 dl, .int .i64 dp, .slice ra rn rc] 63)).alloc (.cells #[.string ⟨#[]⟩, .int .i64 0, .bool false] 120))) := ext_alloc (ext_alloc (Below.refl _ _))
  go_wp2_with fail
  go_loopw [8] (fun s8 wr => ∃ k : Nat, k ≤ min l.length m + 1 ∧ s8 = .int .i64 ((k : Int) - 1) ∧ Hid (Blk wr w.heap.size [.int .i64 df, .int .i64 ds, .int .i64 dl, .int .i64 dp, .slice ra rn rc] 63) ∧ Hid (Blk wr (w.heap.size + 1) [.string ⟨#[]⟩, .int .i64 0, .bool false] 120) ∧ Hid (Below w.heap.size w wr) ∧ Hid (rateOf cs l m = match k with | 0 => none | q + 1 => rateTo cs l q)) (fun s8 _ => ((intOf s8) + 1).toNat)
  case atStart => exact ⟨min l.length m + 1, Nat.le_refl _, by congr 1; omega, HD0.out, HZ0.out, HB0.out, rfl⟩
  case round =>
    clear HD0 HZ0 HB0
    obtain ⟨k, hk, rfl, HD, HZ, HB, HC⟩ := hrel
    have d4 := HD.out.cell 4 rfl
    have z0 := HZ.out.cell 0 rfl
    have z1 := HZ.out.cell 1 rfl
    have z2 := HZ.out.cell 2 rfl
    have zf := HZ.out.fr
    cases k with
    | zero =>
      go_wp2_with fail
      refine bodyPost_ret (v := .tuple #[.agg #[.string ⟨#[]⟩, .int .i64 0, .bool false], .bool false]) (by simp [results, Tryz.results131, go_sem, z0, z1, z2]) rfl ⟨?_, ?_⟩
      · exact (by (try show Below _ _ _); repeat (with_reducible first | exact Below.refl _ _ | assumption | exact Hid.out (by assumption) | refine ext_alloc ?_ | refine ext_drewN ?_ | refine ext_drew ?_ | refine ext_setCell ?_ (Nat.le_refl _) | refine ext_setCell ?_ (Nat.le_succ _) | refine ext_trans ?_ (by assumption) | (refine ext_setCell ?_ (by simp)) | (refine ext_setCell ?_ (by simp at *; omega))))
      · rw [HC.out]; rfl
    | succ k =>
      have hk1 : ((k + 1 : Nat) : Int) - 1 = (k : Int) := by omega
      rw [hk1]
      clear hk1
      have kl : (k : Int) ≤ (l.length : Int) := by omega
      have kl2 : k ≤ l.length := by omega
      go_wp2_with fail
      go_region_with (go_at_call 166; refine (searchR_str _ ra rn rc cs (l.take k) _ (extractR_take l k) ?hx Ho.out).mono ?_; exact Hr.out.below (ext_drew HB.out); rintro e w1 ⟨i, f, rfl, hB1, hfp⟩)
      have hw1 : Below w.heap.size w w1 := ext_trans (ext_drew HB.out) hB1
      have HB1 := Lib.hid hw1
      have HX : Below wr.heap.size wr w1 := ext_trans (ext_drew (Below.refl _ _)) hB1
      have HD1 := Lib.hid (HD.out.below HX)
      have HZ1 := Lib.hid (HZ.out.below HX)
      clear HX HD HZ HB d4 z0 z1 z2 zf hB1
      cases f with
      | false =>
        have hnone := hfp.2 rfl
        clear hfp hw1
        go_wp2_with fail
        go_roundw
        case rel => exact ⟨k, by omega, rfl, HD1.out, HZ1.out, HB1.out, by
          show rateOf cs l m = _
          rw [HC.out]
          cases k with
          | zero => exact hnone
          | succ m => show (findR cs (l.take (m + 1))).or (rateTo cs l m) = _; rw [hnone]; rfl⟩
        case measure => simp [intOf]
      | true =>
        obtain ⟨q, hq, rfl, hsome⟩ := hfp.1 rfl
        have hrow := Hr.out.below hw1
        have hfin : Hid (rateOf cs l m = some (cs.getD q noRate)) := by
          show rateOf cs l m = _
          rw [HC.out]
          cases k with
          | zero => exact hsome
          | succ q => show (findR cs (l.take (q + 1))).or (rateTo cs l q) = _; rw [hsome]; rfl
        clear hsome hfp
        obtain ⟨b, off, rfl, hb, hc⟩ := hrow.at (by omega)
        obtain ⟨c0, c1, c2⟩ := hc q hq
        clear hc hrow hw1
        have d4 := HD1.out.cell 4 rfl
        have z0 := HZ1.out.cell 0 rfl
        have z1 := HZ1.out.cell 1 rfl
        have z2 := HZ1.out.cell 2 rfl
        have zf := HZ1.out.fr
        generalize cs.getD q noRate = cl at c0 c1 c2 hfin
        go_wp2_with fail
        refine bodyPost_ret (v := .tuple #[.agg #[.string ⟨cl.p.toArray⟩, .int .i64 cl.price, .bool cl.closed], .bool true]) (by simp [results, Tryz.results131, go_sem, z0, z1, z2]) rfl ⟨?_, ?_⟩
        · have HB1 := HB1.out; exact (by (try show Below _ _ _); repeat (with_reducible first | exact Below.refl _ _ | assumption | exact Hid.out (by assumption) | refine ext_alloc ?_ | refine ext_drewN ?_ | refine ext_drew ?_ | refine ext_setCell ?_ (Nat.le_refl _) | refine ext_setCell ?_ (Nat.le_succ _) | refine ext_trans ?_ (by assumption) | (refine ext_setCell ?_ (by simp)) | (refine ext_setCell ?_ (by simp at *; omega))))
        · rw [hfin.out]; rfl
end Go.Proofs.YtppinnjdaoaddaaGreatDoor

set_option linter.unusedVariables false
set_option linter.unusedSimpArgs false
namespace Go.Proofs.YtppinnjdaoaddaaGreatDoor
open Go.RowKit

theorem Tryz.deckSz : (Tryz.prog.info? 63).map (·.size) = some 5 := by kernel_rfl
theorem Tryz.rateSz : (Tryz.prog.info? 120).map (·.size) = some 3 := by kernel_rfl
/-- What a call by a rate costs. -/
def paidR (dl dp talk : Int) : Int := if dl < talk then dl + (talk - dl + dp - 1) / dp * dp else dl
def priceR (ds dl dp pr talk : Int) : Int := if talk = 0 then ds else ds + (pr * paidR dl dp talk + 59999) / 60000
theorem paid_bound {dl dp talk : Int} (h2 : 0 ≤ dl ∧ dl ≤ 86400000) (h3 : 1 ≤ dp ∧ dp ≤ 86400000) (h5 : 0 ≤ talk ∧ talk ≤ 86400000) : 0 ≤ paidR dl dp talk ∧ paidR dl dp talk ≤ 200000000 := by
  unfold paidR
  split
  · rename_i h
    have q1 := Int.ediv_mul_le (talk - dl + dp - 1) (show dp ≠ 0 by omega)
    have q2 : 0 ≤ (talk - dl + dp - 1) / dp * dp := Int.mul_nonneg (Int.ediv_nonneg (by omega) (by omega)) (by omega)
    omega
  · omega

set_option maxRecDepth 100000 in
set_option maxHeartbeats 2000000 in
theorem priceC_any (w : World) (df ds dl dp : Int) (ra : Option Addr) (rn rc : Nat) (p : List UInt8) (pr : Int) (cl : Bool) (talk : Int) (h1 : 0 ≤ ds ∧ ds ≤ 100000000) (h2 : 0 ≤ dl ∧ dl ≤ 86400000) (h3 : 1 ≤ dp ∧ dp ≤ 86400000) (h4 : 0 ≤ pr ∧ pr ≤ 100000000) (h5 : 0 ≤ talk ∧ talk ≤ 86400000) :
    Calls Tryz.prog 132 #[.agg #[.int .i64 df, .int .i64 ds, .int .i64 dl, .int .i64 dp, .slice ra rn rc], .agg #[.string ⟨p.toArray⟩, .int .i64 pr, .bool cl], .int .i64 talk] w fun e w' => e = .returned (.int .i64 (priceR ds dl dp pr talk)) ∧ Below w.heap.size w w' := by
  have hd : Hid (priceR ds dl dp pr talk = if talk = 0 then ds else ds + (pr * paidR dl dp talk + 59999) / 60000) := rfl
  have hp : Hid (paidR dl dp talk = if dl < talk then dl + (talk - dl + dp - 1) / dp * dp else dl) := rfl
  have hpb := paid_bound h2 h3 h5
  have q0 : 0 ≤ (talk - dl + dp - 1) / dp * dp ∨ ¬ dl < talk := by
    by_cases h : dl < talk
    · exact Or.inl (Int.mul_nonneg (Int.ediv_nonneg (by omega) (by omega)) (by omega))
    · exact Or.inr h
  have q1 := Int.ediv_mul_le (talk - dl + dp - 1) (show dp ≠ 0 by omega)
  generalize priceR ds dl dp pr talk = R at hd ⊢
  generalize paidR dl dp talk = M at hd hp hpb
  go_enter Tryz.func132, Tryz.ntmps132
  go_upto_region 1 with (fail)
  have HD : Hid (Blk ((w.alloc (.cells #[.int .i64 df, .int .i64 ds, .int .i64 dl, .int .i64 dp, .slice ra rn rc] 63)).alloc (.cells #[.string ⟨p.toArray⟩, .int .i64 pr, .bool cl] 120)) w.heap.size [.int .i64 df, .int .i64 ds, .int .i64 dl, .int .i64 dp, .slice ra rn rc] 63) := (Blk.new w [.int .i64 df, .int .i64 ds, .int .i64 dl, .int .i64 dp, .slice ra rn rc] 63).alloc _
  have HZ : Hid (Blk ((w.alloc (.cells #[.int .i64 df, .int .i64 ds, .int .i64 dl, .int .i64 dp, .slice ra rn rc] 63)).alloc (.cells #[.string ⟨p.toArray⟩, .int .i64 pr, .bool cl] 120)) (w.heap.size + 1) [.string ⟨p.toArray⟩, .int .i64 pr, .bool cl] 120) := by
    have := Blk.new (w.alloc (.cells #[.int .i64 df, .int .i64 ds, .int .i64 dl, .int .i64 dp, .slice ra rn rc] 63)) [.string ⟨p.toArray⟩, .int .i64 pr, .bool cl] 120
    show Blk _ _ _ _
    simpa using this
  have HB : Hid (Below w.heap.size w ((w.alloc (.cells #[.int .i64 df, .int .i64 ds, .int .i64 dl, .int .i64 dp, .slice ra rn rc] 63)).alloc (.cells #[.string ⟨p.toArray⟩, .int .i64 pr, .bool cl] 120))) := ext_alloc (ext_alloc (Below.refl _ _))
  generalize World.alloc (World.alloc w _) _ = W at HD HZ HB ⊢
  have k1 := HD.out.cell 1 rfl
  have k2 := HD.out.cell 2 rfl
  have k3 := HD.out.cell 3 rfl
  have k4 := HZ.out.cell 1 rfl
  clear HD HZ
  by_cases ht : talk = 0
  · have ht2 : (talk == 0) = true := by simpa using ht
    have hR : Hid (R = ds) := by show R = ds; rw [hd.out, if_pos ht]
    clear hd hp hpb q0 q1 h5 ht
    as_aux_lemma =>
      go_wp2_with fail
      go_ret
      exact ⟨by rw [hR.out]; rfl, HB.out⟩
  · have ht2 : (talk == 0) = false := by simpa using ht
    have hR : Hid (R = ds + (pr * M + 59999) / 60000) := by show R = _; rw [hd.out, if_neg ht]
    have m0 : 0 ≤ pr * M := Int.mul_nonneg h4.1 hpb.1
    have m1 : pr * M ≤ 100000000 * 200000000 := Int.mul_le_mul h4.2 hpb.2 hpb.1 (by omega)
    have v1 : IntKind.i64.wrap (pr * M) = pr * M := IntWalk.i64_in _ (by omega)
    have v2 : IntKind.i64.wrap (pr * M + 59999) = pr * M + 59999 := IntWalk.i64_in _ (by omega)
    have v3 : (pr * M + 59999).tdiv 60000 = (pr * M + 59999) / 60000 := Int.tdiv_eq_ediv_of_nonneg (by omega)
    have v4 : IntKind.i64.wrap ((pr * M + 59999) / 60000) = (pr * M + 59999) / 60000 := IntWalk.i64_in _ (by omega)
    have v5 : IntKind.i64.wrap (ds + (pr * M + 59999) / 60000) = ds + (pr * M + 59999) / 60000 := IntWalk.i64_in _ (by omega)
    clear hd ht
    by_cases hlt : dl < talk
    · obtain rfl : M = dl + (talk - dl + dp - 1) / dp * dp := by rw [hp.out, if_pos hlt]
      have q2 : 0 ≤ (talk - dl + dp - 1) / dp * dp := by omega
      have q3 : (talk - dl + dp - 1).tdiv dp = (talk - dl + dp - 1) / dp := Int.tdiv_eq_ediv_of_nonneg (by omega)
      have q4 : 0 ≤ (talk - dl + dp - 1) / dp := Int.ediv_nonneg (by omega) (by omega)
      have q5 : (talk - dl + dp - 1) / dp ≤ 172800000 := Int.ediv_le_of_le_mul (by omega) (by have : (172800000 : Int) * 1 ≤ 172800000 * dp := Int.mul_le_mul_of_nonneg_left h3.1 (by omega); omega)
      have u1 : IntKind.i64.wrap (talk - dl) = talk - dl := IntWalk.i64_in _ (by omega)
      have u2 : IntKind.i64.wrap (talk - dl + dp) = talk - dl + dp := IntWalk.i64_in _ (by omega)
      have u3 : IntKind.i64.wrap (talk - dl + dp - 1) = talk - dl + dp - 1 := IntWalk.i64_in _ (by omega)
      generalize (talk - dl + dp - 1) / dp = q at hp q0 q1 q2 q3 q4 q5 hpb hR m0 m1 v1 v2 v3 v4 v5
      have u4 : IntKind.i64.wrap q = q := IntWalk.i64_in _ (by omega)
      have u5 : IntKind.i64.wrap (q * dp) = q * dp := IntWalk.i64_in _ (by omega)
      have u6 : IntKind.i64.wrap (dl + q * dp) = dl + q * dp := IntWalk.i64_in _ (by omega)
      have hz : ¬ dp = 0 := by omega
      clear hp q0 q1 q2 q4 q5 hpb m0 m1 h1 h4 h5
      as_aux_lemma =>
        go_wp2_with fail
        go_quiet (fail)
        go_wp2_with fail
        go_ret
        exact ⟨by rw [hR.out]; rfl, (by (try show Below _ _ _); repeat (with_reducible first | exact Below.refl _ _ | assumption | exact Hid.out (by assumption) | refine ext_alloc ?_ | refine ext_drewN ?_ | refine ext_drew ?_ | refine ext_setCell ?_ (Nat.le_refl _) | refine ext_setCell ?_ (Nat.le_succ _) | refine ext_trans ?_ (by assumption) | (refine ext_setCell ?_ (by simp)) | (refine ext_setCell ?_ (by simp at *; omega))))⟩
    · obtain rfl : M = dl := by rw [hp.out, if_neg hlt]
      clear hp q0 q1 hpb m0 m1 h1 h4 h5
      as_aux_lemma =>
        go_wp2_with fail
        go_ret
        exact ⟨by rw [hR.out]; rfl, HB.out⟩
theorem findR_mem {cs : List Rate} {t : List UInt8} {r : Rate} (h : findR cs t = some r) : r ∈ cs := List.mem_of_find?_eq_some h
theorem rateTo_mem {cs : List Rate} {l : List UInt8} {r : Rate} : ∀ k, rateTo cs l k = some r → r ∈ cs
  | 0, h => findR_mem h
  | k + 1, h => by
    unfold rateTo at h
    cases h9 : findR cs (l.take (k + 1)) with
    | none => rw [h9] at h; exact rateTo_mem k h
    | some x => rw [h9] at h; injection h with h; subst h; exact findR_mem h9
/-- What a call costs, and whether it can be. -/
def priceV (ds dl dp : Int) (cs : List Rate) (l : List UInt8) (talk : Int) : Int × Bool :=
  match rateOf cs l 15 with
  | none => (0, false)
  | some r => if r.closed = true then (0, false) else (priceR ds dl dp r.price talk, true)
/-- Numbers of a deck, and its rates, are right. -/
structure DeckGood (ds dl dp : Int) (cs : List Rate) : Prop where
  h1 : 0 ≤ ds ∧ ds ≤ 100000000
  h2 : 0 ≤ dl ∧ dl ≤ 86400000
  h3 : 1 ≤ dp ∧ dp ≤ 86400000
  sorted : RSorted cs
  each : ∀ r ∈ cs, 0 ≤ r.price ∧ r.price ≤ 100000000
theorem deck_good {d : Deck} (hl : d.rates.length ≤ 5000) (h : deckErr d = 0) : DeckGood d.setup d.least d.step d.rates := by
  have hn : deckNum d = true := by
    cases h9 : deckNum d with
    | true => rfl
    | false => unfold deckErr at h; rw [if_pos h9] at h; cases h
  unfold deckErr at h
  rw [if_neg (by rw [hn]; decide), if_neg (by omega)] at h
  have hz := first_zero h
  unfold deckNum inB at hn
  simp only [Bool.and_eq_true, decide_eq_true_eq] at hn
  have each : ∀ i, i < d.rates.length → (0 < i → Op.bytesLess (d.rates.getD (i - 1) noRate).p (d.rates.getD i noRate).p = true) ∧ 0 ≤ (d.rates.getD i noRate).price ∧ (d.rates.getD i noRate).price ≤ 100000000 := fun i hi => by
    have h9 := hz i hi
    unfold rateErr at h9
    split at h9
    · cases h9
    · split at h9
      · cases h9
      · rename_i h2
        split at h9
        · cases h9
        · rename_i h3
          refine ⟨fun h0 => ?_, ?_⟩
          · cases h4 : Op.bytesLess (d.rates.getD (i - 1) noRate).p (d.rates.getD i noRate).p with
            | true => rfl
            | false => exact absurd ⟨h0, h4⟩ h2
          · have h3 : inB (d.rates.getD i noRate).price 0 100000000 = true := by simpa using h3
            unfold inB at h3
            simpa using h3
  refine ⟨hn.2.1, hn.2.2.1, hn.2.2.2, fun i h0 hi => (each i hi).1 h0, fun r hr => ?_⟩
  obtain ⟨j, hj, rfl⟩ := List.getElem_of_mem hr
  have := (each j hj).2
  rwa [List.getD_eq_getElem?_getD, List.getElem?_eq_getElem hj] at this
def PriceOfPost (r : Int × Bool) (w : World) (e : Ending) (w' : World) : Prop := e = .returned (.tuple #[.int .i64 r.1, .bool r.2]) ∧ Below w.heap.size w w'
set_option maxRecDepth 100000 in
set_option maxHeartbeats 2000000 in
theorem priceOf_any (w : World) (df ds dl dp : Int) (ra : Option Addr) (rn rc : Nat) (cs : List Rate) (l : List UInt8) (talk : Int) (hr : RateRow w ra rn cs) (hg : DeckGood ds dl dp cs) (hl : l.length ≤ 1000) (h5 : 0 ≤ talk ∧ talk ≤ 86400000) :
    Calls Tryz.prog 98 #[.agg #[.int .i64 df, .int .i64 ds, .int .i64 dl, .int .i64 dp, .slice ra rn rc], .string ⟨l.toArray⟩, .int .i64 talk] w (PriceOfPost (priceV ds dl dp cs l talk) w) := by
  obtain ⟨h1, h2, h3, ho, he⟩ := hg
  have HR := Lib.hid (rate_any (w.alloc (.cells #[.int .i64 df, .int .i64 ds, .int .i64 dl, .int .i64 dp, .slice ra rn rc] 63)) df ds dl dp ra rn rc cs l 15 (hr.below (ext_alloc (Below.refl _ _))) ho hl (by omega))
  have HV : Hid (priceV ds dl dp cs l talk = match rateOf cs l 15 with | none => (0, false) | some r => if r.closed = true then (0, false) else (priceR ds dl dp r.price talk, true)) := rfl
  have HM : Hid (∀ r, rateOf cs l 15 = some r → 0 ≤ r.price ∧ r.price ≤ 100000000) := fun r h => he r (rateTo_mem _ h)
  generalize priceV ds dl dp cs l talk = V at HV ⊢
  generalize rateOf cs l 15 = o at HV HR HM
  clear hr ho he hl
  go_enter Tryz.func98, Tryz.ntmps98
  go_upto_region 1 with (fail)
  have HD : Hid (Blk (w.alloc (.cells #[.int .i64 df, .int .i64 ds, .int .i64 dl, .int .i64 dp, .slice ra rn rc] 63)) w.heap.size [.int .i64 df, .int .i64 ds, .int .i64 dl, .int .i64 dp, .slice ra rn rc] 63) := Blk.new w [.int .i64 df, .int .i64 ds, .int .i64 dl, .int .i64 dp, .slice ra rn rc] 63
  have HB : Hid (Below w.heap.size w (w.alloc (.cells #[.int .i64 df, .int .i64 ds, .int .i64 dl, .int .i64 dp, .slice ra rn rc] 63))) := ext_alloc (Below.refl _ _)
  have hsz : w.heap.size < (w.alloc (.cells #[.int .i64 df, .int .i64 ds, .int .i64 dl, .int .i64 dp, .slice ra rn rc] 63)).heap.size := by simp
  generalize w.alloc _ = W at HD HB HR hsz ⊢
  have HRA : Hid (W.rangeAt w.heap.size 0 [.int .i64 df, .int .i64 ds, .int .i64 dl, .int .i64 dp, .slice ra rn rc]) := fun j v hj => by rw [Nat.zero_add]; exact HD.out.cell j hj
  as_aux_lemma =>
    go_wp2_with (refine wpList_load_mid rfl 63 (.tmp 3) rfl w.heap.size 0 rfl [.int .i64 df, .int .i64 ds, .int .i64 dl, .int .i64 dp, .slice ra rn rc] _ HRA.out Tryz.underlying63 rfl Tryz.deckSz ?_)
    refine HR.out.mono ?_
    rintro e w1 ⟨hb1, rfl⟩
    have HB1 := Lib.hid (ext_trans HB.out hb1)
    have HD1 := Lib.hid (HD.out.below hb1)
    have hz1 : w.heap.size < w1.heap.size := by have := hb1.size; omega
    clear hb1 HB HD HRA HR hsz
    cases o with
    | none =>
      obtain rfl : V = (0, false) := HV.out
      clear HV HM
      as_aux_lemma =>
        go_wp2_with fail
        go_ret2
        exact ⟨rfl, (by (try show Below _ _ _); repeat (with_reducible first | exact Below.refl _ _ | assumption | exact Hid.out (by assumption) | refine ext_alloc ?_ | refine ext_drewN ?_ | refine ext_drew ?_ | refine ext_setCell ?_ (Nat.le_refl _) | refine ext_setCell ?_ (Nat.le_succ _) | refine ext_trans ?_ (by assumption) | (refine ext_setCell ?_ (by simp)) | (refine ext_setCell ?_ (by simp at *; omega))))⟩
    | some r =>
      obtain ⟨rp, pr, cl⟩ := r
      obtain ⟨h40, h41⟩ := HM.out _ rfl
      clear HM
      simp only [Option.getD_some, Option.isSome_some] at h40 h41 ⊢
      cases cl with
      | true =>
        obtain rfl : V = (0, false) := HV.out
        clear HV
        as_aux_lemma =>
          go_wp2_with fail
          go_ret2
          exact ⟨rfl, (by (try show Below _ _ _); repeat (with_reducible first | exact Below.refl _ _ | assumption | exact Hid.out (by assumption) | refine ext_alloc ?_ | refine ext_drewN ?_ | refine ext_drew ?_ | refine ext_setCell ?_ (Nat.le_refl _) | refine ext_setCell ?_ (Nat.le_succ _) | refine ext_trans ?_ (by assumption) | (refine ext_setCell ?_ (by simp)) | (refine ext_setCell ?_ (by simp at *; omega))))⟩
      | false =>
        obtain rfl : V = (priceR ds dl dp pr talk, true) := HV.out
        clear HV
        have HP := Lib.hid (fun W => priceC_any W df ds dl dp ra rn rc rp pr false talk h1 h2 h3 ⟨h40, h41⟩ h5)
        have d0 := HD1.out.cell 0 rfl
        have d1 := HD1.out.cell 1 rfl
        have d2 := HD1.out.cell 2 rfl
        have d3 := HD1.out.cell 3 rfl
        have d4 := HD1.out.cell 4 rfl
        have hne : w.heap.size ≠ w1.heap.size := by omega
        have hne2 : w1.heap.size ≠ w.heap.size := by omega
        as_aux_lemma =>
          go_wp2_with fail
          refine (HP.out _).mono ?_
          rintro e w2 ⟨rfl, hb2⟩
          have HB2 := Lib.hid hb2
          go_wp2_with fail
          go_ret2
          exact ⟨rfl, (by (try show Below _ _ _); repeat (with_reducible first | exact Below.refl _ _ | assumption | exact Hid.out (by assumption) | refine ext_alloc ?_ | refine ext_drewN ?_ | refine ext_drew ?_ | refine ext_setCell ?_ (Nat.le_refl _) | refine ext_setCell ?_ (Nat.le_succ _) | refine ext_trans ?_ (by assumption) | (refine ext_setCell ?_ (by simp)) | (refine ext_setCell ?_ (by simp at *; omega))))⟩
theorem priceOf_str (w : World) (df ds dl dp : Int) (ra : Option Addr) (rn rc : Nat) (cs : List Rate) (l : List UInt8) (s : ByteArray) (hs : s = ⟨l.toArray⟩) (talk : Int) (hr : RateRow w ra rn cs) (hg : DeckGood ds dl dp cs) (hl : l.length ≤ 1000) (h5 : 0 ≤ talk ∧ talk ≤ 86400000) :
    Calls Tryz.prog 98 #[.agg #[.int .i64 df, .int .i64 ds, .int .i64 dl, .int .i64 dp, .slice ra rn rc], .string s, .int .i64 talk] w (PriceOfPost (priceV ds dl dp cs l talk) w) := by
  subst hs
  exact priceOf_any w df ds dl dp ra rn rc cs l talk hr hg hl h5
/-- The error of Price; what it answers. -/
def priceE (d : Deck) (n : List UInt8) (talk : Int) : Int := if deckErr d ≠ 0 then deckErr d else if isNumB n = false then 3 else if inB talk 0 86400000 = false then 1 else 0
def priceA (d : Deck) (n : List UInt8) (talk : Int) : Int × Bool := if priceE d n talk = 0 then priceV d.setup d.least d.step d.rates (n.drop 1) talk else (0, false)
def PricePost (d : Deck) (n : List UInt8) (talk : Int) (w : World) (e : Ending) (w' : World) : Prop := e = .returned (.tuple #[.int .i64 (priceA d n talk).1, .bool (priceA d n talk).2, .int .i64 (priceE d n talk)]) ∧ Below w.heap.size w w'
theorem price_bad {d : Deck} {n : List UInt8} {talk E : Int} {w w' : World} (h : priceE d n talk = E) (hE : E ≠ 0) (hb : Below w.heap.size w w') : PricePost d n talk w (.returned (.tuple #[.int .i64 0, .bool false, .int .i64 E])) w' := by
  unfold PricePost priceA
  rw [h, if_neg hE]
  exact ⟨rfl, hb⟩
theorem price_fine {d : Deck} {n : List UInt8} {talk : Int} {w w' : World} (h : priceE d n talk = 0) (hb : Below w.heap.size w w') : PricePost d n talk w (.returned (.tuple #[.int .i64 (priceV d.setup d.least d.step d.rates (n.drop 1) talk).1, .bool (priceV d.setup d.least d.step d.rates (n.drop 1) talk).2, .int .i64 0])) w' := by
  unfold PricePost priceA
  rw [h, if_pos rfl]
  exact ⟨rfl, hb⟩
set_option maxRecDepth 100000 in
set_option maxHeartbeats 2000000 in
theorem carPrice_any (w : World) (d : Deck) (hd : DeckFine w d) (n : List UInt8) (hn : n.length ≤ 1000) (talk : Int) : Calls Tryz.prog 65 #[.agg d.cells.toArray, .string ⟨n.toArray⟩, .int .i64 talk] w (PricePost d n talk w) := by
  have hlen := hd.row.len
  have hfew := hd.row.few
  have hgood := fun h => deck_good (d := d) (by omega) h
  have HG := Lib.hid hgood
  have HCD := Lib.hid (fun W (h : DeckFine W d) => checkDeck_any W d h)
  have HE : Hid (∀ E, priceE d n talk = E → priceE d n talk = E) := fun _ h => h
  have HR0 := Lib.hid hd
  have HBD : Hid (∀ W, Below w.heap.size w W → ∀ E, E ≠ 0 → priceE d n talk = E → PricePost d n talk w (.returned (.tuple #[.int .i64 0, .bool false, .int .i64 E])) W) := fun W hW E hE h => price_bad h hE hW
  have HOK : Hid (∀ W, Below w.heap.size w W → priceE d n talk = 0 → PricePost d n talk w (.returned (.tuple #[.int .i64 (priceV d.setup d.least d.step d.rates (n.drop 1) talk).1, .bool (priceV d.setup d.least d.step d.rates (n.drop 1) talk).2, .int .i64 0])) W) := fun W hW h => price_fine h hW
  have HEE : Hid (priceE d n talk = if deckErr d ≠ 0 then deckErr d else if isNumB n = false then 3 else if inB talk 0 86400000 = false then 1 else 0) := rfl
  generalize priceE d n talk = X at HBD HOK HEE
  clear hd hlen hfew hgood HE
  obtain ⟨df, ds, dl, dp, ra, rn, rc, rates⟩ := d
  generalize hpp : PricePost ⟨df, ds, dl, dp, ra, rn, rc, rates⟩ n talk w = PP at HBD HOK ⊢
  clear hpp
  generalize deckErr ⟨df, ds, dl, dp, ra, rn, rc, rates⟩ = DE at HEE HG HCD
  show Calls Tryz.prog 65 #[.agg #[.int .i64 df, .int .i64 ds, .int .i64 dl, .int .i64 dp, .slice ra rn rc], .string ⟨n.toArray⟩, .int .i64 talk] w _
  simp only [Deck.cells] at HG HOK HCD
  go_enter Tryz.func65, Tryz.ntmps65
  go_upto_region 1 with (fail)
  have HD : Hid (Blk (w.alloc (.cells #[.int .i64 df, .int .i64 ds, .int .i64 dl, .int .i64 dp, .slice ra rn rc] 63)) w.heap.size [.int .i64 df, .int .i64 ds, .int .i64 dl, .int .i64 dp, .slice ra rn rc] 63) := Blk.new w [.int .i64 df, .int .i64 ds, .int .i64 dl, .int .i64 dp, .slice ra rn rc] 63
  have HB : Hid (Below w.heap.size w (w.alloc (.cells #[.int .i64 df, .int .i64 ds, .int .i64 dl, .int .i64 dp, .slice ra rn rc] 63))) := ext_alloc (Below.refl _ _)
  have hsz : w.heap.size < (w.alloc (.cells #[.int .i64 df, .int .i64 ds, .int .i64 dl, .int .i64 dp, .slice ra rn rc] 63)).heap.size := by simp
  generalize w.alloc _ = W at HD HB hsz ⊢
  have HRA : Hid (W.rangeAt w.heap.size 0 [.int .i64 df, .int .i64 ds, .int .i64 dl, .int .i64 dp, .slice ra rn rc]) := fun j v hj => by rw [Nat.zero_add]; exact HD.out.cell j hj
  as_aux_lemma =>
    go_wp2_with (refine wpList_load_mid rfl 63 (.tmp 3) rfl w.heap.size 0 rfl [.int .i64 df, .int .i64 ds, .int .i64 dl, .int .i64 dp, .slice ra rn rc] _ HRA.out Tryz.underlying63 rfl Tryz.deckSz ?_)
    refine (HCD.out _ (HR0.out.below HB.out)).mono ?_
    rintro e w1 ⟨rfl, hb1⟩
    have HB1 := Lib.hid (ext_trans HB.out hb1)
    have HD1 := Lib.hid (HD.out.below hb1)
    have hz1 : w.heap.size < w1.heap.size := by have := hb1.size; omega
    clear hb1 HB HD HRA HCD hsz
    by_cases hDE : DE = 0
    case neg =>
      obtain rfl : X = DE := by rw [HEE.out, if_pos hDE]
      have HF := Lib.hid (HBD.out w1 HB1.out X hDE rfl)
      clear HBD HOK HEE HG
      as_aux_lemma =>
        go_wp2_with fail
        go_ret3
        exact HF.out
    subst hDE
    have HE1 : Hid (X = if isNumB n = false then 3 else if inB talk 0 86400000 = false then 1 else 0) := by show X = _; rw [HEE.out, if_neg (by decide)]
    clear HEE
    have HIN := Lib.hid (isNumber_l n w1 (by omega))
    have HNL : Hid (isNumB n = true → 1 ≤ n.length) := fun h => by obtain ⟨d, rfl, -⟩ := num_parts h; simp
    generalize isNumB n = g1 at HE1 HIN HNL
    skip
    as_aux_lemma =>
      go_wp2_with fail
      refine HIN.out.mono ?_
      rintro e w2 ⟨rfl, hb2⟩
      have HB2 := Lib.hid (ext_trans HB1.out hb2)
      have HD2 := Lib.hid (HD1.out.below hb2)
      have hz2 : w.heap.size < w2.heap.size := by have := hb2.size; omega
      clear hb2 HB1 HD1 HIN
      cases g1
      · obtain rfl : X = 3 := by rw [HE1.out, if_pos rfl]
        have HF := Lib.hid (HBD.out w2 HB2.out 3 (by decide) rfl)
        clear HBD HOK HE1 HG
        skip
        as_aux_lemma =>
          go_wp2_with fail
          go_ret3
          exact HF.out
      have HE2 : Hid (X = if inB talk 0 86400000 = false then 1 else 0) := by show X = _; rw [HE1.out, if_neg (by decide)]
      have HTK : Hid (inB talk 0 86400000 = true → 0 ≤ talk ∧ talk ≤ 86400000) := fun h => by unfold inB at h; simpa using h
      clear HE1
      skip
      as_aux_lemma =>
        go_wp2_with fail
        refine (within_c talk 0 86400000 _).mono ?_
        rintro e w3 ⟨rfl, rfl⟩
        generalize inB talk 0 86400000 = g2 at HE2 HTK ⊢
        cases g2
        · obtain rfl : X = 1 := by rw [HE2.out, if_pos rfl]
          have HF := Lib.hid (HBD.out w2 HB2.out 1 (by decide) rfl)
          clear HBD HOK HE2 HG
          skip
          as_aux_lemma =>
            go_wp2_with fail
            go_ret3
            exact HF.out
        obtain rfl : X = 0 := by rw [HE2.out, if_neg (by decide)]
        have ht := HTK.out rfl
        have HF := Lib.hid (fun W hW => HOK.out W hW rfl)
        have HDG := Lib.hid (HG.out (by trivial))
        clear HBD HOK HE2 HG HTK
        have HRA : Hid (w2.rangeAt w.heap.size 0 [.int .i64 df, .int .i64 ds, .int .i64 dl, .int .i64 dp, .slice ra rn rc]) := fun j v hj => by rw [Nat.zero_add]; exact HD2.out.cell j hj
        have HRR : Hid (RateRow w2 ra rn rates) := (HR0.out.below HB2.out).row
        have hnd : (n.drop 1).length ≤ 1000 := by rw [List.length_drop]; omega
        simp only [List.drop_one] at HF
        have hn1 : 1 ≤ n.length := HNL.out (by trivial)
        have d0 := HD2.out.cell 0 rfl
        have d1 := HD2.out.cell 1 rfl
        have d2 := HD2.out.cell 2 rfl
        have d3 := HD2.out.cell 3 rfl
        have d4 := HD2.out.cell 4 rfl
        clear HNL HR0 HD2
        have HPO : Hid (∀ W, Below w2.heap.size w2 W → Calls Tryz.prog 98 #[.agg #[.int .i64 df, .int .i64 ds, .int .i64 dl, .int .i64 dp, .slice ra rn rc], .string ((⟨n.toArray⟩ : ByteArray).extract 1 n.length), .int .i64 talk] W (PriceOfPost (priceV ds dl dp rates (n.drop 1) talk) W)) := fun W hW => priceOf_str W df ds dl dp ra rn rc rates (n.drop 1) _ (extract_drop n 1) talk (HRR.out.below hW) HDG.out hnd ht
        go_wp2_with fail
        go_region_with (go_at_call 98; refine (HPO.out _ (ext_drew (Below.refl _ _))).mono ?_; rintro e w3 ⟨rfl, hb3⟩)
        all_goals
          have HF3 := Lib.hid (HF.out _ (ext_trans (ext_drew HB2.out) hb3))
          clear HF hb3
          go_wp2_with fail
          go_ret3
          exact HF3.out
end Go.Proofs.YtppinnjdaoaddaaGreatDoor

set_option linter.unusedVariables false
set_option linter.unusedSimpArgs false
namespace Go.Proofs.YtppinnjdaoaddaaGreatDoor
open Go.RowKit

def dkv (o : Option Deck) : List Value := [.int .i64 (o.getD noDeck).from_, .int .i64 (o.getD noDeck).setup, .int .i64 (o.getD noDeck).least, .int .i64 (o.getD noDeck).step, .slice (o.getD noDeck).ra (o.getD noDeck).rn (o.getD noDeck).rc]
theorem below5 {w W : World} {G : Nat} (hG : w.heap.size ≤ G) (h : Below w.heap.size w W) (vs : List Value) : Below w.heap.size w (W.setCells G 0 vs) := h.trans ((below_setCells hG vs W 0))
theorem rate_row0R (w : World) : RateRow w none 0 [] := ⟨⟨rfl, Or.inl rfl⟩, by omega, fun i hi => by cases hi⟩
theorem lastD_memR (ps : List Deck) (t : Int) : ∀ k, k ≤ ps.length → ∀ d, lastD ps t k = some d → d ∈ ps
  | 0, _, d, h => by cases h
  | k + 1, hk, d, h => by
    unfold lastD at h
    split at h
    · injection h with h; subst h; exact mem_getD _ (by omega)
    · exact lastD_memR ps t k (by omega) d h
theorem deckV_fineR {w : World} {a : Option Addr} {m : Nat} {ps : List Deck} (h : DeckRow w a m ps) (t : Int) : RateRow w ((deckV ps t).getD noDeck).ra ((deckV ps t).getD noDeck).rn ((deckV ps t).getD noDeck).rates := by
  cases h9 : deckV ps t with
  | none => exact rate_row0R w
  | some d =>
    obtain ⟨j, hj, rfl⟩ := List.getElem_of_mem (lastD_memR ps t ps.length (Nat.le_refl _) d h9)
    have := (h.each j hj).row
    rw [List.getD_eq_getElem?_getD, List.getElem?_eq_getElem hj] at this
    exact this
set_option maxRecDepth 100000 in
set_option maxHeartbeats 8000000 in
theorem deckOf_any (w : World) (ky : List UInt8) (ln : Int) (a : Option Addr) (m cap : Nat) (ps : List Deck) (hp : DeckRow w a m ps) (hcap : m ≤ cap) (t : Int) :
    Calls Tryz.prog 32 #[.agg #[.string ⟨ky.toArray⟩, .int .i64 ln, .slice a m cap], .int .i64 t] w (DeckAns (deckV ps t) w) := by
  have HP := Lib.hid hp
  have HLEN := Lib.hid hp.len
  have hfew := hp.few
  clear hp
  have HOK : Hid (∀ W, Below w.heap.size w W → DeckAns (deckV ps t) w (.returned (.tuple #[.agg #[.int .i64 ((deckV ps t).getD noDeck).from_, .int .i64 ((deckV ps t).getD noDeck).setup, .int .i64 ((deckV ps t).getD noDeck).least, .int .i64 ((deckV ps t).getD noDeck).step, .slice ((deckV ps t).getD noDeck).ra ((deckV ps t).getD noDeck).rn ((deckV ps t).getD noDeck).rc], .bool (deckV ps t).isSome])) W) := fun W hW => ⟨rfl, hW⟩
  have HDV : Hid (deckV ps t = lastD ps t ps.length) := rfl
  generalize hPP : DeckAns (deckV ps t) w = PP at HOK ⊢
  clear hPP
  go_enter Tryz.func32, Tryz.ntmps32
  go_upto_region 2 with (fail)
  have HC0 : Hid (Blk (((w.alloc (.cells #[.string ⟨ky.toArray⟩, .int .i64 ln, .slice a m cap] 72)).alloc (.cells #[.int .i64 0, .int .i64 0, .int .i64 0, .int .i64 0, .slice none 0 0] 63)).alloc (.cells #[.int .i64 0, .int .i64 0, .int .i64 0, .int .i64 0, .slice none 0 0] 63)) w.heap.size [.string ⟨ky.toArray⟩, .int .i64 ln, .slice a m cap] 72) := ((Blk.new w [.string ⟨ky.toArray⟩, .int .i64 ln, .slice a m cap] 72).alloc _).alloc _
  have HG0 : Hid (Blk (((w.alloc (.cells #[.string ⟨ky.toArray⟩, .int .i64 ln, .slice a m cap] 72)).alloc (.cells #[.int .i64 0, .int .i64 0, .int .i64 0, .int .i64 0, .slice none 0 0] 63)).alloc (.cells #[.int .i64 0, .int .i64 0, .int .i64 0, .int .i64 0, .slice none 0 0] 63)) (w.heap.size + 1) [.int .i64 0, .int .i64 0, .int .i64 0, .int .i64 0, .slice none 0 0] 63) := by
    have := (Blk.new (w.alloc (.cells #[.string ⟨ky.toArray⟩, .int .i64 ln, .slice a m cap] 72)) [.int .i64 0, .int .i64 0, .int .i64 0, .int .i64 0, .slice none 0 0] 63).alloc (.cells #[.int .i64 0, .int .i64 0, .int .i64 0, .int .i64 0, .slice none 0 0] 63)
    show Blk _ _ _ _
    simpa using this
  have HY0 : Hid (Blk (((w.alloc (.cells #[.string ⟨ky.toArray⟩, .int .i64 ln, .slice a m cap] 72)).alloc (.cells #[.int .i64 0, .int .i64 0, .int .i64 0, .int .i64 0, .slice none 0 0] 63)).alloc (.cells #[.int .i64 0, .int .i64 0, .int .i64 0, .int .i64 0, .slice none 0 0] 63)) (w.heap.size + 1 + 1) (dkv none) 63) := by
    have := Blk.new ((w.alloc (.cells #[.string ⟨ky.toArray⟩, .int .i64 ln, .slice a m cap] 72)).alloc (.cells #[.int .i64 0, .int .i64 0, .int .i64 0, .int .i64 0, .slice none 0 0] 63)) [.int .i64 0, .int .i64 0, .int .i64 0, .int .i64 0, .slice none 0 0] 63
    show Blk _ _ _ _
    simpa [dkv, noDeck] using this
  have HB0 : Hid (Below w.heap.size w (((w.alloc (.cells #[.string ⟨ky.toArray⟩, .int .i64 ln, .slice a m cap] 72)).alloc (.cells #[.int .i64 0, .int .i64 0, .int .i64 0, .int .i64 0, .slice none 0 0] 63)).alloc (.cells #[.int .i64 0, .int .i64 0, .int .i64 0, .int .i64 0, .slice none 0 0] 63))) := ext_alloc (ext_alloc (ext_alloc (Below.refl _ _)))
  generalize (((w.alloc (.cells #[.string ⟨ky.toArray⟩, .int .i64 ln, .slice a m cap] 72)).alloc (.cells #[.int .i64 0, .int .i64 0, .int .i64 0, .int .i64 0, .slice none 0 0] 63)).alloc (.cells #[.int .i64 0, .int .i64 0, .int .i64 0, .int .i64 0, .slice none 0 0] 63)) = W0 at HC0 HG0 HY0 HB0 ⊢
  have c2 := HC0.out.cell 2 rfl
  as_aux_lemma =>
    go_wp2_with fail
    go_loopw [7, 14] (fun v7 it wr => ∃ k : Nat, k ≤ m ∧ it = .int .i64 k ∧ v7 = .bool (lastD ps t k).isSome ∧ Hid (Blk wr (w.heap.size + 1) [.int .i64 0, .int .i64 0, .int .i64 0, .int .i64 0, .slice none 0 0] 63) ∧ Hid (Blk wr (w.heap.size + 1 + 1) (dkv (lastD ps t k)) 63) ∧ Hid (Below w.heap.size w wr)) (fun _ it _ => m - (intOf it).toNat)
    case atStart => exact ⟨0, Nat.zero_le _, rfl, rfl, HG0.out, HY0.out, HB0.out⟩
    case round =>
      clear HC0 HG0 HY0 HB0 c2
      obtain ⟨k, hk, rfl, rfl, HG, HY, HB⟩ := hrel
      by_cases hlt : k < m
      case neg =>
        obtain rfl : k = m := by omega
        have hge : ¬ (k : Int) < (k : Int) := by omega
        have hle : k = ps.length := HLEN.out
        subst hle
        have HRA : Hid (wr.rangeAt (w.heap.size + 1 + 1) 0 [.int .i64 ((lastD ps t ps.length).getD noDeck).from_, .int .i64 ((lastD ps t ps.length).getD noDeck).setup, .int .i64 ((lastD ps t ps.length).getD noDeck).least, .int .i64 ((lastD ps t ps.length).getD noDeck).step, .slice ((lastD ps t ps.length).getD noDeck).ra ((lastD ps t ps.length).getD noDeck).rn ((lastD ps t ps.length).getD noDeck).rc]) := fun j v hj => by rw [Nat.zero_add]; exact HY.out.cell j hj
        have HTH : Hid (wr.there (w.heap.size + 1) 0 5) := HG.out.th 5 (by simp)
        have HF9 := Lib.hid (HOK.out (wr.setCells (w.heap.size + 1) 0 [.int .i64 ((lastD ps t ps.length).getD noDeck).from_, .int .i64 ((lastD ps t ps.length).getD noDeck).setup, .int .i64 ((lastD ps t ps.length).getD noDeck).least, .int .i64 ((lastD ps t ps.length).getD noDeck).step, .slice ((lastD ps t ps.length).getD noDeck).ra ((lastD ps t ps.length).getD noDeck).rn ((lastD ps t ps.length).getD noDeck).rc]) (below5 (by omega) HB.out _))
        rw [HDV.out] at HF9
        have HR9 : Hid (Blk (wr.setCells (w.heap.size + 1) 0 [.int .i64 ((lastD ps t ps.length).getD noDeck).from_, .int .i64 ((lastD ps t ps.length).getD noDeck).setup, .int .i64 ((lastD ps t ps.length).getD noDeck).least, .int .i64 ((lastD ps t ps.length).getD noDeck).step, .slice ((lastD ps t ps.length).getD noDeck).ra ((lastD ps t ps.length).getD noDeck).rn ((lastD ps t ps.length).getD noDeck).rc]) (w.heap.size + 1) [.int .i64 ((lastD ps t ps.length).getD noDeck).from_, .int .i64 ((lastD ps t ps.length).getD noDeck).setup, .int .i64 ((lastD ps t ps.length).getD noDeck).least, .int .i64 ((lastD ps t ps.length).getD noDeck).step, .slice ((lastD ps t ps.length).getD noDeck).ra ((lastD ps t ps.length).getD noDeck).rn ((lastD ps t ps.length).getD noDeck).rc] 63) := (((((HG.out.put 0 _).put 1 _).put 2 _).put 3 _).put 4 _)
        clear hlt HG HY HB HOK HP
        as_aux_lemma =>
          go_wp2_with (first | (refine wpList_load_mid rfl 63 (.tmp 6) rfl (w.heap.size + 1 + 1) 0 rfl [.int .i64 ((lastD ps t ps.length).getD noDeck).from_, .int .i64 ((lastD ps t ps.length).getD noDeck).setup, .int .i64 ((lastD ps t ps.length).getD noDeck).least, .int .i64 ((lastD ps t ps.length).getD noDeck).step, .slice ((lastD ps t ps.length).getD noDeck).ra ((lastD ps t ps.length).getD noDeck).rn ((lastD ps t ps.length).getD noDeck).rc] _ HRA.out Tryz.underlying63 rfl Tryz.deckSz ?_) | (refine wpList_store_mid rfl 63 (.tmp 4) (.tmp 24) rfl (w.heap.size + 1) 0 #[.int .i64 ((lastD ps t ps.length).getD noDeck).from_, .int .i64 ((lastD ps t ps.length).getD noDeck).setup, .int .i64 ((lastD ps t ps.length).getD noDeck).least, .int .i64 ((lastD ps t ps.length).getD noDeck).step, .slice ((lastD ps t ps.length).getD noDeck).ra ((lastD ps t ps.length).getD noDeck).rn ((lastD ps t ps.length).getD noDeck).rc] rfl rfl HTH.out Tryz.deckSz (by simp [Value.oneCell']) ?_; generalize World.setCells wr (w.heap.size + 1) 0 _ = W9 at HF9 HR9 ⊢))
          refine bodyPost_ret (v := .tuple #[.agg #[.int .i64 ((lastD ps t ps.length).getD noDeck).from_, .int .i64 ((lastD ps t ps.length).getD noDeck).setup, .int .i64 ((lastD ps t ps.length).getD noDeck).least, .int .i64 ((lastD ps t ps.length).getD noDeck).step, .slice ((lastD ps t ps.length).getD noDeck).ra ((lastD ps t ps.length).getD noDeck).rn ((lastD ps t ps.length).getD noDeck).rc], .bool (lastD ps t ps.length).isSome]) ?_ rfl HF9.out
          exact results_cell2 (t := 4) (u := 5) (by rfl) _ _ _ Tryz.isAgg63 Tryz.sizeOf63 (by rfl) [.int .i64 ((lastD ps t ps.length).getD noDeck).from_, .int .i64 ((lastD ps t ps.length).getD noDeck).setup, .int .i64 ((lastD ps t ps.length).getD noDeck).least, .int .i64 ((lastD ps t ps.length).getD noDeck).step, .slice ((lastD ps t ps.length).getD noDeck).ra ((lastD ps t ps.length).getD noDeck).rn ((lastD ps t ps.length).getD noDeck).rc] rfl (fun j v hj => HR9.out.cell j hj)
      have hlti : (k : Int) < (m : Int) := by omega
      obtain ⟨b, off, rfl, hb, hc⟩ := (HP.out.below HB.out).at (by omega)
      obtain ⟨c0, c1, c2, c3, c4⟩ := hc k hlt
      have hw1 : w.heap.size + 1 + 1 < wr.heap.size := HY.out.lt
      have HE : Hid (lastD ps t (k + 1) = if (ps.getD k noDeck).from_ ≤ t then some (ps.getD k noDeck) else lastD ps t k) := rfl
      clear hc
      generalize ps.getD k noDeck = d at c0 c1 c2 c3 c4 HE
      obtain ⟨df, ds, dl, dp, ra, rn, rc, rates⟩ := d
      simp only at c0 c1 c2 c3 c4 HE
      have HRC : Hid (wr.rangeAt b (off + k * 5) [.int .i64 df, .int .i64 ds, .int .i64 dl, .int .i64 dp, .slice ra rn rc]) := fun j v hj => by
        match j, hj with
        | 0, hj => simp at hj; subst hj; exact c0
        | 1, hj => simp at hj; subst hj; exact c1
        | 2, hj => simp at hj; subst hj; exact c2
        | 3, hj => simp at hj; subst hj; exact c3
        | 4, hj => simp at hj; subst hj; exact c4
      have HTX : Hid ((wr.alloc (.cells #[.int .i64 0, .int .i64 0, .int .i64 0, .int .i64 0, .slice none 0 0] 63)).there wr.heap.size 0 5) := (Blk.new wr [.int .i64 0, .int .i64 0, .int .i64 0, .int .i64 0, .slice none 0 0] 63).th 5 (by decide)
      have HX1 : Hid (Blk (World.setCells (wr.alloc (.cells #[.int .i64 0, .int .i64 0, .int .i64 0, .int .i64 0, .slice none 0 0] 63)) wr.heap.size 0 [.int .i64 df, .int .i64 ds, .int .i64 dl, .int .i64 dp, .slice ra rn rc]) wr.heap.size [.int .i64 df, .int .i64 ds, .int .i64 dl, .int .i64 dp, .slice ra rn rc] 63) := ((((((Blk.new wr [.int .i64 0, .int .i64 0, .int .i64 0, .int .i64 0, .slice none 0 0] 63).put 0 _).put 1 _).put 2 _).put 3 _).put 4 _)
      have hA : Below wr.heap.size wr (World.setCells (wr.alloc (.cells #[.int .i64 0, .int .i64 0, .int .i64 0, .int .i64 0, .slice none 0 0] 63)) wr.heap.size 0 [.int .i64 df, .int .i64 ds, .int .i64 dl, .int .i64 dp, .slice ra rn rc]) := below5 (Nat.le_refl _) (ext_alloc (Below.refl _ _)) _
      have HG1 := Lib.hid (HG.out.below hA)
      have HY1 := Lib.hid (HY.out.below hA)
      have HB1 := Lib.hid (ext_trans HB.out hA)
      clear hA HG HY HB c0 c1 c2 c3 c4
      as_aux_lemma =>
        go_upto_region 5 with (first | (refine wpList_load_mid rfl 63 (.tmp 16) rfl b (off + k * 5) rfl [.int .i64 df, .int .i64 ds, .int .i64 dl, .int .i64 dp, .slice ra rn rc] _ HRC.out Tryz.underlying63 rfl Tryz.deckSz ?_) | (refine wpList_store_mid rfl 63 (.tmp 9) (.tmp 17) rfl wr.heap.size 0 #[.int .i64 df, .int .i64 ds, .int .i64 dl, .int .i64 dp, .slice ra rn rc] rfl rfl HTX.out Tryz.deckSz (by simp [Value.oneCell']) ?_; generalize World.setCells (wr.alloc (.cells #[.int .i64 0, .int .i64 0, .int .i64 0, .int .i64 0, .slice none 0 0] 63)) wr.heap.size 0 _ = w1 at HX1 HG1 HY1 HB1 ⊢))
        clear HRC HTX
        generalize wr.heap.size = X at HX1 hw1 ⊢
        have x0 := HX1.out.cell 0 rfl
        by_cases hle : df ≤ t
        · have HO2 : Hid (lastD ps t (k + 1) = some ⟨df, ds, dl, dp, ra, rn, rc, rates⟩) := by show _ = _; rw [HE.out, if_pos hle]
          have HRX : Hid (w1.rangeAt X 0 [.int .i64 df, .int .i64 ds, .int .i64 dl, .int .i64 dp, .slice ra rn rc]) := fun j v hj => by rw [Nat.zero_add]; exact HX1.out.cell j hj
          have HTY : Hid (w1.there (w.heap.size + 1 + 1) 0 5) := HY1.out.th 5 (by simp [dkv])
          have HG2 : Hid (Blk (World.setCells w1 (w.heap.size + 1 + 1) 0 [.int .i64 df, .int .i64 ds, .int .i64 dl, .int .i64 dp, .slice ra rn rc]) (w.heap.size + 1) [.int .i64 0, .int .i64 0, .int .i64 0, .int .i64 0, .slice none 0 0] 63) := (((((HG1.out.far (by show w.heap.size + 1 + 1 ≠ w.heap.size + 1; omega)).far (by show w.heap.size + 1 + 1 ≠ w.heap.size + 1; omega)).far (by show w.heap.size + 1 + 1 ≠ w.heap.size + 1; omega)).far (by show w.heap.size + 1 + 1 ≠ w.heap.size + 1; omega)).far (by show w.heap.size + 1 + 1 ≠ w.heap.size + 1; omega))
          have HY2 : Hid (Blk (World.setCells w1 (w.heap.size + 1 + 1) 0 [.int .i64 df, .int .i64 ds, .int .i64 dl, .int .i64 dp, .slice ra rn rc]) (w.heap.size + 1 + 1) [.int .i64 df, .int .i64 ds, .int .i64 dl, .int .i64 dp, .slice ra rn rc] 63) := (((((HY1.out.put 0 _).put 1 _).put 2 _).put 3 _).put 4 _)
          have HB2 : Hid (Below w.heap.size w (World.setCells w1 (w.heap.size + 1 + 1) 0 [.int .i64 df, .int .i64 ds, .int .i64 dl, .int .i64 dp, .slice ra rn rc])) := below5 (by omega) HB1.out _
          clear HE HG1 HY1 HB1 HX1
          as_aux_lemma =>
            go_wp2_with (first | (refine wpList_load_mid rfl 63 (.tmp 9) rfl X 0 rfl [.int .i64 df, .int .i64 ds, .int .i64 dl, .int .i64 dp, .slice ra rn rc] _ HRX.out Tryz.underlying63 rfl Tryz.deckSz ?_) | (refine wpList_store_mid rfl 63 (.tmp 6) (.tmp 22) rfl (w.heap.size + 1 + 1) 0 #[.int .i64 df, .int .i64 ds, .int .i64 dl, .int .i64 dp, .slice ra rn rc] rfl rfl HTY.out Tryz.deckSz (by simp [Value.oneCell']) ?_; generalize World.setCells w1 (w.heap.size + 1 + 1) 0 _ = w2 at HG2 HY2 HB2 ⊢))
            go_roundw
            case rel => exact ⟨k + 1, by omega, by go_num, by first | (rw [HO2.out]; done) | (rw [HO2.out]; rfl), HG2.out, by rw [HO2.out]; exact HY2.out, HB2.out⟩
            case measure => simp [intOf]; omega
        · have HO2 : Hid (lastD ps t (k + 1) = lastD ps t k) := by show _ = _; rw [HE.out, if_neg hle]
          clear HE HX1
          as_aux_lemma =>
            go_wp2_with fail
            go_roundw
            case rel => exact ⟨k + 1, by omega, by go_num, by first | (rw [HO2.out]; done) | (rw [HO2.out]; rfl), HG1.out, by rw [HO2.out]; exact HY1.out, HB1.out⟩
            case measure => simp [intOf]; omega
end Go.Proofs.YtppinnjdaoaddaaGreatDoor
