/- What is proved here: lemmas and contracts for the statement, put together out of smaller texts (BcnThr, BcnPrs, BcnIdx, ReadyD, ReadyE, ReadyQ, ReadyV). No condition beyond those stated. -/
import Derived.Test.YtamoclofloijpaaGreatDoorPtPkI
import Derived.Test.YtamoclofloijpaaGreatDoorPtPkJ
import Derived.Test.YtamoclofloijpaaGreatDoorPtPkB
import Derived.Test.YtamoclofloijpaaGreatDoorPtPkA
import Derived.Deep.DeepCutAuto
import Derived.IntWalk
import Derived.Test.YtamoclofloijpaaGreatDoorPtPkD
import Derived.Test.YtamoclofloijpaaGreatDoorPtPkC
import Derived.Test.YtamoclofloijpaaGreatDoorShelfIdb
import Derived.LoopN
import Derived.Deep.AppendLies
import Derived.Deep.RegionLaw
import Derived.Outline
set_option linter.unusedVariables false
set_option linter.unusedSimpArgs false
namespace Go.Proofs.YtamoclofloijpaaGreatDoor
open Go.RowKit Go.Sort Go.Lib

theorem Tryz.infoIntT : (Tryz.prog.info? 3).map (fun i => (i.zero, i.size, i.bytes)) = some (some (.int .i64 0), 1, 8) := by kernel_rfl
theorem own_two {w : World} {base : Nat} {a z : Int} (hb : base ≤ w.heap.size) : (w.alloc (.cells #[.int .i64 a, .int .i64 z] 3)).ownsRow base 3 1 (.slice (some ⟨w.heap.size, 0, none⟩) 2 2) 2 ([a, z].map (Value.int .i64)) :=
  ⟨rfl, .inr ⟨w.heap.size, 2, #[.int .i64 a, .int .i64 z], rfl, hb, (Blk.new w [.int .i64 a, .int .i64 z] 3).at_, by omega, by decide, rfl, rfl⟩⟩
theorem own_int {w : World} {base g n cap : Nat} {e : TypeId} {xs : List Int} (h : w.ownsRow base e 1 (.slice (some ⟨g, 0, none⟩) n cap) n (xs.map (Value.int .i64))) (i : Nat) (hi : i < xs.length) : w.cell? ⟨g, i, none⟩ = some (.int .i64 (xs.getD i 0)) := by
  have hl : xs.length = n := by have := h.1; simpa using this
  rw [h.cellAt i (by omega), getD_map_int .i64 xs i hi]
theorem own_room {w : World} {base : Nat} {e : TypeId} {size : Nat} {v : Value} {n : Nat} {xs : List Value} (h : w.ownsRow base e size v n xs) (hn : 0 < n) : base ≤ w.heap.size := by
  obtain ⟨a, c, rfl⟩ := own_shape h
  obtain ⟨g, _, h1, h2⟩ := own_pos h hn
  omega
theorem gb_low {S g : Nat} {w w' : World} (hg : w.grownBy w' (some g)) (hS : S ≤ w.heap.size) (h : S ≤ g) : Below S w w' := ⟨hg.os, hg.tape, hg.output, hg.size, fun j hj => hg.block j (by omega) (fun e => by injection e with e; omega)⟩
theorem belowL {L B : Nat} {a w : World} (hL : L = a.heap.size) (hA : L ≤ B) (h : Below L a w) (vs : List Value) (k : Nat) : Below L a (w.setCells B k vs) := by subst hL; exact belowB hA h vs k
theorem belowS {L B : Nat} {a w : World} (hL : L = a.heap.size) (hA : L ≤ B) (h : Below L a w) (u : Value) (k : Nat) : Below L a (w.setCell ⟨B, k, none⟩ u) := belowL hL hA h [u] k
theorem own_setN {w : World} {Q i base e size : Nat} {us : List Value} {v : Value} {n : Nat} {xs : List Value} (h : w.ownsRow base e size v n xs) (hn : v.ownBlock ≠ some Q) : (w.setCells Q i us).ownsRow base e size v n xs := own_gb h (setCells_gb Q us i) (fun b hb e => hn (by rw [hb, e]))
theorem zero_bcn (e : Operand → Value) (o : Oper) (w : World) (ho : o.op = .build 35 #[]) : (execOp e o).run Tryz.prog w = .ok (.value (.agg #[.string ⟨#[]⟩, .string ⟨#[]⟩, .int .i64 0, .int .i64 0, .int .i64 0, .string ⟨#[]⟩])) w := by
  unfold execOp
  rw [ho]
  kernel_rfl
theorem cell_setT {w : World} {T i g j : Nat} {u : Value} (h : g ≠ T) : (w.setCell ⟨T, i, none⟩ u).cell? ⟨g, j, none⟩ = w.cell? ⟨g, j, none⟩ := World.cell?_setCell_other _ _ _ _ (by intro e; injection e with e1 _ _; first | exact h e1 | exact h e1.symm)
theorem bs_1i (e : Operand → Value) (o : Oper) (w : World) (i0 : Nat) (z0 : Int) (ho : o.op = .buildSlice 22 1 #[(0, .tmp i0)]) (h0 : e (.tmp i0) = .int .i64 z0) :
   (execOp e o).run Tryz.prog w = .ok (.value (.slice (some ⟨w.heap.size, 0, none⟩) 1 1)) (w.alloc (.cells #[.int .i64 z0] 3)) := by
  unfold execOp
  rw [ho]
  simp only [List.map_toArray, List.map_cons, List.map_nil, h0]
  kernel_rfl
/-- What a beacon adds to the edges, of its ends those before j. -/
def edgJ (per : List UInt8) (a z : Int) (x : Vbcn) : Nat → List Int
  | 0 => []
  | j + 1 => edgJ per a z x j ++ edgIn per a z x ([x.at_, x.til].getD j 0)
theorem edgJ_two (per : List UInt8) (a z : Int) (x : Vbcn) : edgJ per a z x 2 = edgB per a z x := by simp [edgJ, edgB]
theorem edgJ_len (per : List UInt8) (a z : Int) (x : Vbcn) : ∀ j, (edgJ per a z x j).length ≤ j
  | 0 => Nat.le_refl _
  | j + 1 => by
    have := edgJ_len per a z x j
    unfold edgJ
    rw [List.length_append]
    have h2 : (edgIn per a z x ([x.at_, x.til].getD j 0)).length ≤ 1 := by unfold edgIn; split <;> simp
    omega
theorem own_baseB {w : World} {base base' : Nat} {v : Value} {l : List Vbcn} (h : VbcnRow w base v l) (hb : base' ≤ base) : VbcnRow w base' v l := by
  unfold VbcnRow at *
  refine ⟨h.1, ?_⟩
  rcases h.2 with h2 | ⟨g, cap, cur, hv, hg, h3⟩
  · exact Or.inl h2
  · exact Or.inr ⟨g, cap, cur, hv, Nat.le_trans hb hg, h3⟩
def ThrP (per : List UInt8) (l : List Vbcn) (a z : Int) (w : World) (e : Ending) (w' : World) : Prop := ∃ v', e = .returned (.tuple #[v', .int .i64 0]) ∧ VbcnRow w' w.heap.size v' (thrL l per (edgL l per a z)) ∧ Below w.heap.size w w'
set_option maxRecDepth 100000 in
set_option maxHeartbeats 16000000 in
theorem through_any (S : Nat) (w : World) (hU : U8W S w) (hS : S ≤ w.heap.size) (base : Nat) (v : Value) (l : List Vbcn) (h : VbcnRow w base v l) (hl : l.length ≤ 10) (hok : BcnsOk l) (hb : ∀ a ∈ l, BcnB a) (per : List UInt8) (hk : isKeyB per = true) (hk2 : per.length ≤ 10) (a z : Int) (ha : 0 ≤ a) (haz : a ≤ z) (hz : z ≤ 345686400000) :
    Calls Tryz.prog 7 #[v, .string ⟨per.toArray⟩, .agg #[.int .i64 a, .int .i64 z]] w (ThrP per l a z w) := by
  have hbw : Below w.heap.size w (w.alloc (.cells #[.int .i64 a, .int .i64 z] 30)) := ext_alloc (Below.refl _ _)
  have HP0 : Hid (Blk (w.alloc (.cells #[.int .i64 a, .int .i64 z] 30)) w.heap.size [.int .i64 a, .int .i64 z] 30) := Blk.new _ _ _
  have HCK : Hid (Calls Tryz.prog 21 #[v] (w.alloc (.cells #[.int .i64 a, .int .i64 z] 30)) (IntP 0 (w.alloc (.cells #[.int .i64 a, .int .i64 z] 30)))) := checkBcns_any S _ (hU.below hbw hS) (Nat.le_trans hS hbw.size) base v l (own_keep h hbw) (by omega) hok hb
  have HIK : Hid (∀ W, Calls Tryz.prog 22 #[.string ⟨per.toArray⟩] W (BoolP true W)) := fun W => by rw [← hk]; exact isKey_any _ W (by omega)
  have HB0 := Lib.hid hbw
  have HSAY : Hid (∀ W, Below w.heap.size w W → ∀ t, Calls Tryz.prog 25 #[v, .string ⟨per.toArray⟩, .int .i64 t] W (fun e w' => e = .returned (.tuple #[((saysB l per t).getD noVbcn).val, .bool (saysB l per t).isSome]) ∧ Below W.heap.size W w')) := fun W hW t => says_any W base v l per t (own_keep h hW) (by omega) hb
  have HO := Lib.hid h
  have HBB := Lib.hid hb
  have hsz0 : (w.alloc (.cells #[.int .i64 a, .int .i64 z] 30)).heap.size = w.heap.size + 1 := by simp
  obtain ⟨P, hP⟩ : ∃ P, P = w.heap.size := ⟨_, rfl⟩
  have HPE := Lib.hid hP
  obtain ⟨i0, hi0, hz0, hz1, hz2⟩ := info_parts Tryz.infoIntT
  obtain ⟨va, vc, rfl⟩ := own_shape (show w.ownsRow base 35 6 v l.length ((l.map Vbcn.cells).flatten) from h)
  obtain ⟨n, hn⟩ : ∃ n, n = l.length := ⟨_, rfl⟩
  have HN := Lib.hid hn
  have HO : Hid (w.ownsRow base 35 6 (.slice va n vc) n ((l.map Vbcn.cells).flatten)) := by rw [hn]; exact HO.out
  rw [← hn] at HCK HSAY hl ⊢
  have HSZ := Lib.hid hsz0
  have HZ := Lib.hid (And.intro hi0 (And.intro hz0 (And.intro hz1 hz2)))
  clear h hb hok hU hS hk hk2 hbw hsz0 hn hi0 hz0 hz1 hz2 hP
  have hn10 : n ≤ 10 := hl
  have ha2 : ¬ a < 0 := by omega
  have haz2 : ¬ z < a := by omega
  have hz3 : ¬ 345686400000 < z := by omega
  go_enter Tryz.func7, Tryz.ntmps7
  go_wp2_with fail
  refine HCK.out.mono ?_
  rintro e w2 ⟨rfl, hb2⟩
  have hP := HPE.out
  have hsz0 := HSZ.out
  rw [← hP] at HP0 ⊢
  clear hP
  have HB2 := Lib.hid (ext_trans HB0.out hb2)
  have HP2 := Lib.hid (HP0.out.below hb2)
  have hs2 := hb2.size
  clear HCK HB0 HP0 hb2
  as_aux_lemma =>
    go_wp2_with fail
    refine (HIK.out w2).mono ?_
    rintro e w3 ⟨rfl, hb3⟩
    have HB3 := Lib.hid (ext_trans HB2.out hb3)
    have HP3 := Lib.hid (HP2.out.below hb3)
    have hs3 := hb3.size
    clear HIK HB2 HP2 hb3
    have p0 := HP3.out.cell 0 rfl
    have p1 := HP3.out.cell 1 rfl
    as_aux_lemma =>
      go_upto_region 8 with (fail)
      have hba : Below w3.heap.size w3 (w3.alloc (.cells #[.int .i64 a, .int .i64 z] 3)) := ext_alloc (Below.refl _ _)
      have HE4 : Hid ((w3.alloc (.cells #[.int .i64 a, .int .i64 z] 3)).ownsRow w3.heap.size 3 1 (.slice (some ⟨w3.heap.size, 0, none⟩) 2 2) 2 ([a, z].map (Value.int .i64))) := own_two (Nat.le_refl _)
      have HP4 := Lib.hid (HP3.out.below hba)
      have HB4 := Lib.hid (ext_trans HB3.out hba)
      clear HP3 HB3 hba
      as_aux_lemma =>
        go_upto_region 9 with (refine wpList_val rfl (bs_2i _ _ _ 44 46 a z rfl rfl rfl) ?_)
        clear p0 p1
        have hPB : P < w3.heap.size := by have := HPE.out; omega
        generalize (w3.alloc (.cells #[.int .i64 a, .int .i64 z] 3)) = w4 at HE4 HP4 HB4 ⊢
        generalize w3.heap.size = B0 at HE4 hPB ⊢
        have hBE : w.heap.size < B0 := by have := HPE.out; omega
        clear hs2 hs3 hsz0
        as_aux_lemma =>
          go_wp2_with fail
          go_loopw [9, 50] (fun ev it wr => ∃ i : Nat, i ≤ n ∧ it = .int .i64 i ∧ Hid (wr.ownsRow B0 3 1 ev (edgN l per a z i).length ((edgN l per a z i).map (Value.int .i64))) ∧ Hid (Blk wr P [.int .i64 a, .int .i64 z] 30) ∧ Hid (Below w.heap.size w wr)) (fun _ it _ => n - (intOf it).toNat)
          case atStart => exact ⟨0, Nat.zero_le _, rfl, HE4.out, HP4.out, HB4.out⟩
          case round =>
            clear HE4 HP4 HB4
            obtain ⟨i, hi, rfl, HE, HP, HB⟩ := hrel
            by_cases hlt : i < n
            case pos =>
              have hin : (i : Int) < (n : Int) := by omega
              have hil : i < l.length := by have := HN.out; omega
              have hO := own_keep HO.out HB.out
              obtain ⟨g, rfl, hg0, hgw⟩ := own_pos hO (by omega)
              have d0 := own_field Vbcn.cells (fun _ => rfl) hO i 0 default hil (by omega) rfl
              have d1 := own_field Vbcn.cells (fun _ => rfl) hO i 1 default hil (by omega) rfl
              have d2 := own_field Vbcn.cells (fun _ => rfl) hO i 2 default hil (by omega) rfl
              have d3 := own_field Vbcn.cells (fun _ => rfl) hO i 3 default hil (by omega) rfl
              have d4 := own_field Vbcn.cells (fun _ => rfl) hO i 4 default hil (by omega) rfl
              have d5 := own_field Vbcn.cells (fun _ => rfl) hO i 5 default hil (by omega) rfl
              rw [Nat.add_zero] at d0
              have HNXT : Hid (edgN l per a z (i + 1) = edgN l per a z i ++ edgJ per a z (l.getD i default) 2) := by show _ = _; rw [edgJ_two]; rfl
              have HBX := Lib.hid (HBB.out _ (getD_mem hil))
              obtain ⟨x, hx⟩ : ∃ x, x = l.getD i default := ⟨_, rfl⟩
              rw [← hx] at d0 d1 d2 d3 d4 d5 HNXT HBX
              clear hx hO
              obtain ⟨E, hE⟩ : ∃ E, E = edgN l per a z i := ⟨_, rfl⟩
              have hEl : E.length ≤ 100 := by rw [hE]; have := (edgN_len l per a z i).2; omega
              have hE2 : 0 < E.length := by rw [hE]; have := (edgN_len l per a z i).1; omega
              rw [← hE] at HE HNXT
              clear hE
              obtain ⟨xp, xd, xs, xa, xt, xn⟩ := x
              have X1 : Hid (Blk (wr.alloc (.cells #[.string ⟨xp.toArray⟩, .string ⟨xd.toArray⟩, .int .i64 xs, .int .i64 xa, .int .i64 xt, .string ⟨xn.toArray⟩] 35)) wr.heap.size [.string ⟨xp.toArray⟩, .string ⟨xd.toArray⟩, .int .i64 xs, .int .i64 xa, .int .i64 xt, .string ⟨xn.toArray⟩] 35) := Blk.new _ _ _
              have hba : Below wr.heap.size wr (wr.alloc (.cells #[.string ⟨xp.toArray⟩, .string ⟨xd.toArray⟩, .int .i64 xs, .int .i64 xa, .int .i64 xt, .string ⟨xn.toArray⟩] 35)) := ext_alloc (Below.refl _ _)
              have HE1 := Lib.hid (own_keep HE.out hba)
              have HP1 := Lib.hid (HP.out.below hba)
              have HB1 := Lib.hid (ext_trans HB.out hba)
              have HNX1 : Hid (u9.ownBlock ≠ some wr.heap.size) := fun e => by have := (HE.out.lt _ e).2; omega
              have hBw : B0 ≤ wr.heap.size := own_room HE.out hE2
              clear hba HE HP HB
              as_aux_lemma =>
                go_upto_region 12 with (fail)
                clear d0 d1 d2 d3 d4 d5
                have hsz1 : (wr.alloc (.cells #[.string ⟨xp.toArray⟩, .string ⟨xd.toArray⟩, .int .i64 xs, .int .i64 xa, .int .i64 xt, .string ⟨xn.toArray⟩] 35)).heap.size = wr.heap.size + 1 := by simp
                generalize (wr.alloc (.cells #[.string ⟨xp.toArray⟩, .string ⟨xd.toArray⟩, .int .i64 xs, .int .i64 xa, .int .i64 xt, .string ⟨xn.toArray⟩] 35)) = w5 at X1 HE1 HP1 HB1 hsz1 ⊢
                generalize wr.heap.size = X at X1 HNX1 hsz1 hBw ⊢
                have x3 := X1.out.cell 3 rfl
                have x4 := X1.out.cell 4 rfl
                have HY : Hid (Blk (w5.alloc (.cells #[.int .i64 xa, .int .i64 xt] 3)) w5.heap.size [.int .i64 xa, .int .i64 xt] 3) := Blk.new _ _ _
                have hba : Below w5.heap.size w5 (w5.alloc (.cells #[.int .i64 xa, .int .i64 xt] 3)) := ext_alloc (Below.refl _ _)
                have HE2 := Lib.hid (own_keep HE1.out hba)
                have HP2 := Lib.hid (HP1.out.below hba)
                have HX2 := Lib.hid (X1.out.below hba)
                have HB2 := Lib.hid (ext_trans HB1.out hba)
                have HNY : Hid (u9.ownBlock ≠ some X ∧ u9.ownBlock ≠ some w5.heap.size) := ⟨HNX1.out, fun e => by have := (HE1.out.lt _ e).2; omega⟩
                have hXY : X < w5.heap.size := by omega
                clear hba HE1 HP1 HB1 X1 HNX1 hsz1
                as_aux_lemma =>
                  go_wp2_with (refine wpList_val rfl (bs_2i _ _ _ 55 57 xa xt rfl rfl rfl) ?_)
                  clear x3 x4
                  generalize (w5.alloc (.cells #[.int .i64 xa, .int .i64 xt] 3)) = w6 at HY HE2 HP2 HX2 HB2 ⊢
                  generalize w5.heap.size = Y at HY HNY hXY ⊢
                  go_loopw [9, 60] (fun ev2 it wq => ∃ j : Nat, j ≤ 2 ∧ it = .int .i64 j ∧ Hid (wq.ownsRow B0 3 1 ev2 (E ++ edgJ per a z ⟨xp, xd, xs, xa, xt, xn⟩ j).length ((E ++ edgJ per a z ⟨xp, xd, xs, xa, xt, xn⟩ j).map (Value.int .i64))) ∧ Hid (Blk wq X [.string ⟨xp.toArray⟩, .string ⟨xd.toArray⟩, .int .i64 xs, .int .i64 xa, .int .i64 xt, .string ⟨xn.toArray⟩] 35) ∧ Hid (Blk wq Y [.int .i64 xa, .int .i64 xt] 3) ∧ Hid (Blk wq P [.int .i64 a, .int .i64 z] 30) ∧ Hid (ev2.ownBlock ≠ some X ∧ ev2.ownBlock ≠ some Y) ∧ Hid (Below w.heap.size w wq)) (fun _ it _ => 2 - (intOf it).toNat)
                  case atStart => exact ⟨0, by omega, rfl, (by unfold edgJ; rw [List.append_nil]; exact HE2.out), HX2.out, HY.out, HP2.out, HNY.out, HB2.out⟩
                  case round =>
                    clear HE2 HX2 HY HP2 HNY HB2
                    obtain ⟨j, hj, rfl, HER, HX2, HY2, HP2, HNE, HB2⟩ := hrel
                    obtain ⟨wq, rfl⟩ : ∃ x : World, x = wr := ⟨_, rfl⟩
                    by_cases hlj : j < 2
                    case neg =>
                      obtain rfl : j = 2 := by omega
                      have HNE2 : Hid (wq.ownsRow B0 3 1 u9 (edgN l per a z (i + 1)).length ((edgN l per a z (i + 1)).map (Value.int .i64))) := by show World.ownsRow _ _ _ _ _ _ _; rw [HNXT.out]; exact HER.out
                      clear HER HNXT
                      as_aux_lemma =>
                        go_wp2_with fail
                        go_roundw
                        case rel => exact ⟨i + 1, by omega, by go_num, HNE2.out, HP2.out, HB2.out⟩
                        case measure => simp [intOf]; omega
                    have hlji : (j : Int) < 2 := by omega
                    have hj0 : ¬ ((j : Int) < 0) := by omega
                    have HJN : Hid (edgJ per a z ⟨xp, xd, xs, xa, xt, xn⟩ (j + 1) = edgJ per a z ⟨xp, xd, xs, xa, xt, xn⟩ j ++ edgIn per a z ⟨xp, xd, xs, xa, xt, xn⟩ ([xa, xt].getD j 0)) := rfl
                    have y0 : wq.cell? ⟨Y, j, none⟩ = some (.int .i64 ([xa, xt].getD j 0)) := HY2.out.cell j (by match j, hlj with | 0, _ => rfl | 1, _ => rfl)
                    have hjl := edgJ_len per a z ⟨xp, xd, xs, xa, xt, xn⟩ j
                    obtain ⟨nv, hnv⟩ : ∃ nv, nv = [xa, xt].getD j 0 := ⟨_, rfl⟩
                    rw [← hnv] at HJN y0
                    clear hnv
                    obtain ⟨EJ, hEJ⟩ : ∃ q, q = edgJ per a z ⟨xp, xd, xs, xa, xt, xn⟩ j := ⟨_, rfl⟩
                    rw [← hEJ] at HJN HER hjl
                    clear hEJ
                    obtain ⟨EJ2, hEJ2⟩ : ∃ q, q = edgJ per a z ⟨xp, xd, xs, xa, xt, xn⟩ (j + 1) := ⟨_, rfl⟩
                    rw [← hEJ2] at HJN
                    have HEJ2 := Lib.hid hEJ2
                    clear hEJ2
                    have HEI : Hid (edgIn per a z ⟨xp, xd, xs, xa, xt, xn⟩ nv = if xp = per ∧ a < nv ∧ nv < z then [nv] else []) := rfl
                    obtain ⟨ea, ec, rfl⟩ := own_shape HER.out
                    have x0 := HX2.out.cell 0 rfl
                    have p0 := HP2.out.cell 0 rfl
                    have p1 := HP2.out.cell 1 rfl
                    by_cases hp : xp = per
                    case neg =>
                      have hpb : (xp == per) = false := beq_eq_false_iff_ne.2 hp
                      have HE2 : Hid (EJ2 = EJ) := by show _ = _; rw [HJN.out, HEI.out, if_neg (fun h => hp h.1)]; simp
                      clear HJN HEI hp
                      as_aux_lemma =>
                        go_wp2_with fail
                        go_roundw
                        case rel => exact ⟨j + 1, by omega, by go_num, (by rw [← HEJ2.out, HE2.out]; exact HER.out), HX2.out, HY2.out, HP2.out, HNE.out, HB2.out⟩
                        case measure => simp [intOf]; omega
                    subst hp
                    have hpb : (xp == xp) = true := by simp
                    by_cases h1 : a < nv
                    case neg =>
                      have HH := Lib.hid h1
                      have HE2 : Hid (EJ2 = EJ) := by show _ = _; rw [HJN.out, HEI.out, if_neg (fun h => HH.out h.2.1)]; simp
                      clear HJN HEI HH
                      as_aux_lemma =>
                        go_wp2_with fail
                        go_roundw
                        case rel => exact ⟨j + 1, by omega, by go_num, (by rw [← HEJ2.out, HE2.out]; exact HER.out), HX2.out, HY2.out, HP2.out, HNE.out, HB2.out⟩
                        case measure => simp [intOf]; omega
                    by_cases h2 : nv < z
                    case neg =>
                      have HH := Lib.hid h2
                      have HE2 : Hid (EJ2 = EJ) := by show _ = _; rw [HJN.out, HEI.out, if_neg (fun h => HH.out h.2.2)]; simp
                      clear HJN HEI HH
                      as_aux_lemma =>
                        go_wp2_with fail
                        go_roundw
                        case rel => exact ⟨j + 1, by omega, by go_num, (by rw [← HEJ2.out, HE2.out]; exact HER.out), HX2.out, HY2.out, HP2.out, HNE.out, HB2.out⟩
                        case measure => simp [intOf]; omega
                    have HE2 : Hid (EJ2 = EJ ++ [nv]) := by show _ = _; rw [HJN.out, HEI.out, if_pos ⟨rfl, h1, h2⟩]
                    obtain ⟨en, hen⟩ : ∃ en, en = (E ++ EJ).length := ⟨_, rfl⟩
                    have hen2 : en ≤ 102 := by rw [hen, List.length_append]; omega
                    have hen3 : 0 < en := by rw [hen, List.length_append]; omega
                    have HEN := Lib.hid hen
                    rw [← hen] at HER HNE ⊢
                    clear hen HJN HEI
                    have HOA : Hid (World.ownsRow (wq.alloc (.cells #[.int .i64 nv] 3)) B0 3 1 (.slice ea en ec) en ((E ++ EJ).map (Value.int .i64))) := World.ownsRow.alloc HER.out _
                    have HNA : Hid (Blk (wq.alloc (.cells #[.int .i64 nv] 3)) wq.heap.size [.int .i64 nv] 3) := Blk.new _ _ _
                    have hrow : w.heap.size ≤ wq.heap.size := HB2.out.size
                    have hB0 : B0 ≤ wq.heap.size := own_room HER.out hen3
                    have hvw : ∀ b, (Value.slice ea en ec).ownBlock = some b → B0 ≤ b := fun b e => (HER.out.lt b e).1
                    have HVW := Lib.hid hvw
                    obtain ⟨hi0, hz0, hz1, hz2⟩ := HZ.out
                    clear hvw HER
                    as_aux_lemma =>
                      go_wp2_with (first | (refine wpList_val rfl (bs_1i _ _ _ 81 nv rfl rfl) ?_) | (at_builtin; go_loud (refine wpList_append_own_at _ rfl (.tmp 80) (.tmp 82) 22 rfl B0 3 i0 _ 1 8 Tryz.underlying22 hi0 hz0 hz1 hz2 rfl (by omega) (.slice ea en ec) en _ rfl HOA.out ⟨wq.heap.size, 0, none⟩ 1 1 [.int .i64 nv] rfl rfl (fun j u hj => by rw [add0]; exact HNA.out.cell j hj) (by simp [Value.oneCell']) (by simp only [maxLen]; omega) (by omega) (by simp; omega) ?_); intro v12 w12 hown12 hgr12 _ hat12; have HQ1 := Lib.hid hown12; have HQ2 := Lib.hid hgr12; have HQ3 := Lib.hid hat12; clear hown12 hgr12 hat12 HOA HNA; refine Hid.out ?_))
                      refine Lib.hid ?_
                      have hba : Below wq.heap.size wq (wq.alloc (.cells #[.int .i64 nv] 3)) := ext_alloc (Below.refl _ _)
                      have hXl := HX2.out.lt
                      have hYl := HY2.out.lt
                      have HER3 : Hid (w12.ownsRow B0 3 1 v12 (E ++ EJ2).length ((E ++ EJ2).map (Value.int .i64))) := by
                        show World.ownsRow _ _ _ _ _ _ _
                        have e1 : (E ++ EJ2).length = en + 1 := by rw [HE2.out, HEN.out]; simp; omega
                        rw [e1, HE2.out, ← List.append_assoc, List.map_append]
                        exact HQ1.out
                      have HX3 : Hid (Blk w12 X [.string ⟨xp.toArray⟩, .string ⟨xd.toArray⟩, .int .i64 xs, .int .i64 xa, .int .i64 xt, .string ⟨xn.toArray⟩] 35) := (HX2.out.below hba).grown HQ2.out HNE.out.1
                      have HY3 : Hid (Blk w12 Y [.int .i64 xa, .int .i64 xt] 3) := (HY2.out.below hba).grown HQ2.out HNE.out.2
                      have HP3 : Hid (Blk w12 P [.int .i64 a, .int .i64 z] 30) := (HP2.out.below hba).grown HQ2.out (fun e => by have := HVW.out _ e; omega)
                      have HNE3 : Hid (v12.ownBlock ≠ some X ∧ v12.ownBlock ≠ some Y) := by
                        rcases HQ3.out with h | h
                        · rw [h]; exact HNE.out
                        · rw [h]
                          refine ⟨fun e => ?_, fun e => ?_⟩
                          · injection e with e; simp at e; omega
                          · injection e with e; simp at e; omega
                      have HB3 : Hid (Below w.heap.size w w12) := HB2.out.trans (upto_grown HQ2.out hrow (fun b e => by have := HVW.out b e; omega))
                      clear hba HQ1 HQ2 HQ3 HX2 HY2 HP2 HNE HB2 HVW
                      as_aux_lemma =>
                        go_wp2_with fail
                        go_roundw
                        case rel => exact ⟨j + 1, by omega, by go_num, (by rw [← HEJ2.out]; exact HER3.out), HX3.out, HY3.out, HP3.out, HNE3.out, HB3.out⟩
                        case measure => simp [intOf]; omega
            obtain rfl : i = n := by omega
            have hin : ¬ ((i : Int) < (i : Int)) := by omega
            have HEL : Hid (edgL l per a z = Lib.compact ((edgN l per a z i).mergeSort fun x y => decide (x ≤ y))) := by show _ = _; rw [HN.out]; rfl
            have hEl := edgN_len l per a z i
            obtain ⟨E, hE⟩ : ∃ E, E = edgN l per a z i := ⟨_, rfl⟩
            rw [← hE] at HE HEL hEl
            clear hE HP
            obtain ⟨ea, ec, rfl⟩ := own_shape HE.out
            obtain ⟨ge, rfl, hge0, hge1⟩ := own_pos HE.out (by omega)
            have HSO := Lib.hid (sortI_own HE.out (by omega))
            have hBw : w.heap.size ≤ wr.heap.size := HB.out.size
            as_aux_lemma =>
              go_wp2_with fail
              refine HSO.out.mono ?_
              rintro e w5 ⟨rfl, ho5, hg5⟩
              have HE5 := Lib.hid ho5
              have HB5 : Hid (Below w.heap.size w w5) := HB.out.trans (gb_low hg5 hBw (by omega))
              have hs5 := hg5.size
              have HCO := Lib.hid (compactI_own HE5.out (by omega))
              clear ho5 hg5 HSO HE HB
              as_aux_lemma =>
                go_wp2_with fail
                refine HCO.out.mono ?_
                rintro e w6 ⟨rfl, ho6, hg6⟩
                rw [← HEL.out] at ho6 ⊢
                have HE6 := Lib.hid ho6
                have HB6 : Hid (Below w.heap.size w w6) := HB5.out.trans (gb_low hg6 (by omega) (by omega))
                have hs6 := hg6.size
                have hgeL : ge < w6.heap.size := (HE6.out.lt ge rfl).2
                have hm2 := edgL_len l per a z
                have hm1 := ((edgL_edges l per a z).first haz).1
                obtain ⟨EL, hEL⟩ : ∃ EL, EL = edgL l per a z := ⟨_, rfl⟩
                rw [← hEL] at HE6 hm1 hm2 ⊢
                have HELE := Lib.hid hEL
                obtain ⟨m, hm⟩ : ∃ m, m = EL.length := ⟨_, rfl⟩
                rw [← hm] at HE6 hm1 hm2 ⊢
                have HM := Lib.hid hm
                have hm22 : m ≤ 22 := by have := HN.out; omega
                clear hEL hm ho6 hg6 HCO HE5 HB5 HEL
                obtain ⟨L, hL⟩ : ∃ L, L = w6.heap.size := ⟨_, rfl⟩
                have HL6 := Lib.hid hL
                have HL : Hid (Blk (w6.alloc (.cells #[.string ⟨#[]⟩, .string ⟨#[]⟩, .int .i64 0, .int .i64 0, .int .i64 0, .string ⟨#[]⟩] 35)) w6.heap.size [.string ⟨#[]⟩, .string ⟨#[]⟩, .int .i64 0, .int .i64 0, .int .i64 0, .string ⟨#[]⟩] 35) := Blk.new _ _ _
                have HB7 : Hid (Below w6.heap.size w6 (w6.alloc (.cells #[.string ⟨#[]⟩, .string ⟨#[]⟩, .int .i64 0, .int .i64 0, .int .i64 0, .string ⟨#[]⟩] 35))) := ext_alloc (Below.refl _ _)
                have HOE : Hid (∀ W, Below L w6 W → ∀ q, q < m → W.cell? ⟨ge, q, none⟩ = some (.int .i64 (EL.getD q 0))) := fun W hW q hq => own_int (own_keep HE6.out (by rw [← hL]; exact hW)) q (by rw [← HM.out]; exact hq)
                have HSY : Hid (∀ W, Below L w6 W → ∀ t, Calls Tryz.prog 25 #[.slice va i vc, .string ⟨per.toArray⟩, .int .i64 t] W (fun e w' => e = .returned (.tuple #[((saysB l per t).getD noVbcn).val, .bool (saysB l per t).isSome]) ∧ Below W.heap.size W w')) := fun W hW t => HSAY.out W (ext_trans HB6.out (by rw [← hL]; exact hW)) t
                have hLw : w.heap.size ≤ L := by rw [hL]; exact HB6.out.size
                have HFIN : Hid (∀ vv W, VbcnRow W (L + 1) vv (thrN l per EL (m - 1)).1 → Below L w6 W → ThrP per l a z w (.returned (.tuple #[vv, .int .i64 0])) W) := fun vv W h1 h2 => ⟨vv, rfl, by
                  unfold thrL
                  rw [← HELE.out, ← HM.out]
                  exact own_baseB h1 (by omega), ext_trans HB6.out (by rw [← hL]; exact h2)⟩
                clear HE6 HB6 HSAY HN HO HBB HELE hEl hge0 hge1 hBw hs5 hs6 hm2
                as_aux_lemma =>
                  go_upto_region 23 with (refine wpList_val rfl (zero_bcn _ _ _ rfl) ?_)
                  generalize (w6.alloc (.cells #[.string ⟨#[]⟩, .string ⟨#[]⟩, .int .i64 0, .int .i64 0, .int .i64 0, .string ⟨#[]⟩] 35)) = w7 at HL HB7 ⊢
                  rw [← hL] at HL HB7 hgeL ⊢
                  clear hL
                  as_aux_lemma =>
                    go_wp2_with fail
                    go_loopw [14, 16] (fun ov it wx => ∃ k : Nat, k + 1 ≤ m ∧ it = .int .i64 k ∧ Hid (wx.ownsRow (L + 1) 35 6 ov ((thrN l per EL k).1).length ((((thrN l per EL k).1).map Vbcn.cells).flatten)) ∧ Hid (Blk wx L (thrN l per EL k).2.cells 35) ∧ Hid ((thrN l per EL k).1.length ≤ k) ∧ Hid (Below L w6 wx)) (fun _ it _ => m - (intOf it).toNat)
                    case atStart => exact ⟨0, by omega, rfl, World.ownsRow_nil _ _ _ _, HL.out, Nat.le_refl _, HB7.out⟩
                    case round =>
                      clear HL HB7
                      obtain ⟨k, hk, rfl, HOW, HLB, HLN, HBX⟩ := hrel
                      obtain ⟨wx, rfl⟩ : ∃ x : World, x = wr := ⟨_, rfl⟩
                      obtain ⟨k2, hk2⟩ : ∃ k2, k2 = k + 1 := ⟨_, rfl⟩
                      have HK2 := Lib.hid hk2
                      have hw2 : IntKind.i64.wrap ((k : Int) + 1) = (k2 : Int) := by rw [show (k : Int) + 1 = (k2 : Int) by omega]; exact IntWalk.i64_in _ (by omega)
                      clear hk2
                      by_cases hlt : k2 < m
                      case neg =>
                        have hin : ¬ ((k2 : Int) < (m : Int)) := by omega
                        have HR : Hid (ThrP per l a z w (.returned (.tuple #[u14, .int .i64 0])) wx) := HFIN.out _ _ (by have := HK2.out; have e : m - 1 = k := (by omega); rw [e]; exact HOW.out) HBX.out
                        clear HOW HLB HBX HOE HSY
                        as_aux_lemma =>
                          go_wp2_with fail
                          go_ret2
                          exact HR.out
                      have hin : (k2 : Int) < (m : Int) := by omega
                      have hkm : (k : Int) < (m : Int) := by omega
                      have hk0 : ¬ ((k : Int) < 0) := by omega
                      have hk20 : ¬ ((k2 : Int) < 0) := by omega
                      have HE1 : Hid (∀ W, Below L w6 W → W.cell? ⟨ge, k, none⟩ = some (.int .i64 (EL.getD k 0)) ∧ W.cell? ⟨ge, k2, none⟩ = some (.int .i64 (EL.getD k2 0))) := fun W hW => ⟨HOE.out W hW k (by omega), HOE.out W hW k2 hlt⟩
                      have HST : Hid (thrN l per EL k2 = thrStep (saysB l per (EL.getD k 0)) (EL.getD k 0) (EL.getD k2 0) (thrN l per EL k)) := by show _ = _; rw [HK2.out]; rfl
                      obtain ⟨t0, ht0⟩ : ∃ t, t = EL.getD k 0 := ⟨_, rfl⟩
                      rw [← ht0] at HE1 HST
                      clear ht0
                      obtain ⟨t1, ht1⟩ : ∃ t, t = EL.getD k2 0 := ⟨_, rfl⟩
                      rw [← ht1] at HE1 HST
                      clear ht1
                      have HCL := Lib.hid (HSY.out wx HBX.out t0)
                      obtain ⟨R, hR⟩ : ∃ R, R = saysB l per t0 := ⟨_, rfl⟩
                      rw [← hR] at HST HCL
                      clear hR
                      obtain ⟨o2, ho2⟩ : ∃ o2, o2 = thrN l per EL k2 := ⟨_, rfl⟩
                      rw [← ho2] at HST
                      have HO2 := Lib.hid ho2
                      clear ho2
                      obtain ⟨o, ho⟩ : ∃ o, o = thrN l per EL k := ⟨_, rfl⟩
                      rw [← ho] at HST HOW HLB HLN
                      clear ho
                      obtain ⟨out, last⟩ := o
                      have HOW : Hid (wx.ownsRow (L + 1) 35 6 u14 (out).length (((out).map Vbcn.cells).flatten)) := HOW
                      have HLB : Hid (Blk wx L last.cells 35) := HLB
                      have HLN : Hid (out.length ≤ k) := HLN
                      have e0 := (HE1.out wx HBX.out).1
                      as_aux_lemma =>
                        go_wp2_with fail
                        refine HCL.out.mono ?_
                        rintro e w8 ⟨rfl, hb8⟩
                        have hLx : L ≤ wx.heap.size := by have := HLB.out.lt; omega
                        have HB8 := Lib.hid (HBX.out.trans (hb8.mono hLx))
                        have HOW8 := Lib.hid (own_keep HOW.out hb8)
                        have HL8 := Lib.hid (HLB.out.below hb8)
                        have hL8 : L ≤ w8.heap.size := Nat.le_trans hLx hb8.size
                        clear hb8 HCL HOW HLB HBX e0 hLx
                        rcases R with _ | ⟨bp, bd, bs, ba, bt, bn⟩
                        · skip
                          have HR : Hid (o2 = (out, noVbcn)) := HST.out
                          rw [show ((none : Option Vbcn).getD noVbcn).val = .agg #[.string ⟨#[]⟩, .string ⟨#[]⟩, .int .i64 0, .int .i64 0, .int .i64 0, .string ⟨#[]⟩] from rfl, show (none : Option Vbcn).isSome = false from rfl]
                          have hba : Below w8.heap.size w8 (w8.alloc (.cells #[.string ⟨#[]⟩, .string ⟨#[]⟩, .int .i64 0, .int .i64 0, .int .i64 0, .string ⟨#[]⟩] 35)) := ext_alloc (Below.refl _ _)
                          have HL9 := Lib.hid (HL8.out.below hba)
                          have HOW9 := Lib.hid (own_keep HOW8.out hba)
                          have HB9 := Lib.hid (HB8.out.trans (hba.mono hL8))
                          clear HST hba HL8 HOW8 HB8
                          as_aux_lemma =>
                            go_upto_region 28 with (fail)
                            generalize (w8.alloc (.cells #[.string ⟨#[]⟩, .string ⟨#[]⟩, .int .i64 0, .int .i64 0, .int .i64 0, .string ⟨#[]⟩] 35)) = w9 at HL9 HOW9 HB9 ⊢
                            have HTH : Hid (w9.there L 0 6) := HL9.out.th 6 (Nat.le_refl 6)
                            have HLW : Hid (Blk (w9.setCells L 0 [.string ⟨#[]⟩, .string ⟨#[]⟩, .int .i64 0, .int .i64 0, .int .i64 0, .string ⟨#[]⟩]) L [.string ⟨#[]⟩, .string ⟨#[]⟩, .int .i64 0, .int .i64 0, .int .i64 0, .string ⟨#[]⟩] 35) := HL9.out.setAll6 _ _ _ _ _ _
                            have HOWW : Hid ((w9.setCells L 0 [.string ⟨#[]⟩, .string ⟨#[]⟩, .int .i64 0, .int .i64 0, .int .i64 0, .string ⟨#[]⟩]).ownsRow (L + 1) 35 6 u14 (out).length (((out).map Vbcn.cells).flatten)) := own_setN HOW9.out (fun e => by have := (HOW9.out.lt _ e).1; omega)
                            have HBW : Hid (Below L w6 (w9.setCells L 0 [.string ⟨#[]⟩, .string ⟨#[]⟩, .int .i64 0, .int .i64 0, .int .i64 0, .string ⟨#[]⟩])) := belowL HL6.out (Nat.le_refl _) HB9.out _ _
                            clear HL9 HOW9 HB9
                            as_aux_lemma =>
                              go_wp2_with (first | (refine wpList_val rfl (zero_bcn _ _ _ rfl) ?_) | (refine wpList_store_mid rfl 35 (.tmp 15) (.tmp 110) rfl L 0 #[.string ⟨#[]⟩, .string ⟨#[]⟩, .int .i64 0, .int .i64 0, .int .i64 0, .string ⟨#[]⟩] rfl rfl HTH.out Tryz.bcnSz (by simp [Value.oneCell']) ?_; generalize w9.setCells L 0 [.string ⟨#[]⟩, .string ⟨#[]⟩, .int .i64 0, .int .i64 0, .int .i64 0, .string ⟨#[]⟩] = wz at HLW HOWW HBW ⊢; clear HTH))
                              have hk2 := HK2.out
                              go_roundw
                              case rel => exact ⟨k2, by omega, by go_num, (by rw [← HO2.out, HR.out]; exact HOWW.out), (by rw [← HO2.out, HR.out]; exact HLW.out), (by rw [← HO2.out, HR.out]; show out.length ≤ k2; have := HLN.out; omega), HBW.out⟩
                              case measure => simp [intOf]; omega
                        rw [show ((some (⟨bp, bd, bs, ba, bt, bn⟩ : Vbcn)).getD noVbcn).val = .agg #[.string ⟨bp.toArray⟩, .string ⟨bd.toArray⟩, .int .i64 bs, .int .i64 ba, .int .i64 bt, .string ⟨bn.toArray⟩] from rfl, show (some (⟨bp, bd, bs, ba, bt, bn⟩ : Vbcn)).isSome = true from rfl]
                        obtain ⟨lp, ld, ls, la, lt, ln⟩ := last
                        have HL8 : Hid (Blk w8 L [.string ⟨lp.toArray⟩, .string ⟨ld.toArray⟩, .int .i64 ls, .int .i64 la, .int .i64 lt, .string ⟨ln.toArray⟩] 35) := HL8
                        have hba : Below w8.heap.size w8 (w8.alloc (.cells #[.string ⟨bp.toArray⟩, .string ⟨bd.toArray⟩, .int .i64 bs, .int .i64 ba, .int .i64 bt, .string ⟨bn.toArray⟩] 35)) := ext_alloc (Below.refl _ _)
                        have HT9 : Hid (Blk (w8.alloc (.cells #[.string ⟨bp.toArray⟩, .string ⟨bd.toArray⟩, .int .i64 bs, .int .i64 ba, .int .i64 bt, .string ⟨bn.toArray⟩] 35)) w8.heap.size [.string ⟨bp.toArray⟩, .string ⟨bd.toArray⟩, .int .i64 bs, .int .i64 ba, .int .i64 bt, .string ⟨bn.toArray⟩] 35) := Blk.new _ _ _
                        have hLT : L < w8.heap.size := HL8.out.lt
                        have HNT : Hid (u14.ownBlock ≠ some w8.heap.size) := fun e => by have := (HOW8.out.lt _ e).2; omega
                        have HL9 := Lib.hid (HL8.out.below hba)
                        have HOW9 := Lib.hid (own_keep HOW8.out hba)
                        have HB9 := Lib.hid (HB8.out.trans (hba.mono hL8))
                        obtain ⟨ou, oc, rfl⟩ := own_shape HOW9.out
                        clear hba HL8 HOW8 HB8
                        have hon : Hid (out.length ≤ 22) := by show _ ≤ _; have := HLN.out; omega
                        have hwo : IntKind.i64.wrap ((out.length : Int) - 1) = (out.length : Int) - 1 := IntWalk.i64_in _ (by have := hon.out; omega)
                        as_aux_lemma =>
                          go_upto_region 30 with (fail)
                          generalize (w8.alloc (.cells #[.string ⟨bp.toArray⟩, .string ⟨bd.toArray⟩, .int .i64 bs, .int .i64 ba, .int .i64 bt, .string ⟨bn.toArray⟩] 35)) = w9 at HT9 HL9 HOW9 HB9 ⊢
                          generalize w8.heap.size = T at HT9 HNT hLT ⊢
                          go_cut [120] (fun v wc => ∃ c : Bool, v = .bool c ∧ Hid (c = decide (out ≠ [] ∧ (⟨bp, bd, bs, ba, bt, bn⟩ : Vbcn) = ⟨lp, ld, ls, la, lt, ln⟩)) ∧ wc = w9)
                          case first =>
                            by_cases hn0 : out = []
                            case pos =>
                              have HD : Hid (false = decide (out ≠ [] ∧ (⟨bp, bd, bs, ba, bt, bn⟩ : Vbcn) = ⟨lp, ld, ls, la, lt, ln⟩)) := (decide_eq_false (fun h => h.1 hn0)).symm
                              have hg : ¬ ((0 : Int) ≤ (out.length : Int) - 1) := by rw [hn0]; simp
                              have hg2 : ((out.length : Int) - 1) < 0 := by omega
                              clear HST HOW9 HL9 HT9 hn0
                              as_aux_lemma =>
                                go_wp2_with fail
                                go_meet
                                exact ⟨false, rfl, HD.out, rfl⟩
                            have hl0 := List.length_pos_iff.2 hn0
                            have hg : (0 : Int) ≤ (out.length : Int) - 1 := by omega
                            have hg2 : ¬ ((out.length : Int) - 1) < 0 := by omega
                            have tc0 := HT9.out.cell 0 rfl
                            have lc0 := HL9.out.cell 0 rfl
                            have tc1 := HT9.out.cell 1 rfl
                            have lc1 := HL9.out.cell 1 rfl
                            have tc2 := HT9.out.cell 2 rfl
                            have lc2 := HL9.out.cell 2 rfl
                            have tc3 := HT9.out.cell 3 rfl
                            have lc3 := HL9.out.cell 3 rfl
                            have tc4 := HT9.out.cell 4 rfl
                            have lc4 := HL9.out.cell 4 rfl
                            have tc5 := HT9.out.cell 5 rfl
                            have lc5 := HL9.out.cell 5 rfl
                            by_cases q0 : bp = lp
                            case neg =>
                              have hq : (bp == lp) = false := beq_eq_false_iff_ne.2 q0
                              have HD : Hid (false = decide (out ≠ [] ∧ (⟨bp, bd, bs, ba, bt, bn⟩ : Vbcn) = ⟨lp, ld, ls, la, lt, ln⟩)) := (decide_eq_false (fun h => q0 (by have := h.2; injection this))).symm
                              clear q0 HST HOW9 HL9
                              as_aux_lemma =>
                                go_wp2_with fail
                                go_meet
                                exact ⟨false, rfl, HD.out, rfl⟩
                            subst q0
                            have hq0 : (bp == bp) = true := by simp
                            by_cases q1 : bd = ld
                            case neg =>
                              have hq : (bd == ld) = false := beq_eq_false_iff_ne.2 q1
                              have HD : Hid (false = decide (out ≠ [] ∧ (⟨bp, bd, bs, ba, bt, bn⟩ : Vbcn) = ⟨bp, ld, ls, la, lt, ln⟩)) := (decide_eq_false (fun h => q1 (by have := h.2; injection this))).symm
                              clear q1 HST HOW9 HL9
                              as_aux_lemma =>
                                go_wp2_with fail
                                go_meet
                                exact ⟨false, rfl, HD.out, rfl⟩
                            subst q1
                            have hq1 : (bd == bd) = true := by simp
                            by_cases q2 : bs = ls
                            case neg =>
                              have hq : (bs == ls) = false := beq_eq_false_iff_ne.2 q2
                              have HD : Hid (false = decide (out ≠ [] ∧ (⟨bp, bd, bs, ba, bt, bn⟩ : Vbcn) = ⟨bp, bd, ls, la, lt, ln⟩)) := (decide_eq_false (fun h => q2 (by have := h.2; injection this))).symm
                              clear q2 HST HOW9 HL9
                              as_aux_lemma =>
                                go_wp2_with fail
                                go_meet
                                exact ⟨false, rfl, HD.out, rfl⟩
                            subst q2
                            have hq2 : (bs == bs) = true := by simp
                            by_cases q3 : ba = la
                            case neg =>
                              have hq : (ba == la) = false := beq_eq_false_iff_ne.2 q3
                              have HD : Hid (false = decide (out ≠ [] ∧ (⟨bp, bd, bs, ba, bt, bn⟩ : Vbcn) = ⟨bp, bd, bs, la, lt, ln⟩)) := (decide_eq_false (fun h => q3 (by have := h.2; injection this))).symm
                              clear q3 HST HOW9 HL9
                              as_aux_lemma =>
                                go_wp2_with fail
                                go_meet
                                exact ⟨false, rfl, HD.out, rfl⟩
                            subst q3
                            have hq3 : (ba == ba) = true := by simp
                            by_cases q4 : bt = lt
                            case neg =>
                              have hq : (bt == lt) = false := beq_eq_false_iff_ne.2 q4
                              have HD : Hid (false = decide (out ≠ [] ∧ (⟨bp, bd, bs, ba, bt, bn⟩ : Vbcn) = ⟨bp, bd, bs, ba, lt, ln⟩)) := (decide_eq_false (fun h => q4 (by have := h.2; injection this))).symm
                              clear q4 HST HOW9 HL9
                              as_aux_lemma =>
                                go_wp2_with fail
                                go_meet
                                exact ⟨false, rfl, HD.out, rfl⟩
                            subst q4
                            have hq4 : (bt == bt) = true := by simp
                            by_cases q5 : bn = ln
                            case neg =>
                              have hq : (bn == ln) = false := beq_eq_false_iff_ne.2 q5
                              have HD : Hid (false = decide (out ≠ [] ∧ (⟨bp, bd, bs, ba, bt, bn⟩ : Vbcn) = ⟨bp, bd, bs, ba, bt, ln⟩)) := (decide_eq_false (fun h => q5 (by have := h.2; injection this))).symm
                              clear q5 HST HOW9 HL9
                              as_aux_lemma =>
                                go_wp2_with fail
                                go_meet
                                exact ⟨false, rfl, HD.out, rfl⟩
                            subst q5
                            have hq5 : (bn == bn) = true := by simp
                            have HD : Hid (true = decide (out ≠ [] ∧ (⟨bp, bd, bs, ba, bt, bn⟩ : Vbcn) = ⟨bp, bd, bs, ba, bt, bn⟩)) := (decide_eq_true ⟨hn0, rfl⟩).symm
                            clear HST HOW9 HL9 hn0
                            as_aux_lemma =>
                              go_wp2_with fail
                              go_meet
                              exact ⟨true, rfl, HD.out, rfl⟩
                          case rest =>
                            obtain ⟨c, rfl, hc, rfl⟩ := hcut
                            obtain ⟨w9, rfl⟩ : ∃ x : World, x = wc := ⟨_, rfl⟩
                            by_cases hq : out ≠ [] ∧ (⟨bp, bd, bs, ba, bt, bn⟩ : Vbcn) = ⟨lp, ld, ls, la, lt, ln⟩
                            case pos =>
                              obtain rfl : c = true := by rw [hc.out]; exact decide_eq_true hq
                              clear hc
                              obtain ⟨hne, hbl⟩ := hq
                              injection hbl with e1 e2 e3 e4 e5 e6
                              subst e1 e2 e3 e4 e5 e6
                              have hon : 0 < out.length := List.length_pos_iff.2 hne
                              obtain ⟨q, hq⟩ : ∃ q, out.length = q + 1 := ⟨out.length - 1, by omega⟩
                              have HR : Hid (o2 = (out.set q { (out.getD q default) with til := t1 }, ⟨bp, bd, bs, ba, bt, bn⟩)) := by
                                show _ = _
                                rw [HST.out]
                                have e : out.length - 1 = q := by omega
                                show (if out ≠ [] ∧ (⟨bp, bd, bs, ba, bt, bn⟩ : Vbcn) = ⟨bp, bd, bs, ba, bt, bn⟩ then _ else _) = _
                                rw [if_pos ⟨hne, rfl⟩, e]
                              obtain ⟨g2, rfl, hg20, hg21⟩ := own_pos HOW9.out hon
                              have HE9 := HE1.out w9 HB9.out
                              have hoc := own_field Vbcn.cells (fun _ => rfl) HOW9.out q 4 default (by omega) (by omega) rfl
                              have hof : w9.frozen? ⟨g2, q * 6 + 4, none⟩ = false := HOW9.out.frozenAt _
                              have HOWW : Hid ((w9.setCell ⟨g2, q * 6 + 4, none⟩ (.int .i64 t1)).ownsRow (L + 1) 35 6 (.slice (some ⟨g2, 0, none⟩) out.length oc) out.length (((out.set q { (out.getD q default) with til := t1 }).map Vbcn.cells).flatten)) := own_put1 Vbcn.cells (fun _ => rfl) HOW9.out q 4 default { (out.getD q default) with til := t1 } (.int .i64 t1) (by omega) (by omega) rfl
                              have HLW : Hid (Blk (w9.setCell ⟨g2, q * 6 + 4, none⟩ (.int .i64 t1)) L [.string ⟨bp.toArray⟩, .string ⟨bd.toArray⟩, .int .i64 bs, .int .i64 ba, .int .i64 bt, .string ⟨bn.toArray⟩] 35) := HL9.out.far (by show g2 ≠ L; omega)
                              have HBW : Hid (Below L w6 (w9.setCell ⟨g2, q * 6 + 4, none⟩ (.int .i64 t1))) := belowS HL6.out (by omega) HB9.out _ _
                              have hoq : ((out.length : Int) - 1) = (q : Int) := by omega
                              have hq1 : (q : Int) < (out.length : Int) := by omega
                              have hq0 : ¬ ((q : Int) < 0) := by omega
                              have hle := HLN.out
                              obtain ⟨ho0, ho1⟩ := HE9
                              clear HST HOW9 HL9 HB9 hne hq HT9 HLN
                              rw [hoq]
                              obtain ⟨on, hon2⟩ : ∃ on, on = out.length := ⟨_, rfl⟩
                              rw [← hon2] at HOWW hq1 hle ⊢
                              have HON2 := Lib.hid hon2
                              clear hon2
                              as_aux_lemma =>
                                go_wp2_with fail
                                have hk2 := HK2.out
                                go_roundw
                                case rel => exact ⟨k2, by omega, by go_num, (by rw [← HO2.out, HR.out]; show World.ownsRow _ _ _ _ _ _ _; rw [List.length_set, ← HON2.out]; exact HOWW.out), (by rw [← HO2.out, HR.out]; exact HLW.out), (by rw [← HO2.out, HR.out]; show (List.set _ _ _).length ≤ k2; rw [List.length_set, ← HON2.out]; omega), HBW.out⟩
                                case measure => simp [intOf]; omega
                            obtain rfl : c = false := by rw [hc.out]; exact decide_eq_false hq
                            clear hc
                            have HR : Hid (o2 = (out ++ [⟨bp, bd, bs, t0, t1, bn⟩], ⟨bp, bd, bs, ba, bt, bn⟩)) := by
                              show _ = _
                              rw [HST.out]
                              show (if out ≠ [] ∧ (⟨bp, bd, bs, ba, bt, bn⟩ : Vbcn) = ⟨lp, ld, ls, la, lt, ln⟩ then _ else _) = _
                              rw [if_neg hq]
                            have hLTn : L ≠ T := by omega
                            have HTH : Hid (w9.there L 0 6) := HL9.out.th 6 (Nat.le_refl 6)
                            have HRG : Hid (w9.rangeAt T 0 [.string ⟨bp.toArray⟩, .string ⟨bd.toArray⟩, .int .i64 bs, .int .i64 ba, .int .i64 bt, .string ⟨bn.toArray⟩]) := fun j v hj => by rw [Nat.zero_add]; exact HT9.out.cell j hj
                            have HLW : Hid (Blk (w9.setCells L 0 [.string ⟨bp.toArray⟩, .string ⟨bd.toArray⟩, .int .i64 bs, .int .i64 ba, .int .i64 bt, .string ⟨bn.toArray⟩]) L [.string ⟨bp.toArray⟩, .string ⟨bd.toArray⟩, .int .i64 bs, .int .i64 ba, .int .i64 bt, .string ⟨bn.toArray⟩] 35) := HL9.out.setAll6 _ _ _ _ _ _
                            have HTW : Hid (Blk (w9.setCells L 0 [.string ⟨bp.toArray⟩, .string ⟨bd.toArray⟩, .int .i64 bs, .int .i64 ba, .int .i64 bt, .string ⟨bn.toArray⟩]) T [.string ⟨bp.toArray⟩, .string ⟨bd.toArray⟩, .int .i64 bs, .int .i64 ba, .int .i64 bt, .string ⟨bn.toArray⟩] 35) := blkOther HT9.out hLTn _ _
                            have HOWW : Hid ((w9.setCells L 0 [.string ⟨bp.toArray⟩, .string ⟨bd.toArray⟩, .int .i64 bs, .int .i64 ba, .int .i64 bt, .string ⟨bn.toArray⟩]).ownsRow (L + 1) 35 6 (.slice ou out.length oc) (out).length (((out).map Vbcn.cells).flatten)) := own_setN HOW9.out (fun e => by have := (HOW9.out.lt _ e).1; omega)
                            have HBW : Hid (Below L w6 (w9.setCells L 0 [.string ⟨bp.toArray⟩, .string ⟨bd.toArray⟩, .int .i64 bs, .int .i64 ba, .int .i64 bt, .string ⟨bn.toArray⟩])) := belowL HL6.out (Nat.le_refl _) HB9.out _ _
                            clear HST HOW9 HL9 HB9 HT9 hq
                            as_aux_lemma =>
                              go_upto_region 33 with (first | (refine wpList_load_mid rfl 35 (.tmp 17) rfl T 0 rfl [.string ⟨bp.toArray⟩, .string ⟨bd.toArray⟩, .int .i64 bs, .int .i64 ba, .int .i64 bt, .string ⟨bn.toArray⟩] _ HRG.out Tryz.underlying35 rfl Tryz.bcnSz ?_) | (refine wpList_store_mid rfl 35 (.tmp 15) (.tmp 130) rfl L 0 #[.string ⟨bp.toArray⟩, .string ⟨bd.toArray⟩, .int .i64 bs, .int .i64 ba, .int .i64 bt, .string ⟨bn.toArray⟩] rfl rfl HTH.out Tryz.bcnSz (by simp [Value.oneCell']) ?_; generalize w9.setCells L 0 [.string ⟨bp.toArray⟩, .string ⟨bd.toArray⟩, .int .i64 bs, .int .i64 ba, .int .i64 bt, .string ⟨bn.toArray⟩] = wz at HLW HTW HOWW HBW ⊢; clear HTH HRG))
                              have hd : Below wz.heap.size wz wz.drew := ext_drew (Below.refl _ _)
                              have hLz : L ≤ wz.heap.size := by have := HLW.out.lt; omega
                              have HLd := Lib.hid (HLW.out.below hd)
                              have HTd := Lib.hid (HTW.out.below hd)
                              have HOd := Lib.hid (own_keep HOWW.out hd)
                              have HBd := Lib.hid (HBW.out.trans (hd.mono hLz))
                              have HEd := Lib.hid (HE1.out wz.drew HBd.out)
                              have hgT : ge ≠ T := by omega
                              clear hd HLW HTW HOWW HBW HOE HSY
                              as_aux_lemma =>
                                refine region_seqI (S := fun W9 => W9.cell? ⟨ge, k, none⟩ = some (.int .i64 t0) ∧ W9.cell? ⟨ge, k2, none⟩ = some (.int .i64 t1)) [(true, 0), (true, 1), (true, 2), (true, 3), (true, 4), (true, 5), (true, 6), (true, 7), (true, 8), (true, 9), (false, 10), (true, 11), (false, 12)] (by kernel_rfl) (by kernel_rfl) rfl (by kernel_rfl) HEd.out ?_
                                generalize wz.drew = wd at HLd HTd HOd HBd HEd ⊢
                                simp only [seqOps, List.getD_cons_zero, List.getD_cons_succ]
                                refine seqI_take (v := .slice (some ⟨ge, 0, none⟩) m ec) rfl (fun W9 hW => by clear hW; go_simp) (fun _ _ _ h => h) ?_
                                simp only [Act.put, List.setIfInBounds_toArray, List.set_cons_zero, List.set_cons_succ]
                                refine seqI_take (v := .int .i64 k) rfl (fun W9 hW => by clear hW; go_simp) (fun _ _ _ h => h) ?_
                                simp only [Act.put, List.setIfInBounds_toArray, List.set_cons_zero, List.set_cons_succ]
                                refine seqI_take (v := .pointer (some ⟨ge, k, none⟩)) rfl (fun W9 hW => by clear hW; go_simp) (fun _ _ _ h => h) ?_
                                simp only [Act.put, List.setIfInBounds_toArray, List.set_cons_zero, List.set_cons_succ]
                                refine seqI_take (v := .int .i64 t0) rfl (fun W9 hW => by obtain ⟨q0, q1⟩ := hW; go_simp) (fun _ _ _ h => h) ?_
                                simp only [Act.put, List.setIfInBounds_toArray, List.set_cons_zero, List.set_cons_succ]
                                refine seqI_take (v := .slice (some ⟨ge, 0, none⟩) m ec) rfl (fun W9 hW => by clear hW; go_simp) (fun _ _ _ h => h) ?_
                                simp only [Act.put, List.setIfInBounds_toArray, List.set_cons_zero, List.set_cons_succ]
                                refine seqI_take (v := .int .i64 k) rfl (fun W9 hW => by clear hW; go_simp) (fun _ _ _ h => h) ?_
                                simp only [Act.put, List.setIfInBounds_toArray, List.set_cons_zero, List.set_cons_succ]
                                refine seqI_take (v := .int .i64 k2) rfl (fun W9 hW => by clear hW; go_simp) (fun _ _ _ h => h) ?_
                                simp only [Act.put, List.setIfInBounds_toArray, List.set_cons_zero, List.set_cons_succ]
                                refine seqI_take (v := .pointer (some ⟨ge, k2, none⟩)) rfl (fun W9 hW => by clear hW; go_simp) (fun _ _ _ h => h) ?_
                                simp only [Act.put, List.setIfInBounds_toArray, List.set_cons_zero, List.set_cons_succ]
                                refine seqI_take (v := .int .i64 t1) rfl (fun W9 hW => by obtain ⟨q0, q1⟩ := hW; go_simp) (fun _ _ _ h => h) ?_
                                simp only [Act.put, List.setIfInBounds_toArray, List.set_cons_zero, List.set_cons_succ]
                                refine seqI_take (v := .pointer (some ⟨T, 3, none⟩)) rfl (fun W9 hW => by clear hW; go_simp) (fun _ _ _ h => h) ?_
                                simp only [Act.put, List.setIfInBounds_toArray, List.set_cons_zero, List.set_cons_succ]
                                refine seqI_do rfl (wp_store_i rfl T 3 t0 (.int .i64 ba) rfl rfl (HTd.out.cell 3 rfl) (HTd.out.fr 3) ⟨⟨(cell_setT hgT).trans HEd.out.1, (cell_setT hgT).trans HEd.out.2⟩, ?_⟩)
                                simp only [Act.put, List.setIfInBounds_toArray, List.set_cons_zero, List.set_cons_succ]
                                have HT2 : Hid (Blk (wd.setCell ⟨T, 3, none⟩ (.int .i64 t0)) T [.string ⟨bp.toArray⟩, .string ⟨bd.toArray⟩, .int .i64 bs, .int .i64 t0, .int .i64 bt, .string ⟨bn.toArray⟩] 35) := HTd.out.put 3 _
                                refine seqI_take (v := .pointer (some ⟨T, 4, none⟩)) rfl (fun W9 hW => by clear hW; go_simp) (fun _ _ _ h => h) ?_
                                simp only [Act.put, List.setIfInBounds_toArray, List.set_cons_zero, List.set_cons_succ]
                                refine seqI_do rfl (wp_store_i rfl T 4 t1 (.int .i64 bt) rfl rfl (HT2.out.cell 4 rfl) (HT2.out.fr 4) ⟨⟨(cell_setT hgT).trans ((cell_setT hgT).trans HEd.out.1), (cell_setT hgT).trans ((cell_setT hgT).trans HEd.out.2)⟩, ?_⟩)
                                simp only [Act.put, List.setIfInBounds_toArray, List.set_cons_zero, List.set_cons_succ]
                                refine seqI_nil ?_
                                have HT3 : Hid (Blk ((wd.setCell ⟨T, 3, none⟩ (.int .i64 t0)).setCell ⟨T, 4, none⟩ (.int .i64 t1)) T [.string ⟨bp.toArray⟩, .string ⟨bd.toArray⟩, .int .i64 bs, .int .i64 t0, .int .i64 t1, .string ⟨bn.toArray⟩] 35) := HT2.out.put 4 _
                                have HL3 : Hid (Blk ((wd.setCell ⟨T, 3, none⟩ (.int .i64 t0)).setCell ⟨T, 4, none⟩ (.int .i64 t1)) L [.string ⟨bp.toArray⟩, .string ⟨bd.toArray⟩, .int .i64 bs, .int .i64 ba, .int .i64 bt, .string ⟨bn.toArray⟩] 35) := (HLd.out.far (by show T ≠ L; omega)).far (by show T ≠ L; omega)
                                have HO3 : Hid (((wd.setCell ⟨T, 3, none⟩ (.int .i64 t0)).setCell ⟨T, 4, none⟩ (.int .i64 t1)).ownsRow (L + 1) 35 6 (.slice ou out.length oc) (out).length (((out).map Vbcn.cells).flatten)) := own_set1 (own_set1 HOd.out HNT.out) HNT.out
                                have HB3 : Hid (Below L w6 ((wd.setCell ⟨T, 3, none⟩ (.int .i64 t0)).setCell ⟨T, 4, none⟩ (.int .i64 t1))) := belowS HL6.out (by omega) (belowS HL6.out (by omega) HBd.out _ _) _ _
                                generalize ((wd.setCell ⟨T, 3, none⟩ (.int .i64 t0)).setCell ⟨T, 4, none⟩ (.int .i64 t1)) = w10 at HT3 HL3 HO3 HB3 ⊢
                                clear HT2 HLd HTd HOd HBd HEd
                                obtain ⟨j0, hj0, jz0, jz1, jz2⟩ := info_parts Tryz.bcnInfo
                                obtain ⟨wn, hwn⟩ : ∃ w', w' = (w10.alloc (.cells #[.string ⟨bp.toArray⟩, .string ⟨bd.toArray⟩, .int .i64 bs, .int .i64 t0, .int .i64 t1, .string ⟨bn.toArray⟩] 35)) := ⟨_, rfl⟩
                                have hbn : Below w10.heap.size w10 wn := by rw [hwn]; exact ext_alloc (Below.refl _ _)
                                have HZN : Hid (Blk wn w10.heap.size [.string ⟨bp.toArray⟩, .string ⟨bd.toArray⟩, .int .i64 bs, .int .i64 t0, .int .i64 t1, .string ⟨bn.toArray⟩] 35) := by rw [hwn]; exact Blk.new _ _ _
                                have HNW : Hid (∀ j u, ([.string ⟨bp.toArray⟩, .string ⟨bd.toArray⟩, .int .i64 bs, .int .i64 t0, .int .i64 t1, .string ⟨bn.toArray⟩] : List Value)[j]? = some u → wn.cell? ((⟨w10.heap.size, 0, none⟩ : Addr).add j) = some u) := fun j u hj => by
                                  rw [show (⟨w10.heap.size, 0, none⟩ : Addr).add j = ⟨w10.heap.size, j, none⟩ by cases j <;> simp [Addr.add]]
                                  exact HZN.out.cell j hj
                                have HON : Hid (wn.ownsRow (L + 1) 35 6 (.slice ou out.length oc) (out).length (((out).map Vbcn.cells).flatten)) := own_keep HO3.out hbn
                                have HLN2 := Lib.hid (HL3.out.below hbn)
                                have HLM : Hid (out.length + 1 ≤ maxLen ∧ (out.length + 1) * 72 ≤ 140737488355328) := ⟨by unfold maxLen; have := hon.out; omega, by have := hon.out; omega⟩
                                have hLz2 : L + 1 ≤ w10.heap.size := by have := HL3.out.lt; omega
                                have hbw : L + 1 ≤ wn.heap.size := Nat.le_trans hLz2 hbn.size
                                have HWN := Lib.hid hwn
                                have HRG : Hid (w10.rangeAt T 0 [.string ⟨bp.toArray⟩, .string ⟨bd.toArray⟩, .int .i64 bs, .int .i64 t0, .int .i64 t1, .string ⟨bn.toArray⟩]) := fun j v hj => by rw [Nat.zero_add]; exact HT3.out.cell j hj
                                have HLNN := Lib.hid HLN.out
                                clear hbn hwn HO3 HT3 HL3
                                as_aux_lemma =>
                                  go_upto_region 25 with (first | (refine wpList_load_mid rfl 35 (.tmp 17) rfl T 0 rfl [.string ⟨bp.toArray⟩, .string ⟨bd.toArray⟩, .int .i64 bs, .int .i64 t0, .int .i64 t1, .string ⟨bn.toArray⟩] _ HRG.out Tryz.underlying35 rfl Tryz.bcnSz ?_) | ((refine wpList_val rfl (bl_bcn3 _ (fun _ => rfl) _ _ 143 ⟨bp.toArray⟩ ⟨bd.toArray⟩ bs t0 t1 ⟨bn.toArray⟩ rfl rfl) ?_)) | (at_builtin; rw [← HWN.out]; refine wpList_append_own _ rfl (.tmp 142) (.tmp 144) 26 rfl (L + 1) 35 j0 (.agg #[.string ⟨#[]⟩, .string ⟨#[]⟩, .int .i64 0, .int .i64 0, .int .i64 0, .string ⟨#[]⟩]) 6 72 Tryz.underlying26 hj0 jz0 jz1 jz2 rfl (by decide) (.slice ou out.length oc) out.length ((out.map Vbcn.cells).flatten) rfl HON.out ⟨w10.heap.size, 0, none⟩ 1 1 [.string ⟨bp.toArray⟩, .string ⟨bd.toArray⟩, .int .i64 bs, .int .i64 t0, .int .i64 t1, .string ⟨bn.toArray⟩] rfl rfl HNW.out (by intro u hu; simp at hu; rcases hu with rfl | rfl | rfl | rfl | rfl | rfl <;> rfl) HLM.out.1 HLM.out.2 hbw ?_; intro vn w11 hon2 hgn _))
                                  have HOB : ∀ b, (Value.slice ou out.length oc).ownBlock = some b → L + 1 ≤ b := fun b hb => (HON.out.lt b hb).1
                                  have HOX : Hid (w11.ownsRow (L + 1) 35 6 vn ((out ++ [(⟨bp, bd, bs, t0, t1, bn⟩ : Vbcn)])).length ((((out ++ [(⟨bp, bd, bs, t0, t1, bn⟩ : Vbcn)])).map Vbcn.cells).flatten)) := by
                                    show World.ownsRow _ _ _ _ _ _ _
                                    rw [List.map_append, List.flatten_append, List.length_append]
                                    exact hon2
                                  have HLX : Hid (Blk w11 L [.string ⟨bp.toArray⟩, .string ⟨bd.toArray⟩, .int .i64 bs, .int .i64 ba, .int .i64 bt, .string ⟨bn.toArray⟩] 35) := HLN2.out.grown hgn (fun e => by have := HOB _ e; omega)
                                  have HBX : Hid (Below L w6 w11) := by
                                    show Below _ _ _
                                    rw [HWN.out] at hgn
                                    exact HB3.out.trans (upto_grown hgn (by omega) (fun b e => by have := HOB _ e; omega))
                                  clear hon2 hgn HON HLN2 HWN HNW HZN HOB HRG HB3
                                  as_aux_lemma =>
                                    go_wp2_with fail
                                    have hk2 := HK2.out
                                    go_roundw
                                    case rel => exact ⟨k2, by omega, by go_num, (by rw [← HO2.out, HR.out]; exact HOX.out), (by rw [← HO2.out, HR.out]; exact HLX.out), (by rw [← HO2.out, HR.out]; show (out ++ [_]).length ≤ k2; rw [List.length_append]; have := HLNN.out; simp; omega), HBX.out⟩
                                    case measure => simp [intOf]; omega
end Go.Proofs.YtamoclofloijpaaGreatDoor

set_option linter.unusedVariables false
set_option linter.unusedSimpArgs false
namespace Go.Proofs.YtamoclofloijpaaGreatDoor
open Go.RowKit Go.Sort Go.Lib

theorem results_cell3 {fn : Func} {t u s : Tmp} {T : TypeId} (h : fn.results = #[.cell t T, .tmp u, .tmp s]) (P : Program) (w : World) (tmps : Array Value) {B k : Nat} (hA : ∀ w, (isAgg T).run P w = .ok true w) (hZ : ∀ w, (Go.sizeOf T).run P w = .ok k w) (ht : tmps.getD t undef = .pointer (some ⟨B, 0, none⟩)) (cs : List Value) (hk : cs.length = k) (hc : ∀ j v, cs[j]? = some v → w.cell? ⟨B, j, none⟩ = some v) :
    (results fn tmps).run P w = .ok (.tuple #[.agg cs.toArray, tmps.getD u undef, tmps.getD s undef]) w := by
  have h9 := load_struct (P := P) cs hk hc
  have ht' : tmps[t]?.getD undef = .pointer (some ⟨B, 0, none⟩) := by simpa using ht
  simp [results, h, ht', h9, hA, hZ, asAddr, go_sem]
set_option maxRecDepth 100000 in
set_option maxHeartbeats 16000000 in
theorem presence_any (S : Nat) (w : World) (hU : U8W S w) (hS : S ≤ w.heap.size) (base : Nat) (v : Value) (l : List Vbcn) (h : VbcnRow w base v l) (hl : l.length ≤ 10) (hok : BcnsOk l) (hb : ∀ a ∈ l, BcnB a) (per : List UInt8) (hk : isKeyB per = true) (hk2 : per.length ≤ 10) (t : Int) (hm : isMomB t = true) :
    Calls Tryz.prog 8 #[v, .string ⟨per.toArray⟩, .int .i64 t] w (fun e w' => e = .returned (.tuple #[((saysB l per t).getD noVbcn).val, .bool (saysB l per t).isSome, .int .i64 0]) ∧ Below w.heap.size w w') := by
  have hbw : Below w.heap.size w (w.alloc (.cells #[.string ⟨#[]⟩, .string ⟨#[]⟩, .int .i64 0, .int .i64 0, .int .i64 0, .string ⟨#[]⟩] 35)) := ext_alloc (Below.refl _ _)
  have HR0 : Hid (Blk (w.alloc (.cells #[.string ⟨#[]⟩, .string ⟨#[]⟩, .int .i64 0, .int .i64 0, .int .i64 0, .string ⟨#[]⟩] 35)) w.heap.size [.string ⟨#[]⟩, .string ⟨#[]⟩, .int .i64 0, .int .i64 0, .int .i64 0, .string ⟨#[]⟩] 35) := Blk.new _ _ _
  have HCK : Hid (Calls Tryz.prog 21 #[v] (w.alloc (.cells #[.string ⟨#[]⟩, .string ⟨#[]⟩, .int .i64 0, .int .i64 0, .int .i64 0, .string ⟨#[]⟩] 35)) (IntP 0 (w.alloc (.cells #[.string ⟨#[]⟩, .string ⟨#[]⟩, .int .i64 0, .int .i64 0, .int .i64 0, .string ⟨#[]⟩] 35)))) := checkBcns_any S _ (hU.below hbw hS) (Nat.le_trans hS hbw.size) base v l (own_keep h hbw) (by omega) hok hb
  have HIK : Hid (∀ W, Calls Tryz.prog 22 #[.string ⟨per.toArray⟩] W (BoolP true W)) := fun W => by rw [← hk]; exact isKey_any _ W (by omega)
  have HMO : Hid (∀ W, Calls Tryz.prog 26 #[.int .i64 t] W (BoolP true W)) := fun W => by rw [← hm]; exact ((isMoment_any _ W).mono (fun e w2 h => ⟨h.1, by rw [← h.2]; exact Below.refl _ _⟩))
  have HSAY : Hid (∀ W, Below w.heap.size w W → Calls Tryz.prog 25 #[v, .string ⟨per.toArray⟩, .int .i64 t] W (fun e w' => e = .returned (.tuple #[((saysB l per t).getD noVbcn).val, .bool (saysB l per t).isSome]) ∧ Below W.heap.size W w')) := fun W hW => says_any W base v l per t (own_keep h hW) (by omega) hb
  have HB0 := Lib.hid hbw
  obtain ⟨R, hR⟩ : ∃ R, R = w.heap.size := ⟨_, rfl⟩
  have HRE := Lib.hid hR
  generalize saysB l per t = O at HSAY ⊢
  have HGG : Hid (((O.getD noVbcn).val : Value) = .agg #[.string ⟨(O.getD noVbcn).per.toArray⟩, .string ⟨(O.getD noVbcn).dev.toArray⟩, .int .i64 (O.getD noVbcn).st, .int .i64 (O.getD noVbcn).at_, .int .i64 (O.getD noVbcn).til, .string ⟨(O.getD noVbcn).note.toArray⟩]) := rfl
  have HVV : Hid (∃ (e0 e1 : ByteArray) (e2 e3 e4 : Int) (e5 : ByteArray), (O.getD noVbcn).val = .agg #[.string e0, .string e1, .int .i64 e2, .int .i64 e3, .int .i64 e4, .string e5]) := ⟨_, _, _, _, _, _, HGG.out⟩
  clear HGG
  obtain ⟨f, hf⟩ : ∃ f, f = O.isSome := ⟨_, rfl⟩
  rw [← hf] at HSAY ⊢
  clear hf
  generalize (O.getD noVbcn).val = V at HSAY HVV ⊢
  obtain ⟨e0, e1, e2, e3, e4, e5, rfl⟩ := HVV.out
  obtain ⟨va, vc, rfl⟩ := own_shape (show w.ownsRow base 35 6 v l.length ((l.map Vbcn.cells).flatten) from h)
  generalize l.length = n at HCK HSAY ⊢
  clear h hb hok hU hS hk hk2 hbw hR hl hm HVV O
  go_enter Tryz.func8, Tryz.ntmps8
  go_wp2_with fail
  refine HCK.out.mono ?_
  rintro e w2 ⟨rfl, hb2⟩
  have hR := HRE.out
  rw [← hR] at HR0 ⊢
  clear hR
  have HB2 := Lib.hid (ext_trans HB0.out hb2)
  have HR2 := Lib.hid (HR0.out.below hb2)
  clear HCK HB0 HR0 hb2
  as_aux_lemma =>
    go_wp2_with fail
    refine (HIK.out w2).mono ?_
    rintro e w3 ⟨rfl, hb3⟩
    have HB3 := Lib.hid (ext_trans HB2.out hb3)
    have HR3 := Lib.hid (HR2.out.below hb3)
    clear HIK HB2 HR2 hb3
    as_aux_lemma =>
      go_wp2_with fail
      refine (HMO.out w3).mono ?_
      rintro e w4 ⟨rfl, hb4⟩
      have HB4 := Lib.hid (ext_trans HB3.out hb4)
      have HR4 := Lib.hid (HR3.out.below hb4)
      have HSY := Lib.hid (HSAY.out w4 HB4.out)
      clear HMO HB3 HR3 hb4 HSAY
      as_aux_lemma =>
        go_wp2_with fail
        refine HSY.out.mono ?_
        rintro e w5 ⟨rfl, hb5⟩
        have HB5 := Lib.hid (ext_trans HB4.out hb5)
        have HR5 := Lib.hid (HR4.out.below hb5)
        have hba : Below w5.heap.size w5 (w5.alloc (.cells #[.string e0, .string e1, .int .i64 e2, .int .i64 e3, .int .i64 e4, .string e5] 35)) := ext_alloc (Below.refl _ _)
        have HX6 : Hid (Blk (w5.alloc (.cells #[.string e0, .string e1, .int .i64 e2, .int .i64 e3, .int .i64 e4, .string e5] 35)) w5.heap.size [.string e0, .string e1, .int .i64 e2, .int .i64 e3, .int .i64 e4, .string e5] 35) := Blk.new _ _ _
        have HB6 := Lib.hid (ext_trans HB5.out hba)
        have HR6 := Lib.hid (HR5.out.below hba)
        clear HB4 HR4 hb5 HSY HB5 HR5 hba
        as_aux_lemma =>
          go_upto_region 9 with (fail)
          generalize (w5.alloc (.cells #[.string e0, .string e1, .int .i64 e2, .int .i64 e3, .int .i64 e4, .string e5] 35)) = w6 at HX6 HB6 HR6 ⊢
          generalize w5.heap.size = X at HX6 ⊢
          have HTH : Hid (w6.there R 0 6) := HR6.out.th 6 (Nat.le_refl 6)
          have HRG : Hid (w6.rangeAt X 0 [.string e0, .string e1, .int .i64 e2, .int .i64 e3, .int .i64 e4, .string e5]) := fun j v hj => by rw [Nat.zero_add]; exact HX6.out.cell j hj
          have HR9 : Hid (Blk (w6.setCells R 0 [.string e0, .string e1, .int .i64 e2, .int .i64 e3, .int .i64 e4, .string e5]) R [.string e0, .string e1, .int .i64 e2, .int .i64 e3, .int .i64 e4, .string e5] 35) := HR6.out.setAll6 _ _ _ _ _ _
          have HB9 : Hid (Below w.heap.size w (w6.setCells R 0 [.string e0, .string e1, .int .i64 e2, .int .i64 e3, .int .i64 e4, .string e5])) := belowB (Nat.le_of_eq HRE.out.symm) HB6.out _ _
          clear HX6 HB6 HR6
          as_aux_lemma =>
            go_wp2_with (first | (refine wpList_load_mid rfl 35 (.tmp 10) rfl X 0 rfl [.string e0, .string e1, .int .i64 e2, .int .i64 e3, .int .i64 e4, .string e5] _ HRG.out Tryz.underlying35 rfl Tryz.bcnSz ?_) | (refine wpList_store_mid rfl 35 (.tmp 6) (.tmp 33) rfl R 0 #[.string e0, .string e1, .int .i64 e2, .int .i64 e3, .int .i64 e4, .string e5] rfl rfl HTH.out Tryz.bcnSz (by simp [Value.oneCell']) ?_; generalize w6.setCells R 0 [.string e0, .string e1, .int .i64 e2, .int .i64 e3, .int .i64 e4, .string e5] = wz at HR9 HB9 ⊢; clear HTH HRG))
            refine bodyPost_ret (?_ : _ = Result.ok (.tuple #[.agg #[.string e0, .string e1, .int .i64 e2, .int .i64 e3, .int .i64 e4, .string e5], .bool f, .int .i64 0]) _) rfl ?_
            · exact results_cell3 (t := 6) (u := 7) (s := 8) (by rfl) _ _ _ Tryz.isAgg35 Tryz.sizeOf35 (by rfl) [.string e0, .string e1, .int .i64 e2, .int .i64 e3, .int .i64 e4, .string e5] rfl (fun j v hj => HR9.out.cell j hj)
            · exact ⟨rfl, HB9.out⟩
end Go.Proofs.YtamoclofloijpaaGreatDoor

set_option linter.unusedVariables false
set_option linter.unusedSimpArgs false
namespace Go.Proofs.YtamoclofloijpaaGreatDoor
open Go.RowKit Go.Lib

def idxInt : Option Nat → Int
  | none => -1
  | some i => (i : Int)
theorem idxFrom_find {α : Type} (p : α → Bool) (d : α) : ∀ (l : List α) (i : Nat), Lib.idxByFrom (fun _ y => p y) d l i = (match l.findIdx? p with | none => (-1 : Int) | some k => ((i + k : Nat) : Int))
  | [], i => rfl
  | y :: l, i => by
    unfold Lib.idxByFrom
    rw [List.findIdx?_cons]
    cases hp : p y with
    | true => simp
    | false =>
      simp only [Bool.false_eq_true, if_false]
      rw [idxFrom_find p d l (i + 1)]
      cases l.findIdx? p with
      | none => rfl
      | some k =>
        show ((i + 1 + k : Nat) : Int) = ((i + (k + 1) : Nat) : Int)
        congr 1
        omega
theorem idxI_find {α : Type} (p : α → Bool) (d : α) (l : List α) : Lib.idxBy (fun _ y => p y) l d = idxInt (l.findIdx? p) := by
  unfold Lib.idxBy
  rw [idxFrom_find]
  cases l.findIdx? p with
  | none => rfl
  | some k => simp [idxInt]
set_option maxRecDepth 100000 in
theorem tell_call (x0 x1 x5 : ByteArray) (x2 x3 x4 t : Int) (A : Nat) (W : World) (hA : A < W.heap.size) (c0 : W.cell? ⟨A, 0, none⟩ = some (.int .i64 t)) :
    Calls Tryz.prog 10 #[.agg #[.string x0, .string x1, .int .i64 x2, .int .i64 x3, .int .i64 x4, .string x5], .pointer (some ⟨A, 0, none⟩)] W (BoolP (decide (x3 ≤ t) && decide (t < x4)) W) := by
  have hne : A ≠ W.heap.size := by omega
  by_cases h1 : x3 ≤ t
  · by_cases h2 : t < x4
    · go_enter Tryz.func10, Tryz.ntmps10
      go_wp2_with fail
      go_ret
      exact ⟨by first | (simp [h1, h2]; done) | (simp; omega), (by (try show Below _ _ _); repeat (with_reducible first | exact Below.refl _ _ | assumption | exact Hid.out (by assumption) | refine ext_alloc ?_ | refine ext_drewN ?_ | refine ext_drew ?_ | refine ext_setCell ?_ (Nat.le_refl _) | refine ext_setCell ?_ (Nat.le_succ _) | refine ext_trans ?_ (by assumption) | (refine ext_setCell ?_ (by simp)) | (refine ext_setCell ?_ (by simp at *; omega))))⟩
    · have h2b : x4 ≤ t := by omega
      go_enter Tryz.func10, Tryz.ntmps10
      go_wp2_with fail
      go_ret
      exact ⟨by first | (simp [h1, h2]; done) | (simp; omega), (by (try show Below _ _ _); repeat (with_reducible first | exact Below.refl _ _ | assumption | exact Hid.out (by assumption) | refine ext_alloc ?_ | refine ext_drewN ?_ | refine ext_drew ?_ | refine ext_setCell ?_ (Nat.le_refl _) | refine ext_setCell ?_ (Nat.le_succ _) | refine ext_trans ?_ (by assumption) | (refine ext_setCell ?_ (by simp)) | (refine ext_setCell ?_ (by simp at *; omega))))⟩
  · have h1b : t < x3 := by omega
    go_enter Tryz.func10, Tryz.ntmps10
    go_wp2_with fail
    go_ret
    exact ⟨by first | (simp [h1]; done) | (simp; omega), (by (try show Below _ _ _); repeat (with_reducible first | exact Below.refl _ _ | assumption | exact Hid.out (by assumption) | refine ext_alloc ?_ | refine ext_drewN ?_ | refine ext_drew ?_ | refine ext_setCell ?_ (Nat.le_refl _) | refine ext_setCell ?_ (Nat.le_succ _) | refine ext_trans ?_ (by assumption) | (refine ext_setCell ?_ (by simp)) | (refine ext_setCell ?_ (by simp at *; omega))))⟩
theorem tell_pred (t : Int) (A : Nat) (w : World) (hA : A < w.heap.size) (c0 : w.cell? ⟨A, 0, none⟩ = some (.int .i64 t)) : PredBelow Tryz.prog 10 #[.pointer (some ⟨A, 0, none⟩)] (fun x : Vbcn => .agg (Vbcn.cells x).toArray) (fun x => decide (x.at_ ≤ t) && decide (t < x.til)) w := fun W x hb =>
  (tell_call ⟨x.per.toArray⟩ ⟨x.dev.toArray⟩ ⟨x.note.toArray⟩ x.st x.at_ x.til t A W (Nat.lt_of_lt_of_le hA hb.size) ((hb.cell (p := ⟨A, 0, none⟩) hA).trans c0)).mono fun e w' h => ⟨h.1, ext_trans hb h.2⟩
theorem idxB_nil (a : Option Addr) (c : Nat) (fv : Value) (w : World) : Calls Tryz.prog 9 #[.slice a 0 c, fv] w fun e w' => e = .returned (.int .i64 (-1)) ∧ w = w' := by
  go_enter Tryz.func9, Tryz.ntmps9
  go_wp2_with fail
  go_loopw [8] (fun i wr => i = .int .i64 0 ∧ wr = w) (fun i _ => 0)
  case atStart => exact ⟨rfl, rfl⟩
  case round =>
    obtain ⟨rfl, rfl⟩ := hrel
    go_wp2_with fail
    go_ret
    exact ⟨rfl, rfl⟩
theorem idxB_any (g : Nat) (lb : Array Value) (eg : ∀ args w, (callFunc g args).run Tryz.prog w = .ok (.enter g args) w) (w : World) (base : Nat) (v : Value) (l : List Vbcn) (h : VbcnRow w base v l) (hm : l.length ≤ 1000) (p : Vbcn → Bool) (hp : PredBelow Tryz.prog g lb (fun x : Vbcn => .agg (Vbcn.cells x).toArray) p w) :
    Calls Tryz.prog 9 #[v, .func (.func g) #[] lb] w fun e w' => e = .returned (.int .i64 (idxInt (l.findIdx? p))) ∧ Below w.heap.size w w' := by
  unfold VbcnRow at h
  obtain ⟨a, c, rfl⟩ := own_shape h
  by_cases h0 : l.length = 0
  · obtain rfl : l = [] := List.length_eq_zero_iff.1 h0
    exact (idxB_nil a c _ w).mono (by rintro e w' ⟨rfl, rfl⟩; exact ⟨rfl, Below.refl _ _⟩)
  · obtain ⟨g2, rfl, _, hg1⟩ := own_pos h (by omega)
    have := Tryz.slices_idxB Vbcn.cells (fun _ => rfl) p g lb eg g2 0 l.length c l w hp (Nat.le_refl _) (by omega) hg1 (fun j hj i v hv => by
      rw [bang_is hj] at hv
      rw [Nat.zero_add]
      exact own_field Vbcn.cells (fun _ => rfl) h j i default hj (by have := (List.getElem?_eq_some_iff.1 hv).1; exact this) hv)
    rw [List.take_length, idxI_find] at this
    exact this
end Go.Proofs.YtamoclofloijpaaGreatDoor

namespace Go.Proofs.YtamoclofloijpaaGreatDoor
open Go.RowKit
set_option linter.unusedVariables false
set_option linter.unusedSimpArgs false

def signsL : List UInt8 := [35, 42, 48, 49, 50, 51, 52, 53, 54, 55, 56, 57]
theorem signs_index (c : Int) (w : World) :
    Calls Tryz.prog 160 #[.string ⟨#[35, 42, 48, 49, 50, 51, 52, 53, 54, 55, 56, 57]⟩, .int .u8 c] w fun e w' => e = .returned (.int .i64 (Lib.indexByte signsL c.toNat.toUInt8)) ∧ w' = w := Tryz.strings_IndexByte ⟨#[35, 42, 48, 49, 50, 51, 52, 53, 54, 55, 56, 57]⟩ c w

theorem only_49 (w : World) : Calls Tryz.prog 176 #[.int .u8 49] w fun e w' => e = .returned (.int .u16 8) ∧ w = w' := by
  have hcon := signs_index 49 w
  rw [show Lib.indexByte signsL (49 : Int).toNat.toUInt8 = 3 by decide] at hcon
  go_enter Tryz.func176, Tryz.ntmps176
  go_wp2_with (go_at_call 160; refine hcon.mono ?_; rintro e w' ⟨rfl, rfl⟩)
  go_ret
  exact ⟨rfl, rfl⟩
theorem only_50 (w : World) : Calls Tryz.prog 176 #[.int .u8 50] w fun e w' => e = .returned (.int .u16 16) ∧ w = w' := by
  have hcon := signs_index 50 w
  rw [show Lib.indexByte signsL (50 : Int).toNat.toUInt8 = 4 by decide] at hcon
  go_enter Tryz.func176, Tryz.ntmps176
  go_wp2_with (go_at_call 160; refine hcon.mono ?_; rintro e w' ⟨rfl, rfl⟩)
  go_ret
  exact ⟨rfl, rfl⟩
theorem only_51 (w : World) : Calls Tryz.prog 176 #[.int .u8 51] w fun e w' => e = .returned (.int .u16 32) ∧ w = w' := by
  have hcon := signs_index 51 w
  rw [show Lib.indexByte signsL (51 : Int).toNat.toUInt8 = 5 by decide] at hcon
  go_enter Tryz.func176, Tryz.ntmps176
  go_wp2_with (go_at_call 160; refine hcon.mono ?_; rintro e w' ⟨rfl, rfl⟩)
  go_ret
  exact ⟨rfl, rfl⟩
theorem only_52 (w : World) : Calls Tryz.prog 176 #[.int .u8 52] w fun e w' => e = .returned (.int .u16 64) ∧ w = w' := by
  have hcon := signs_index 52 w
  rw [show Lib.indexByte signsL (52 : Int).toNat.toUInt8 = 6 by decide] at hcon
  go_enter Tryz.func176, Tryz.ntmps176
  go_wp2_with (go_at_call 160; refine hcon.mono ?_; rintro e w' ⟨rfl, rfl⟩)
  go_ret
  exact ⟨rfl, rfl⟩
theorem only_53 (w : World) : Calls Tryz.prog 176 #[.int .u8 53] w fun e w' => e = .returned (.int .u16 128) ∧ w = w' := by
  have hcon := signs_index 53 w
  rw [show Lib.indexByte signsL (53 : Int).toNat.toUInt8 = 7 by decide] at hcon
  go_enter Tryz.func176, Tryz.ntmps176
  go_wp2_with (go_at_call 160; refine hcon.mono ?_; rintro e w' ⟨rfl, rfl⟩)
  go_ret
  exact ⟨rfl, rfl⟩
theorem only_54 (w : World) : Calls Tryz.prog 176 #[.int .u8 54] w fun e w' => e = .returned (.int .u16 256) ∧ w = w' := by
  have hcon := signs_index 54 w
  rw [show Lib.indexByte signsL (54 : Int).toNat.toUInt8 = 8 by decide] at hcon
  go_enter Tryz.func176, Tryz.ntmps176
  go_wp2_with (go_at_call 160; refine hcon.mono ?_; rintro e w' ⟨rfl, rfl⟩)
  go_ret
  exact ⟨rfl, rfl⟩
theorem only_55 (w : World) : Calls Tryz.prog 176 #[.int .u8 55] w fun e w' => e = .returned (.int .u16 512) ∧ w = w' := by
  have hcon := signs_index 55 w
  rw [show Lib.indexByte signsL (55 : Int).toNat.toUInt8 = 9 by decide] at hcon
  go_enter Tryz.func176, Tryz.ntmps176
  go_wp2_with (go_at_call 160; refine hcon.mono ?_; rintro e w' ⟨rfl, rfl⟩)
  go_ret
  exact ⟨rfl, rfl⟩
theorem only_56 (w : World) : Calls Tryz.prog 176 #[.int .u8 56] w fun e w' => e = .returned (.int .u16 1024) ∧ w = w' := by
  have hcon := signs_index 56 w
  rw [show Lib.indexByte signsL (56 : Int).toNat.toUInt8 = 10 by decide] at hcon
  go_enter Tryz.func176, Tryz.ntmps176
  go_wp2_with (go_at_call 160; refine hcon.mono ?_; rintro e w' ⟨rfl, rfl⟩)
  go_ret
  exact ⟨rfl, rfl⟩
theorem only_57 (w : World) : Calls Tryz.prog 176 #[.int .u8 57] w fun e w' => e = .returned (.int .u16 2048) ∧ w = w' := by
  have hcon := signs_index 57 w
  rw [show Lib.indexByte signsL (57 : Int).toNat.toUInt8 = 11 by decide] at hcon
  go_enter Tryz.func176, Tryz.ntmps176
  go_wp2_with (go_at_call 160; refine hcon.mono ?_; rintro e w' ⟨rfl, rfl⟩)
  go_ret
  exact ⟨rfl, rfl⟩

set_option maxHeartbeats 1000000 in
theorem from_29 (w : World) : Calls Tryz.prog 174 #[.int .u8 50, .int .u8 57] w fun e w' => e = .returned (.int .u16 4080) ∧ w = w' := by
  go_enter Tryz.func174, Tryz.ntmps174
  go_wp2_with fail
  refine wp_loop_rounds 9 ?_
  rw [rounds_succ]
  go_wp2_with (go_at_call 176; refine (only_50 _).mono ?_; rintro e w' ⟨rfl, rfl⟩)
  rw [rounds_succ]
  go_wp2_with (go_at_call 176; refine (only_51 _).mono ?_; rintro e w' ⟨rfl, rfl⟩)
  rw [rounds_succ]
  go_wp2_with (go_at_call 176; refine (only_52 _).mono ?_; rintro e w' ⟨rfl, rfl⟩)
  rw [rounds_succ]
  go_wp2_with (go_at_call 176; refine (only_53 _).mono ?_; rintro e w' ⟨rfl, rfl⟩)
  rw [rounds_succ]
  go_wp2_with (go_at_call 176; refine (only_54 _).mono ?_; rintro e w' ⟨rfl, rfl⟩)
  rw [rounds_succ]
  go_wp2_with (go_at_call 176; refine (only_55 _).mono ?_; rintro e w' ⟨rfl, rfl⟩)
  rw [rounds_succ]
  go_wp2_with (go_at_call 176; refine (only_56 _).mono ?_; rintro e w' ⟨rfl, rfl⟩)
  rw [rounds_succ]
  go_wp2_with (go_at_call 176; refine (only_57 _).mono ?_; rintro e w' ⟨rfl, rfl⟩)
  rw [rounds_succ]
  go_wp2_with fail
  go_ret
  exact ⟨rfl, rfl⟩

set_option maxHeartbeats 1000000 in
theorem element_N1 (w : World) : Calls Tryz.prog 126 #[.string ⟨#[78, 49]⟩] w fun e w' => e = .returned (.tuple #[.int .u16 4080, .int .i64 1]) ∧ w = w' := by
  go_enter Tryz.func126, Tryz.ntmps126
  go_wp2_with (go_at_call 174; refine (from_29 _).mono ?_; rintro e w' ⟨rfl, rfl⟩)
  go_ret2
  exact ⟨rfl, rfl⟩

set_option maxHeartbeats 1000000 in
theorem element_1 (w : World) : Calls Tryz.prog 126 #[.string ⟨#[49]⟩] w fun e w' => e = .returned (.tuple #[.int .u16 8, .int .i64 1]) ∧ w = w' := by
  have hcon := fun w => signs_index 49 w
  rw [show Lib.indexByte signsL (49 : Int).toNat.toUInt8 = 3 by decide] at hcon
  go_enter Tryz.func126, Tryz.ntmps126
  go_wp2_with (first | (go_at_call 160; refine (hcon _).mono ?_; rintro e w' ⟨rfl, rfl⟩) | (go_at_call 176; refine (only_49 _).mono ?_; rintro e w' ⟨rfl, rfl⟩))
  go_ret2
  exact ⟨rfl, rfl⟩

theorem Tryz.infoMask : (Tryz.prog.info? 177).map (fun i => (i.zero, i.size, i.bytes)) = some (some (.int .u16 0), 1, 2) := by kernel_rfl

/-- What has been read so far lies in a block of its own. -/
structure RdAt (w wr : World) (k : Nat) : Prop where
  row : ∃ v, wr.cell? ⟨w.heap.size + 1, 0, none⟩ = some v ∧ wr.ownsRow (w.heap.size + 2) 177 1 v k (([.int .u16 4080, .int .u16 8] : List Value).take k)
  tail : wr.cell? ⟨w.heap.size + 1, 1, none⟩ = some (.int .u8 0)
  fro : wr.frozen? ⟨w.heap.size + 1, 0, none⟩ = false
  res0 : wr.cell? ⟨w.heap.size, 0, none⟩ = some (.slice none 0 0)
  res1 : wr.cell? ⟨w.heap.size, 1, none⟩ = some (.int .u8 0)
  fro0 : ∀ j, wr.frozen? ⟨w.heap.size, j, none⟩ = false
  low : Below w.heap.size w wr
  size : w.heap.size + 2 ≤ wr.heap.size

def rdyLen : Value → Nat | .string s => s.size | _ => 0

theorem rd_next {w wr X w1 : World} {k : Nat} {v : Value} {row : Option Nat} (h : RdAt w wr k) (hX : Below wr.heap.size wr X) (hg : X.grownBy w1 row) (hr : ∀ b, row = some b → w.heap.size + 2 ≤ b)
    (hown : w1.ownsRow (w.heap.size + 2) 177 1 v (k + 1) (([.int .u16 4080, .int .u16 8] : List Value).take (k + 1))) : RdAt w (w1.setCell ⟨w.heap.size + 1, 0, none⟩ v) (k + 1) := by
  have hb : ∀ b, b < w.heap.size + 2 → w1.heap[b]? = wr.heap[b]? := fun b hb => (hg.block b (by have := hX.size; have := h.size; omega) (fun e => by have := hr b e.symm; omega)).trans (hX.block b (by have := h.size; omega))
  have hc : ∀ b o, b < w.heap.size + 2 → w1.cell? ⟨b, o, none⟩ = wr.cell? ⟨b, o, none⟩ := fun b o h => World.cell?_of_block (w := wr) (a := ⟨b, o, none⟩) (hb b h)
  have hf : ∀ b o, b < w.heap.size + 2 → w1.frozen? ⟨b, o, none⟩ = wr.frozen? ⟨b, o, none⟩ := fun b o h => World.frozen?_of_block (w := wr) (a := ⟨b, o, none⟩) (hb b h)
  obtain ⟨v0, hv0, _⟩ := h.row
  refine ⟨⟨v, World.cell?_setCell_same _ _ _ ((hc _ _ (by omega)).trans hv0), ownsRow_setCell_below hown (by show w.heap.size + 1 < _; omega) v⟩, ?_, ?_, ?_, ?_, ?_, ?_, ?_⟩
  · exact (World.cell?_setCell_other _ _ _ _ (by simp)).trans ((hc _ _ (by omega)).trans h.tail)
  · rw [World.frozen?_setCell]; exact (hf _ _ (by omega)).trans h.fro
  · exact (World.cell?_setCell_other _ _ _ _ (by simp)).trans ((hc _ _ (by omega)).trans h.res0)
  · exact (World.cell?_setCell_other _ _ _ _ (by simp)).trans ((hc _ _ (by omega)).trans h.res1)
  · intro j; rw [World.frozen?_setCell]; exact (hf _ _ (by omega)).trans (h.fro0 j)
  · exact ((h.low.trans (hX.mono (by have := h.size; omega))).grown hg (by have := h.size; have := hX.size; omega) (fun b e => by have := hr b e; omega)).setCell (by show w.heap.size ≤ w.heap.size + 1; omega) v
  · have := hg.size; have := hX.size; have := h.size; simp; omega

def ReadPost (w : World) (e : Ending) (w' : World) : Prop := ∃ (g cap : Nat), e = .returned (.tuple #[.agg #[.slice (some ⟨g, 0, none⟩) 2 cap, .int .u8 0], .int .i64 0]) ∧ g < w'.heap.size ∧ w'.cell? ⟨g, 0, none⟩ = some (.int .u16 4080) ∧ w'.cell? ⟨g, 1, none⟩ = some (.int .u16 8) ∧ Below w.heap.size w w'

set_option maxRecDepth 100000 in
set_option maxHeartbeats 2000000 in
theorem read_N1 (w : World) : Calls Tryz.prog 70 #[.string ⟨#[78, 49]⟩] w (ReadPost w) := by
  obtain ⟨i0, hi, hz0, hz1, hz2⟩ := info_parts Tryz.infoMask
  go_enter Tryz.func70, Tryz.ntmps70
  go_wp2_with fail
  go_loopw [5] (fun s5 wr => (s5 = .string ⟨#[78, 49]⟩ ∧ RdAt w wr 0 ∧ wr.cell? ⟨w.heap.size + 1, 0, none⟩ = some (.slice none 0 0)) ∨ (s5 = .string ⟨#[49]⟩ ∧ RdAt w wr 1) ∨ (s5 = .string ⟨#[]⟩ ∧ RdAt w wr 2)) (fun s5 _ => rdyLen s5)
  case atStart => exact Or.inl ⟨rfl, ⟨⟨.slice none 0 0, by simp, World.ownsRow_nil _ _ _ _⟩, by simp, by simp, by simp, by simp, by simp, (by (try show Below _ _ _); repeat (with_reducible first | exact Below.refl _ _ | assumption | exact Hid.out (by assumption) | refine ext_alloc ?_ | refine ext_drewN ?_ | refine ext_drew ?_ | refine ext_setCell ?_ (Nat.le_refl _) | refine ext_setCell ?_ (Nat.le_succ _) | refine ext_trans ?_ (by assumption) | (refine ext_setCell ?_ (by simp)) | (refine ext_setCell ?_ (by simp at *; omega)))), by simp⟩, by simp⟩
  case round =>
    rcases hrel with ⟨rfl, R, hv⟩ | ⟨rfl, R⟩ | ⟨rfl, R⟩
    · have HR := Lib.hid R
      have t1 := R.tail
      have t2 := R.fro
      have zz : w.heap.size + 1 < wr.heap.size := by have := R.size; omega
      have zz0 : w.heap.size < wr.heap.size := by omega
      clear R
      go_wp2_with (go_at_call 126; refine (element_N1 _).mono ?_; rintro e w' ⟨rfl, rfl⟩)
      go_region_law (refine step_append_lies _ rfl (.tmp 34) (.tmp 36) 121 rfl (w.heap.size + 2) 177 i0 (.int .u16 0) 1 2 Tryz.underlying121 hi hz0 hz1 hz2 rfl (by decide) (.slice none 0 0) 0 [] (by simp [Act.eval, Act.put]) ⟨rfl, Or.inl ⟨rfl, rfl⟩⟩ ⟨wr.heap.size, 0, none⟩ 1 1 [.int .u16 4080] (by simp [Act.eval, Act.put]) rfl (news_one (by go_simp)) (by simp [Value.oneCell']) (by omega) (by simp [maxLen]) (by omega) (by simp; omega) _ rfl ?_; intro g cap w1 hown1 hgr1 hwh1 hg1; have hbl1 := below_of_grown_none hgr1; obtain ⟨qc1, qf1⟩ := bcell hbl1)
      all_goals
        go_simp
        go_wp2_with fail
        go_roundw
        case rel => exact Or.inr (Or.inl ⟨congrArg Value.string (by decide), rd_next HR.out (by (try show Below _ _ _); repeat (with_reducible first | exact Below.refl _ _ | assumption | exact Hid.out (by assumption) | refine ext_alloc ?_ | refine ext_drewN ?_ | refine ext_drew ?_ | refine ext_setCell ?_ (Nat.le_refl _) | refine ext_setCell ?_ (Nat.le_succ _) | refine ext_trans ?_ (by assumption) | (refine ext_setCell ?_ (by simp)) | (refine ext_setCell ?_ (by simp at *; omega)))) hgr1 (fun b e => by cases e) hown1⟩)
        case measure => decide
    · obtain ⟨v, hv, hown⟩ := R.row
      have HR := Lib.hid R
      have t1 := R.tail
      have t2 := R.fro
      have zz : w.heap.size + 1 < wr.heap.size := by have := R.size; omega
      have zz0 : w.heap.size < wr.heap.size := by omega
      clear R
      obtain ⟨g0, cap0, rfl, hg0⟩ : ∃ g0 cap0, v = .slice (some ⟨g0, 0, none⟩) 1 cap0 ∧ w.heap.size + 2 ≤ g0 := by
        rcases hown.2 with ⟨h, h'⟩ | ⟨g, cap, cur, h, h1, h2, h3, h4, h5, h6⟩
        · cases h'
        · exact ⟨g, cap, h, h1⟩
      have nz : ¬ w.heap.size + 1 = g0 := by omega
      have HO := Lib.hid hown
      clear hown
      go_wp2_with (go_at_call 126; refine (element_1 _).mono ?_; rintro e w' ⟨rfl, rfl⟩)
      go_region_law (refine step_append_lies _ rfl (.tmp 34) (.tmp 36) 121 rfl (w.heap.size + 2) 177 i0 (.int .u16 0) 1 2 Tryz.underlying121 hi hz0 hz1 hz2 rfl (by decide) (.slice (some ⟨g0, 0, none⟩) 1 cap0) 1 [.int .u16 4080] (by simp [Act.eval, Act.put]) (by first | exact (HO.out.drew).alloc _ | exact (HO.out.alloc _).drew) ⟨wr.heap.size, 0, none⟩ 1 1 [.int .u16 8] (by simp [Act.eval, Act.put]) rfl (news_one (by go_simp)) (by simp [Value.oneCell']) (by omega) (by simp [maxLen]) (by omega) (by simp; omega) _ rfl ?_; intro g cap w1 hown1 hgr1 hwh1 hg1; obtain ⟨qc1, qf1⟩ := kept_of_grown hgr1)
      all_goals
        go_simp
        go_wp2_with fail
        go_roundw
        case rel => exact Or.inr (Or.inr ⟨congrArg Value.string (by decide), rd_next HR.out (by (try show Below _ _ _); repeat (with_reducible first | exact Below.refl _ _ | assumption | exact Hid.out (by assumption) | refine ext_alloc ?_ | refine ext_drewN ?_ | refine ext_drew ?_ | refine ext_setCell ?_ (Nat.le_refl _) | refine ext_setCell ?_ (Nat.le_succ _) | refine ext_trans ?_ (by assumption) | (refine ext_setCell ?_ (by simp)) | (refine ext_setCell ?_ (by simp at *; omega)))) hgr1 (fun b e => by cases e; exact hg0) hown1⟩)
        case measure => decide
    · obtain ⟨v, hv, hown⟩ := R.row
      have t1 := R.tail
      have t2 := R.fro
      have z0 := R.res0
      have z1 := R.res1
      have z2 := R.fro0
      have HL := Lib.hid R.low
      clear R
      obtain ⟨g0, cap0, rfl, hg0⟩ : ∃ g0 cap0, v = .slice (some ⟨g0, 0, none⟩) 2 cap0 ∧ w.heap.size + 2 ≤ g0 := by
        rcases hown.2 with ⟨h, h'⟩ | ⟨g, cap, cur, h, h1, h2, h3, h4, h5, h6⟩
        · cases h'
        · exact ⟨g, cap, h, h1⟩
      have hlt := (hown.lt g0 rfl).2
      have e0 := hown.cellAt 0 (by omega)
      have e1 := hown.cellAt 1 (by omega)
      have E0 : Hid (wr.cell? ⟨g0, 0, none⟩ = some (.int .u16 4080)) := e0
      have E1 : Hid (wr.cell? ⟨g0, 1, none⟩ = some (.int .u16 8)) := e1
      clear hown e0 e1
      go_wp2_with fail
      refine bodyPost_ret (v := .tuple #[.agg #[.slice (some ⟨g0, 0, none⟩) 2 cap0, .int .u8 0], .int .i64 0]) (by simp [results, Tryz.results70, go_sem, z0, z1]) rfl ⟨g0, cap0, rfl, by simpa using hlt, ?_, ?_, ?_⟩
      · rw [World.cell?_setCell_other _ _ _ _ (by simp <;> omega), World.cell?_setCell_other _ _ _ _ (by simp <;> omega)]; exact E0.out
      · rw [World.cell?_setCell_other _ _ _ _ (by simp <;> omega), World.cell?_setCell_other _ _ _ _ (by simp <;> omega)]; exact E1.out
      · exact ext_setCell (ext_setCell HL.out (Nat.le_refl _)) (Nat.le_refl _)

end Go.Proofs.YtamoclofloijpaaGreatDoor

namespace Go.Proofs.YtamoclofloijpaaGreatDoor
open Go.RowKit
set_option linter.unusedVariables false
set_option linter.unusedSimpArgs false

/-- The table that counts zeros from below. -/
def tabL : List Int := [0, 1, 28, 2, 29, 14, 24, 3, 30, 22, 20, 15, 25, 17, 4, 8, 31, 27, 13, 23, 21, 19, 16, 7, 26, 12, 18, 6, 11, 5, 10, 9]
def TabAt (w : World) : Prop := 2 < w.heap.size ∧ ∀ i, i < 32 → w.cell? ⟨2, i, none⟩ = some (.int .u8 (tabL.getD i 0))
theorem TabAt.below {w w' : World} (h : TabAt w) (hb : Below w.heap.size w w') : TabAt w' :=
  ⟨Nat.lt_of_lt_of_le h.1 hb.size, fun i hi => (hb.cell (p := ⟨2, i, none⟩) h.1).trans (h.2 i hi)⟩
theorem TabAt.keeps {w w' : World} {S : Nat} (h : TabAt w) (hb : Keeps S w w') (hS : 2 ≠ S) : TabAt w' :=
  ⟨Nat.lt_of_lt_of_le h.1 hb.size, fun i hi => (hb.cell (p := ⟨2, i, none⟩) h.1 hS).trans (h.2 i hi)⟩

theorem zeros_4080 (w : World) (h : TabAt w) : Calls Tryz.prog 128 #[.int .u16 4080] w fun e w' => e = .returned (.int .i64 4) ∧ w = w' := by
  have hc : w.cell? ⟨2, 14, none⟩ = some (.int .u8 4) := h.2 14 (by omega)
  have e0 : IntKind.u16.wrap (-4080) = 61456 := by decide
  have e1 : bits BinOp.and IntKind.u16 4080 61456 = 16 := by decide
  clear h
  go_enter Tryz.func128, Tryz.ntmps128
  go_wp2
  go_ret
  exact ⟨rfl, rfl⟩
theorem zeros_8 (w : World) (h : TabAt w) : Calls Tryz.prog 128 #[.int .u16 8] w fun e w' => e = .returned (.int .i64 3) ∧ w = w' := by
  have hc : w.cell? ⟨2, 7, none⟩ = some (.int .u8 3) := h.2 7 (by omega)
  have e0 : IntKind.u16.wrap (-8) = 65528 := by decide
  have e1 : bits BinOp.and IntKind.u16 8 65528 = 8 := by decide
  clear h
  go_enter Tryz.func128, Tryz.ntmps128
  go_wp2
  go_ret
  exact ⟨rfl, rfl⟩

set_option maxHeartbeats 1000000 in
theorem takes_at (w : World) (g cap : Nat) (i : Nat) (m : Int) (hi : i < 2) (hc : w.cell? ⟨g, i, none⟩ = some (.int .u16 m)) :
    Calls Tryz.prog 127 #[.agg #[.slice (some ⟨g, 0, none⟩) 2 cap, .int .u8 0], .int .i64 i] w fun e w' => e = .returned (.tuple #[.int .u16 m, .bool false]) ∧ Below w.heap.size w w' := by
  have hg : g < w.heap.size := by
    rcases Nat.lt_or_ge g w.heap.size with h | h
    · exact h
    · simp [World.cell?, Array.getElem?_eq_none h] at hc
  go_enter Tryz.func127, Tryz.ntmps127
  go_wp2_with fail
  go_ret2
  exact ⟨rfl, (by (try show Below _ _ _); repeat (with_reducible first | exact Below.refl _ _ | assumption | exact Hid.out (by assumption) | refine ext_alloc ?_ | refine ext_drewN ?_ | refine ext_drew ?_ | refine ext_setCell ?_ (Nat.le_refl _) | refine ext_setCell ?_ (Nat.le_succ _) | refine ext_trans ?_ (by assumption) | (refine ext_setCell ?_ (by simp)) | (refine ext_setCell ?_ (by simp at *; omega))))⟩

set_option maxHeartbeats 1000000 in
theorem takes_end (w : World) (g cap : Nat) :
    Calls Tryz.prog 127 #[.agg #[.slice (some ⟨g, 0, none⟩) 2 cap, .int .u8 0], .int .i64 2] w fun e w' => e = .returned (.tuple #[.int .u16 0, .bool true]) ∧ Below w.heap.size w w' := by
  go_enter Tryz.func127, Tryz.ntmps127
  go_wp2_with fail
  go_quiet (fail)
  go_wp2_with fail
  go_ret2
  exact ⟨rfl, (by (try show Below _ _ _); repeat (with_reducible first | exact Below.refl _ _ | assumption | exact Hid.out (by assumption) | refine ext_alloc ?_ | refine ext_drewN ?_ | refine ext_drew ?_ | refine ext_setCell ?_ (Nat.le_refl _) | refine ext_setCell ?_ (Nat.le_succ _) | refine ext_trans ?_ (by assumption) | (refine ext_setCell ?_ (by simp)) | (refine ext_setCell ?_ (by simp at *; omega))))⟩

theorem infoByteR : (Tryz.prog.info? 5).map (fun i => (i.zero, i.size, i.bytes)) = some (some (.int .u8 0), 1, 1) := by kernel_rfl

set_option maxRecDepth 100000 in
set_option maxHeartbeats 2000000 in
theorem shared_N1 (w : World) (q g cap : Nat) (hq : q < w.heap.size) (hg : g < w.heap.size) (h0 : w.cell? ⟨q, 0, none⟩ = some (.slice (some ⟨g, 0, none⟩) 2 cap)) (h1 : w.cell? ⟨q, 1, none⟩ = some (.int .u8 0)) (h2 : w.cell? ⟨g, 0, none⟩ = some (.int .u16 4080)) (h3 : w.cell? ⟨g, 1, none⟩ = some (.int .u16 8)) (ht : TabAt w) :
    Calls Tryz.prog 71 #[.slice (some ⟨q, 0, none⟩) 1 1] w fun e w' => e = .returned (.tuple #[.string ⟨#[50, 49]⟩, .bool true]) ∧ Below w.heap.size w w' := by
  obtain ⟨i0, hi, hz0, hz1, hz2⟩ := info_parts infoByteR
  have HT := Lib.hid ht
  clear ht
  have e0 : bits BinOp.and IntKind.u16 4095 4080 = 4080 := by decide
  have e1 : bits BinOp.and IntKind.u16 4095 8 = 8 := by decide
  have e2 : bits BinOp.and IntKind.u16 4095 0 = 0 := by decide
  go_enter Tryz.func71, Tryz.ntmps71
  go_wp2_with fail
  refine wp_loop_rounds 3 ?_
  rw [rounds_succ]
  go_wp2_with fail
  refine wp_loop_rounds 2 ?_
  rw [rounds_succ]
  go_wp2_with fail
  refine (takes_at _ g cap 0 4080 (by omega) (by go_simp)).mono ?_
  rintro e w1 ⟨rfl, hB1⟩
  obtain ⟨q1, -⟩ := bcell hB1
  go_wp2_with fail
  rw [rounds_succ]
  go_wp2_with fail
  refine (zeros_4080 _ (HT.out.below (by (try show Below _ _ _); repeat (with_reducible first | exact Below.refl _ _ | assumption | exact Hid.out (by assumption) | refine ext_alloc ?_ | refine ext_drewN ?_ | refine ext_drew ?_ | refine ext_setCell ?_ (Nat.le_refl _) | refine ext_setCell ?_ (Nat.le_succ _) | refine ext_trans ?_ (by assumption) | (refine ext_setCell ?_ (by simp)) | (refine ext_setCell ?_ (by simp at *; omega)))))).mono ?_
  rintro e w' ⟨rfl, rfl⟩
  have H0 := Lib.hid h0
  have H1 := Lib.hid h1
  have H2 := Lib.hid h2
  have H3 := Lib.hid h3
  have z1 : w.heap.size ≤ w1.heap.size := by have := hB1.size; simp at this; omega
  have hW1 : Below w.heap.size w w1 := (by (try show Below _ _ _); repeat (with_reducible first | exact Below.refl _ _ | assumption | exact Hid.out (by assumption) | refine ext_alloc ?_ | refine ext_drewN ?_ | refine ext_drew ?_ | refine ext_setCell ?_ (Nat.le_refl _) | refine ext_setCell ?_ (Nat.le_succ _) | refine ext_trans ?_ (by assumption) | (refine ext_setCell ?_ (by simp)) | (refine ext_setCell ?_ (by simp at *; omega))))
  go_wp2_with (at_builtin; refine wpList_append_own _ rfl (.tmp 43) (.tmp 47) 93 rfl w.heap.size 5 i0 (.int .u8 0) 1 1 Tryz.underlying93 hi hz0 hz1 hz2 rfl (by decide) (.slice none 0 0) 0 [] (by simp [Act.eval]) (World.ownsRow_nil _ _ _ _) ⟨w1.heap.size, 0, none⟩ 1 1 [.int .u8 50] (by simp [Act.eval]) rfl (news_one (by first | (go_simp; done) | (go_simp; rfl))) (by simp [Value.oneCell']) (by simp [maxLen]) (by omega) (by simp; omega) ?_; intro v2 w2 hown2 hgr2 _)
  have hW2 : Below w.heap.size w w2 := (hW1.alloc z1 _).grown hgr2 (by simp; omega) (fun k e => by cases e)
  clear h0 h1 h2 h3 q1 hB1
  have h0w2 : w2.cell? ⟨q, 0, none⟩ = some (.slice (some ⟨g, 0, none⟩) 2 cap) := (hW2.cell (p := ⟨q, 0, none⟩) hq).trans H0.out
  have h1w2 : w2.cell? ⟨q, 1, none⟩ = some (.int .u8 0) := (hW2.cell (p := ⟨q, 1, none⟩) hq).trans H1.out
  have h2w2 : w2.cell? ⟨g, 0, none⟩ = some (.int .u16 4080) := (hW2.cell (p := ⟨g, 0, none⟩) hg).trans H2.out
  have h3w2 : w2.cell? ⟨g, 1, none⟩ = some (.int .u16 8) := (hW2.cell (p := ⟨g, 1, none⟩) hg).trans H3.out
  have hqw2 : q < w2.heap.size := Nat.lt_of_lt_of_le hq hW2.size
  have hgw2 : g < w2.heap.size := Nat.lt_of_lt_of_le hg hW2.size

  have HO2 : Hid (w2.ownsRow w.heap.size 5 1 v2 1 [.int .u8 50]) := hown2
  have n2 : ∃ g2 c2, v2 = .slice (some ⟨g2, 0, none⟩) 1 c2 ∧ w.heap.size ≤ g2 := by
    rcases hown2.2 with ⟨h, h'⟩ | ⟨g, cap, cur, h, h1, h2, h3, h4, h5, h6⟩
    · cases h'
    · exact ⟨g, cap, h, h1⟩
  obtain ⟨g2, c2, hv2, hg2⟩ := n2
  rw [hv2]
  rw [hv2] at HO2
  have Hv2 := Lib.hid hv2
  clear hown2 hv2 hgr2
  rw [rounds_succ]
  go_wp2_with fail
  refine wp_loop_rounds 2 ?_
  rw [rounds_succ]
  go_wp2_with fail
  refine (takes_at _ g cap 1 8 (by omega) (by go_simp)).mono ?_
  rintro e w3 ⟨rfl, hB3⟩
  go_wp2_with fail
  rw [rounds_succ]
  go_wp2_with fail
  have hW3 : Below w.heap.size w w3 := (by (try show Below _ _ _); repeat (with_reducible first | exact Below.refl _ _ | assumption | exact Hid.out (by assumption) | refine ext_alloc ?_ | refine ext_drewN ?_ | refine ext_drew ?_ | refine ext_setCell ?_ (Nat.le_refl _) | refine ext_setCell ?_ (Nat.le_succ _) | refine ext_trans ?_ (by assumption) | (refine ext_setCell ?_ (by simp)) | (refine ext_setCell ?_ (by simp at *; omega))))
  have z3 : w.heap.size ≤ w3.heap.size := hW3.size
  refine (zeros_8 _ (HT.out.below hW3)).mono ?_
  rintro e w' ⟨rfl, rfl⟩
  have HO3 : Hid (w3.ownsRow w.heap.size 5 1 (.slice (some ⟨g2, 0, none⟩) 1 c2) 1 [.int .u8 50]) := HO2.out.kept_below ((ext_alloc (Below.refl _ _)).trans (hB3.mono (by simp)))
  go_wp2_with (at_builtin; refine wpList_append_own _ rfl (.tmp 43) (.tmp 47) 93 rfl w.heap.size 5 i0 (.int .u8 0) 1 1 Tryz.underlying93 hi hz0 hz1 hz2 rfl (by decide) (.slice (some ⟨g2, 0, none⟩) 1 c2) 1 [.int .u8 50] (by simp [Act.eval]) (HO3.out.alloc _) ⟨w3.heap.size, 0, none⟩ 1 1 [.int .u8 49] (by simp [Act.eval]) rfl (news_one (by first | (go_simp; done) | (go_simp; rfl))) (by simp [Value.oneCell']) (by simp [maxLen]) (by omega) (by simp; omega) ?_; intro v4 w4 hown4 hgr4 _)
  have hgr4' : w3.heap.size ≤ w4.heap.size := by have := hgr4.size; simp at this; omega
  have hW4 : Below w.heap.size w w4 := (hW3.alloc z3 _).grown hgr4 (by simp; omega) (fun k e => by cases e; exact hg2)
  have h0w4 : w4.cell? ⟨q, 0, none⟩ = some (.slice (some ⟨g, 0, none⟩) 2 cap) := (hW4.cell (p := ⟨q, 0, none⟩) hq).trans H0.out
  have h1w4 : w4.cell? ⟨q, 1, none⟩ = some (.int .u8 0) := (hW4.cell (p := ⟨q, 1, none⟩) hq).trans H1.out
  have h2w4 : w4.cell? ⟨g, 0, none⟩ = some (.int .u16 4080) := (hW4.cell (p := ⟨g, 0, none⟩) hg).trans H2.out
  have h3w4 : w4.cell? ⟨g, 1, none⟩ = some (.int .u16 8) := (hW4.cell (p := ⟨g, 1, none⟩) hg).trans H3.out
  have hqw4 : q < w4.heap.size := Nat.lt_of_lt_of_le hq hW4.size
  have hgw4 : g < w4.heap.size := Nat.lt_of_lt_of_le hg hW4.size

  have n4 : ∃ g4 c4, v4 = .slice (some ⟨g4, 0, none⟩) 2 c4 ∧ w.heap.size ≤ g4 := by
    rcases hown4.2 with ⟨h, h'⟩ | ⟨g, cap, cur, h, h1, h2, h3, h4, h5, h6⟩
    · cases h'
    · exact ⟨g, cap, h, h1⟩
  have HO4 : Hid (w4.ownsRow w.heap.size 5 1 v4 2 [.int .u8 50, .int .u8 49]) := hown4
  obtain ⟨g4, c4, hv4, hg4⟩ := n4
  rw [hv4]
  rw [hv4] at HO4
  have Hv4 := Lib.hid hv4
  clear hown4 hv4 hgr4
  rw [rounds_succ]
  go_wp2_with fail
  refine wp_loop_rounds 2 ?_
  rw [rounds_succ]
  go_wp2_with fail
  refine (takes_end _ g cap).mono ?_
  rintro e w5 ⟨rfl, hB5⟩
  go_wp2_with fail
  rw [rounds_succ]
  have HO5 : Hid (w5.ownsRow w.heap.size 5 1 (.slice (some ⟨g4, 0, none⟩) 2 c4) 2 [.int .u8 50, .int .u8 49]) := HO4.out.kept_below ((ext_alloc (Below.refl _ _)).trans (hB5.mono (by simp)))
  have k0 : w5.cell? ⟨g4, 0, none⟩ = some (.int .u8 50) := HO5.out.cellAt 0 (by omega)
  have k1 : w5.cell? ⟨g4, 1, none⟩ = some (.int .u8 49) := HO5.out.cellAt 1 (by omega)
  have hload : (loadCells ⟨g4, 0, none⟩ 2).run Tryz.prog w5 = .ok (([50, 49] : List Int).map (Value.int .u8)).toArray w5 := by
    have := run_loadCells_list (P := Tryz.prog) w5 ⟨g4, 0, none⟩ [.int .u8 50, .int .u8 49] (fun j v hj => by
      match j, hj with
      | 0, hj => (simp at hj; subst hj; simpa [Addr.add] using k0)
      | 1, hj => (simp at hj; subst hj; simpa [Addr.add] using k1)
      | j + 2, hj => simp at hj)
    exact this
  have hconv : (convert 93 9 (.slice (some ⟨g4, 0, none⟩) 2 c4)).run Tryz.prog w5 = .ok (.string ⟨#[50, 49]⟩) w5 := by
    rw [run_convert_bytes_string w5 93 9 5 _ _ _ Tryz.underlying93 Tryz.underlying5 Tryz.underlying9, run_bytesToString w5 ⟨g4, 0, none⟩ 2 c4 [50, 49] hload]
    rfl
  have hW5 : Below w.heap.size w w5 := (by (try show Below _ _ _); repeat (with_reducible first | exact Below.refl _ _ | assumption | exact Hid.out (by assumption) | refine ext_alloc ?_ | refine ext_drewN ?_ | refine ext_drew ?_ | refine ext_setCell ?_ (Nat.le_refl _) | refine ext_setCell ?_ (Nat.le_succ _) | refine ext_trans ?_ (by assumption) | (refine ext_setCell ?_ (by simp)) | (refine ext_setCell ?_ (by simp at *; omega))))
  clear hload k0 k1
  go_wp2_with fail
  go_ret2
  exact ⟨rfl, hW5⟩

set_option maxRecDepth 100000 in
set_option maxHeartbeats 1000000 in
theorem least_ready (w : World) (ht : TabAt w) : Calls Tryz.prog 27 #[.string ⟨#[78, 49]⟩] w fun e w' => e = .returned (.tuple #[.string ⟨#[50, 49]⟩, .int .i64 0]) ∧ Below w.heap.size w w' := by
  have HT := Lib.hid ht
  clear ht
  go_enter Tryz.func27, Tryz.ntmps27
  go_wp2_with fail
  refine (read_N1 _).mono ?_
  rintro e w1 ⟨g, cap, rfl, hg, c0, c1, hB1⟩
  go_wp2_with fail
  refine (shared_N1 _ _ g cap ?_ ?_ ?_ ?_ ?_ ?_ ?_).mono ?_
  · simp
  · simp; omega
  · go_simp
  · go_simp
  · go_simp
  · go_simp
  · exact HT.out.below (ext_alloc (ext_alloc hB1))
  rintro e w2 ⟨rfl, hB2⟩
  go_wp2_with fail
  go_ret2
  exact ⟨rfl, (by (try show Below _ _ _); repeat (with_reducible first | exact Below.refl _ _ | assumption | exact Hid.out (by assumption) | refine ext_alloc ?_ | refine ext_drewN ?_ | refine ext_drew ?_ | refine ext_setCell ?_ (Nat.le_refl _) | refine ext_setCell ?_ (Nat.le_succ _) | refine ext_trans ?_ (by assumption) | (refine ext_setCell ?_ (by simp)) | (refine ext_setCell ?_ (by simp at *; omega))))⟩
end Go.Proofs.YtamoclofloijpaaGreatDoor

namespace Go.Proofs.YtamoclofloijpaaGreatDoor
open Go.RowKit
set_option linter.unusedVariables false

theorem within_q (n lo hi : Int) (w : World) (h1 : lo ≤ n) (h2 : n ≤ hi) :
    Calls Tryz.prog 177 #[.int .i64 n, .int .i64 lo, .int .i64 hi] w fun e w' => e = .returned (.bool true) ∧ w = w' := by
  go_enter Tryz.func177, Tryz.ntmps177
  go_wp2
  go_ret
  exact ⟨rfl, rfl⟩

def anAgent : Value := .agg #[.string ⟨#[97]⟩, .slice none 0 0, .int .i64 0, .int .i64 5, .slice none 0 0, .int .i64 0]

set_option maxHeartbeats 1000000 in
theorem checkAgent_one (w : World) :
    Calls Tryz.prog 129 #[anAgent] w fun e w' => e = .returned (.int .i64 0) ∧ Below w.heap.size w w' := by
  unfold anAgent
  go_enter Tryz.func129, Tryz.ntmps129
  go_wp2_with fail
  refine wp_loop_rounds 1 ?_
  rw [rounds_succ]
  go_wp2_with fail
  refine wp_loop_rounds 1 ?_
  rw [rounds_succ]
  go_wp2_with (go_at_call 177; refine (within_q _ _ _ _ (by omega) (by omega)).mono ?_; rintro e w' ⟨rfl, rfl⟩)
  go_ret
  exact ⟨rfl, (Below.refl _ _).alloc (Nat.le_refl _) _⟩

theorem isKey_a (w : World) : Calls Tryz.prog 22 #[.string ⟨#[97]⟩] w fun e w' => e = .returned (.bool true) ∧ Below w.heap.size w w' := isKey_any [97] w (by decide)

set_option maxHeartbeats 1000000 in
theorem checkAgents_one (w : World) (b : Nat) (hb : b < w.heap.size) (h0 : w.cell? ⟨b, 0, none⟩ = some (.string ⟨#[97]⟩)) (h1 : w.cell? ⟨b, 1, none⟩ = some (.slice none 0 0)) (h2 : w.cell? ⟨b, 2, none⟩ = some (.int .i64 0)) (h3 : w.cell? ⟨b, 3, none⟩ = some (.int .i64 5)) (h4 : w.cell? ⟨b, 4, none⟩ = some (.slice none 0 0)) (h5 : w.cell? ⟨b, 5, none⟩ = some (.int .i64 0)) :
    Calls Tryz.prog 72 #[.slice (some ⟨b, 0, none⟩) 1 1] w fun e w' => e = .returned (.int .i64 0) ∧ Below w.heap.size w w' := by
  go_enter Tryz.func72, Tryz.ntmps72
  go_wp2_with fail
  refine wp_loop_rounds 2 ?_
  rw [rounds_succ]
  go_wp2_with fail
  refine (isKey_a _).mono ?_
  rintro e w1 ⟨rfl, hB1⟩
  obtain ⟨hc, hf⟩ := bcell hB1
  go_wp2_with fail
  go_quiet (fail)
  go_wp2_with fail
  refine (checkAgent_one _).mono ?_
  rintro e w2 ⟨rfl, hB2⟩
  go_wp2_with fail
  rw [rounds_succ]
  go_wp2_with fail
  go_ret
  exact ⟨rfl, (by (try show Below _ _ _); repeat (with_reducible first | exact Below.refl _ _ | assumption | exact Hid.out (by assumption) | refine ext_alloc ?_ | refine ext_drewN ?_ | refine ext_drew ?_ | refine ext_setCell ?_ (Nat.le_refl _) | refine ext_setCell ?_ (Nat.le_succ _) | refine ext_trans ?_ (by assumption) | (refine ext_setCell ?_ (by simp)) | (refine ext_setCell ?_ (by simp at *; omega))))⟩

theorem present1_any (at_ f t : Int) (w : World) (b : Nat) (hb : b < w.heap.size) (hc : w.cell? ⟨b, 0, none⟩ = some (.int .i64 at_)) (h1 : f ≤ at_) (h2 : at_ < t) :
    Calls Tryz.prog 130 #[.agg #[.int .i64 f, .int .i64 t], .pointer (some ⟨b, 0, none⟩)] w fun e w' => e = .returned (.bool true) ∧ Below w.heap.size w w' := by
  go_enter Tryz.func130, Tryz.ntmps130
  go_wp2_with fail
  go_ret
  exact ⟨rfl, (by (try show Below _ _ _); repeat (with_reducible first | exact Below.refl _ _ | assumption | exact Hid.out (by assumption) | refine ext_alloc ?_ | refine ext_drewN ?_ | refine ext_drew ?_ | refine ext_setCell ?_ (Nat.le_refl _) | refine ext_setCell ?_ (Nat.le_succ _) | refine ext_trans ?_ (by assumption) | (refine ext_setCell ?_ (by simp)) | (refine ext_setCell ?_ (by simp at *; omega))))⟩

theorem containsFunc_nil (f : Value) (w : World) :
    Calls Tryz.prog 131 #[.slice none 0 0, f] w fun e w' => e = .returned (.bool false) ∧ w = w' := by
  go_enter Tryz.func131, Tryz.ntmps131
  go_wp2
  refine wp_loop_rounds 1 ?_
  rw [rounds_succ]
  go_wp2
  go_ret
  exact ⟨rfl, rfl⟩

set_option maxHeartbeats 1000000 in
theorem present_one (w : World) :
    Calls Tryz.prog 73 #[anAgent, .int .i64 4] w fun e w' => e = .returned (.bool true) ∧ Below w.heap.size w w' := by
  unfold anAgent
  go_enter Tryz.func73, Tryz.ntmps73
  go_wp2_with fail
  refine (present1_any 4 0 5 _ (w.heap.size + 1) (by simp) (by simp) (by omega) (by omega)).mono ?_
  rintro e w1 ⟨rfl, hB1⟩
  obtain ⟨hc, hf⟩ := bcell hB1
  go_wp2_with fail
  refine (containsFunc_nil _ _).mono ?_
  rintro e w2 ⟨rfl, rfl⟩
  go_wp2_with fail
  go_ret
  exact ⟨rfl, (by (try show Below _ _ _); repeat (with_reducible first | exact Below.refl _ _ | assumption | exact Hid.out (by assumption) | refine ext_alloc ?_ | refine ext_drewN ?_ | refine ext_drew ?_ | refine ext_setCell ?_ (Nat.le_refl _) | refine ext_setCell ?_ (Nat.le_succ _) | refine ext_trans ?_ (by assumption) | (refine ext_setCell ?_ (by simp)) | (refine ext_setCell ?_ (by simp at *; omega))))⟩

set_option maxHeartbeats 1000000 in
theorem present_ready (w : World) :
    Calls Tryz.prog 28 #[anAgent, .int .i64 4] w fun e w' => e = .returned (.tuple #[.bool true, .int .i64 0]) ∧ Below w.heap.size w w' := by
  unfold anAgent
  go_enter Tryz.func28, Tryz.ntmps28
  go_wp2_with fail
  refine (checkAgents_one _ (w.heap.size + 1) (by simp) (by simp) (by simp) (by simp) (by simp) (by simp) (by simp)).mono ?_
  rintro e w1 ⟨rfl, hB1⟩
  obtain ⟨hc, hf⟩ := bcell hB1
  go_wp2_with fail
  refine (isMoment_any _ _).mono ?_
  rintro e w2 ⟨rfl, rfl⟩
  go_wp2_with fail
  refine (present_one _).mono ?_
  rintro e w3 ⟨rfl, hB3⟩
  go_wp2_with fail
  go_ret2
  exact ⟨rfl, (by (try show Below _ _ _); repeat (with_reducible first | exact Below.refl _ _ | assumption | exact Hid.out (by assumption) | refine ext_alloc ?_ | refine ext_drewN ?_ | refine ext_drew ?_ | refine ext_setCell ?_ (Nat.le_refl _) | refine ext_setCell ?_ (Nat.le_succ _) | refine ext_trans ?_ (by assumption) | (refine ext_setCell ?_ (by simp)) | (refine ext_setCell ?_ (by simp at *; omega))))⟩
end Go.Proofs.YtamoclofloijpaaGreatDoor

namespace Go.Proofs.YtamoclofloijpaaGreatDoor
open Go.RowKit
set_option linter.unusedVariables false

theorem within_v (n lo hi : Int) (w : World) (h1 : lo ≤ n) (h2 : n ≤ hi) :
    Calls Tryz.prog 62 #[.int .i64 n, .int .i64 lo, .int .i64 hi] w fun e w' => e = .returned (.bool true) ∧ w = w' := by
  go_enter Tryz.func62, Tryz.ntmps62
  go_wp2
  go_ret
  exact ⟨rfl, rfl⟩

theorem isKey_b (w : World) : Calls Tryz.prog 22 #[.string ⟨#[98]⟩] w fun e w' => e = .returned (.bool true) ∧ Below w.heap.size w w' := isKey_any [98] w (by decide)
theorem isKey_m (w : World) : Calls Tryz.prog 22 #[.string ⟨#[109]⟩] w fun e w' => e = .returned (.bool true) ∧ Below w.heap.size w w' := isKey_any [109] w (by decide)

def aBox : Value := .agg #[.string ⟨#[98]⟩, .int .i64 1, .int .i64 1, .int .i64 0, .int .i64 0, .slice none 0 0, .bool false, .int .i64 0, .int .i64 0]
def aMess : Value := .agg #[.string ⟨#[109]⟩, .string ⟨#[]⟩, .int .i64 0, .int .i64 1, .int .i64 1, .int .i64 0]

set_option maxHeartbeats 1000000 in
theorem checkBox_one (w : World) :
    Calls Tryz.prog 132 #[aBox] w fun e w' => e = .returned (.int .i64 0) ∧ Below w.heap.size w w' := by
  unfold aBox
  go_enter Tryz.func132, Tryz.ntmps132
  go_wp2_with (go_at_call 62; refine (within_v _ _ _ _ (by omega) (by omega)).mono ?_; rintro e w' ⟨rfl, rfl⟩)
  refine wp_loop_rounds 1 ?_
  rw [rounds_succ]
  go_wp2_with (go_at_call 62; refine (within_v _ _ _ _ (by omega) (by omega)).mono ?_; rintro e w' ⟨rfl, rfl⟩)
  go_ret
  exact ⟨rfl, (by (try show Below _ _ _); repeat (with_reducible first | exact Below.refl _ _ | assumption | exact Hid.out (by assumption) | refine ext_alloc ?_ | refine ext_drewN ?_ | refine ext_drew ?_ | refine ext_setCell ?_ (Nat.le_refl _) | refine ext_setCell ?_ (Nat.le_succ _) | refine ext_trans ?_ (by assumption) | (refine ext_setCell ?_ (by simp)) | (refine ext_setCell ?_ (by simp at *; omega))))⟩

set_option maxHeartbeats 1000000 in
theorem checkBoxes_one (w : World) (b : Nat) (hb : b < w.heap.size) (h0 : w.cell? ⟨b, 0, none⟩ = some (.string ⟨#[98]⟩)) (h1 : w.cell? ⟨b, 1, none⟩ = some (.int .i64 1)) (h2 : w.cell? ⟨b, 2, none⟩ = some (.int .i64 1)) (h3 : w.cell? ⟨b, 3, none⟩ = some (.int .i64 0)) (h4 : w.cell? ⟨b, 4, none⟩ = some (.int .i64 0)) (h5 : w.cell? ⟨b, 5, none⟩ = some (.slice none 0 0)) (h6 : w.cell? ⟨b, 6, none⟩ = some (.bool false)) (h7 : w.cell? ⟨b, 7, none⟩ = some (.int .i64 0)) (h8 : w.cell? ⟨b, 8, none⟩ = some (.int .i64 0)) :
    Calls Tryz.prog 74 #[.slice (some ⟨b, 0, none⟩) 1 1] w fun e w' => e = .returned (.int .i64 0) ∧ Below w.heap.size w w' := by
  go_enter Tryz.func74, Tryz.ntmps74
  go_wp2_with fail
  refine wp_loop_rounds 2 ?_
  rw [rounds_succ]
  go_wp2_with fail
  refine (isKey_b _).mono ?_
  rintro e w1 ⟨rfl, hB1⟩
  obtain ⟨hc, hf⟩ := bcell hB1
  go_wp2_with fail
  go_quiet (fail)
  go_wp2_with fail
  refine (checkBox_one _).mono ?_
  rintro e w2 ⟨rfl, hB2⟩
  go_wp2_with fail
  rw [rounds_succ]
  go_wp2_with fail
  go_ret
  exact ⟨rfl, (by (try show Below _ _ _); repeat (with_reducible first | exact Below.refl _ _ | assumption | exact Hid.out (by assumption) | refine ext_alloc ?_ | refine ext_drewN ?_ | refine ext_drew ?_ | refine ext_setCell ?_ (Nat.le_refl _) | refine ext_setCell ?_ (Nat.le_succ _) | refine ext_trans ?_ (by assumption) | (refine ext_setCell ?_ (by simp)) | (refine ext_setCell ?_ (by simp at *; omega))))⟩

set_option maxHeartbeats 1000000 in
theorem ends_one (w : World) : Calls Tryz.prog 75 #[aBox, aMess] w fun e w' => e = .returned (.int .i64 86400000) ∧ Below w.heap.size w w' := by
  unfold aBox aMess
  go_enter Tryz.func75, Tryz.ntmps75
  go_wp2_with fail
  go_ret
  exact ⟨rfl, (by (try show Below _ _ _); repeat (with_reducible first | exact Below.refl _ _ | assumption | exact Hid.out (by assumption) | refine ext_alloc ?_ | refine ext_drewN ?_ | refine ext_drew ?_ | refine ext_setCell ?_ (Nat.le_refl _) | refine ext_setCell ?_ (Nat.le_succ _) | refine ext_trans ?_ (by assumption) | (refine ext_setCell ?_ (by simp)) | (refine ext_setCell ?_ (by simp at *; omega))))⟩

set_option maxHeartbeats 2000000 in
theorem ends_ready (w : World) : Calls Tryz.prog 29 #[aBox, aMess] w fun e w' => e = .returned (.tuple #[.int .i64 86400000, .int .i64 0]) ∧ Below w.heap.size w w' := by
  unfold aBox aMess
  go_enter Tryz.func29, Tryz.ntmps29
  go_wp2_with fail
  refine (checkBoxes_one _ _ ?_ ?_ ?_ ?_ ?_ ?_ ?_ ?_ ?_ ?_).mono ?_
  iterate 10 (focus (first | (simp; done) | (go_simp; done)))
  rintro e w1 ⟨rfl, hB1⟩
  obtain ⟨hc, hf⟩ := bcell hB1
  go_wp2_with fail
  refine (isKey_m _).mono ?_
  rintro e w2 ⟨rfl, hB2⟩
  obtain ⟨hc2, hf2⟩ := bcell hB2
  have hz0 : w.heap.size < w1.heap.size := by have := hB1.size; simp at this; omega
  have hz1 : w.heap.size + 1 < w1.heap.size := by have := hB1.size; simp at this; omega
  go_wp2_with (first | (go_at_call 26; refine (isMoment_any _ _).mono ?_; rintro e w' ⟨rfl, rfl⟩) | (go_at_call 62; refine (within_v _ _ _ _ (by omega) (by omega)).mono ?_; rintro e w' ⟨rfl, rfl⟩))
  refine (ends_one _).mono ?_
  rintro e w3 ⟨rfl, hB3⟩
  go_wp2_with fail
  go_ret2
  exact ⟨rfl, (by (try show Below _ _ _); repeat (with_reducible first | exact Below.refl _ _ | assumption | exact Hid.out (by assumption) | refine ext_alloc ?_ | refine ext_drewN ?_ | refine ext_drew ?_ | refine ext_setCell ?_ (Nat.le_refl _) | refine ext_setCell ?_ (Nat.le_succ _) | refine ext_trans ?_ (by assumption) | (refine ext_setCell ?_ (by simp)) | (refine ext_setCell ?_ (by simp at *; omega))))⟩
end Go.Proofs.YtamoclofloijpaaGreatDoor
