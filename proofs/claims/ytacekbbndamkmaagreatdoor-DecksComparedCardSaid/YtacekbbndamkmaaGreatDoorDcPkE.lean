/- What is proved here: lemmas and contracts for the statement, put together out of smaller texts (DkmDec, DkmWth, DkmDel, CarrClone, CarrRfw). No condition beyond those stated. -/
import Derived.Test.YtacekbbndamkmaaGreatDoorDcPkD
import Derived.Test.YtacekbbndamkmaaGreatDoorShelfDkm
import Derived.Test.YtacekbbndamkmaaGreatDoorDcPkC
import Derived.Lib.SliceRun
set_option linter.unusedVariables false
set_option linter.unusedSimpArgs false
namespace Go.Proofs.YtacekbbndamkmaaGreatDoor
open Go.RowKit
open Go.Maps

def decS (o : Option (List UInt8)) : List UInt8 := match o with
  | none => []
  | some s => 43 :: s
def DecPost (o : Option (List UInt8)) (w : World) (e : Ending) (w' : World) : Prop := e = .returned (.string ⟨(decS o).toArray⟩) ∧ Below w.heap.size w w'
def hitB (K : List (List UInt8)) (p s : List UInt8) : Bool := aliveB K p s && decide (4 ≤ s.length)
def kidB (K : List (List UInt8)) (p s : List UInt8) : List (List UInt8) := if aliveB K p s = true then kids s else []
def kidsTo (s : List UInt8) (n : Nat) : List (List UInt8) := (List.range n).filterMap fun j => if s = [] ∧ j = 0 then none else some (s ++ [dig j])
theorem kidsTo_succ (s : List UInt8) (n : Nat) : kidsTo s (n + 1) = kidsTo s n ++ (if s = [] ∧ n = 0 then [] else [s ++ [dig n]]) := by
  unfold kidsTo
  rw [List.range_succ, List.filterMap_append]
  congr 1
  simp only [List.filterMap_cons, List.filterMap_nil]
  by_cases h : s = [] ∧ n = 0
  · simp [h]
  · simp [h]
theorem kidsTo_len (s : List UInt8) (n : Nat) : (kidsTo s n).length ≤ n := by
  unfold kidsTo
  have := List.length_filterMap_le (fun j => if s = [] ∧ j = 0 then none else some (s ++ [dig j])) (List.range n)
  simpa using this
theorem kidB_len (K : List (List UInt8)) (p s : List UInt8) : (kidB K p s).length ≤ 10 := by
  unfold kidB
  split
  · exact kidsTo_len s 10
  · simp
theorem decR_miss (K : List (List UInt8)) (p : List UInt8) (r : Nat) (now : List (List UInt8)) (h : ∀ j, j < now.length → hitB K p (now.getD j []) = false) : decR K p (r + 1) now = decR K p r (now.flatMap (kidB K p)) := by
  show (match now.find? (fun s => aliveB K p s && decide (4 ≤ s.length)) with
    | some s => some s
    | none => decR K p r (now.flatMap fun s => if aliveB K p s = true then kids s else [])) = _
  have hf : now.find? (fun s => aliveB K p s && decide (4 ≤ s.length)) = none := by
    rw [List.find?_eq_none]
    intro s hs
    obtain ⟨j, hj, rfl⟩ := List.getElem_of_mem hs
    have := h j hj
    rw [List.getD_eq_getElem?_getD, List.getElem?_eq_getElem hj] at this
    unfold hitB at this
    simpa using this
  rw [hf]
  rfl
theorem decR_hit (K : List (List UInt8)) (p : List UInt8) (r : Nat) (now : List (List UInt8)) (i : Nat) (hi : i < now.length) (h : ∀ j, j < i → hitB K p (now.getD j []) = false) (hh : hitB K p (now.getD i []) = true) : decR K p (r + 1) now = some (now.getD i []) := by
  show (match now.find? (fun s => aliveB K p s && decide (4 ≤ s.length)) with
    | some s => some s
    | none => decR K p r (now.flatMap fun s => if aliveB K p s = true then kids s else [])) = _
  have hf : now.find? (fun s => aliveB K p s && decide (4 ≤ s.length)) = some (now.getD i []) := by
    rw [List.find?_eq_some_iff_getElem]
    refine ⟨hh, i, hi, by rw [List.getD_eq_getElem?_getD, List.getElem?_eq_getElem hi]; rfl, fun j hj => ?_⟩
    have := h j hj
    rw [List.getD_eq_getElem?_getD, List.getElem?_eq_getElem (by omega)] at this
    unfold hitB at this
    simp only [Option.getD_some] at this
    rw [this]
    rfl
  rw [hf]
theorem flat_step {β : Type} (f : List UInt8 → List β) (now : List (List UInt8)) (i : Nat) (hi : i < now.length) : (now.take (i + 1)).flatMap f = (now.take i).flatMap f ++ f (now.getD i []) := by
  rw [List.take_add_one, List.getElem?_eq_getElem hi, List.flatMap_append]
  simp [List.getD_eq_getElem?_getD, hi]
theorem kidB_mem {K : List (List UInt8)} {p : List UInt8} {now : List (List UInt8)} {m : Nat} (h : ∀ s ∈ now, s.length ≤ m) : ∀ s ∈ now.flatMap (kidB K p), s.length ≤ m + 1 := fun s hs => by
  obtain ⟨t, ht, hst⟩ := List.mem_flatMap.1 hs
  unfold kidB at hst
  split at hst
  · have := kids_len hst
    have := h t ht
    omega
  · cases hst
theorem dig_ten (k : Nat) (h : k < 10) : tenD.getD k 0 = dig k := by
  match k, h with
  | 0, _ | 1, _ | 2, _ | 3, _ | 4, _ | 5, _ | 6, _ | 7, _ | 8, _ | 9, _ => rfl
theorem enc_dig (k : Nat) (h : k < 10) : Utf8.encode (48 + (k : Int)) = ⟨#[dig k]⟩ := by
  have h1 := (ten_enc k h).1
  rw [dig_ten k h, dig_nat k h] at h1
  exact h1
theorem cat_front (x : List UInt8) : ((⟨#[43]⟩ : ByteArray) ++ ⟨x.toArray⟩) = ⟨(43 :: x).toArray⟩ := by
  have h : ∀ a b : ByteArray, a ++ b = ⟨a.data ++ b.data⟩ := fun a b => by
    apply ByteArray.ext
    exact ByteArray.data_append
  rw [h]
  simp
theorem pow_le5 {r m : Nat} (h : m ≤ 10 ^ r) (hr : r ≤ 5) : m ≤ 100000 := Nat.le_trans h (Nat.pow_le_pow_right (by decide) hr)
theorem bl_dde0 (e : Operand → Value) (he : ∀ v, e (.const v) = v) (o : Oper) (w : World) (i0 : Nat) (p0 : ByteArray) (ho : o.op = .buildSlice 38 1 #[(0, .tmp i0)]) (h0 : e (.tmp i0) = .string p0) :
   (execOp e o).run Tryz.prog w = .ok (.value (.slice (some ⟨w.heap.size, 0, none⟩) 1 1)) (w.alloc (.cells #[.string p0] 9)) := by
  unfold execOp
  rw [ho]
  simp only [List.map_toArray, List.map_cons, List.map_nil, h0]
  kernel_rfl
set_option maxRecDepth 100000 in
set_option maxHeartbeats 8000000 in
theorem decided_any (w : World) (base n : Nat) (v : Value) (K : List (List UInt8)) (hK : w.ownsRow base 9 1 v n (K.map encS)) (hn : n ≤ 1000) (p : List UInt8) (hp : p.length ≤ 100) : Calls Tryz.prog 54 #[.string ⟨p.toArray⟩, v] w (DecPost (decV K p) w) := by
  obtain ⟨i0, hi, hz0, hz1, hz2⟩ := info_parts Tryz.infoStr
  have HK := Lib.hid hK
  have HRV : Hid (decR K p 5 [p] = decV K p) := rfl
  generalize decV K p = R at HRV ⊢
  obtain ⟨ka, kc, rfl⟩ := own_shape hK
  clear hK
  go_enter Tryz.func54, Tryz.ntmps54
  have HNA0 : Hid (World.ownsRow (w.alloc (.cells #[.string ⟨p.toArray⟩] 9)) w.heap.size 9 1 (.slice (some ⟨w.heap.size, 0, none⟩) 1 1) 1 ([p].map encS)) := own_lit1 w p w.heap.size (Nat.le_refl _)
  have HBA0 : Hid (Below w.heap.size w (w.alloc (.cells #[.string ⟨p.toArray⟩] 9))) := ext_alloc (Below.refl _ _)
  as_aux_lemma =>
    go_wp2_with (first | (refine wpList_val rfl (bl_dde0 _ (fun _ => rfl) _ _ 11 ⟨p.toArray⟩ rfl rfl) ?_))
    go_loopw [5, 13] (fun vo it wr => ∃ (r : Nat) (now : List (List UInt8)), r ≤ 5 ∧ it = .int .i64 r ∧ Hid (decR K p (5 - r) now = R) ∧ Hid (now.length ≤ 10 ^ r) ∧ Hid (∀ s ∈ now, s.length ≤ 100 + r) ∧ Hid (wr.ownsRow w.heap.size 9 1 vo now.length (now.map encS)) ∧ Hid (Below w.heap.size w wr)) (fun _ it _ => 5 - (intOf it).toNat)
    case atStart => exact ⟨0, [p], by omega, rfl, HRV.out, Nat.le_refl _, fun s hs => by rw [List.mem_singleton.1 hs]; omega, HNA0.out, HBA0.out⟩
    case round =>
      clear HNA0 HBA0 HRV
      obtain ⟨r, now, hr, rfl, HRN, HNL0, HSL, HO, HB⟩ := hrel
      obtain ⟨vo, rfl⟩ : ∃ x : Value, x = u5 := ⟨_, rfl⟩
      by_cases hlt : r < 5
      case neg =>
        obtain rfl : r = 5 := by omega
        have HE : Hid (R = none) := by
          show _ = _
          rw [← HRN.out]; rfl
        clear HRN HNL0 HSL HO
        as_aux_lemma =>
          go_wp2_with fail
          go_ret
          exact ⟨by rw [HE.out]; rfl, HB.out⟩
      have hrn : now.length ≤ 10000 := Nat.le_trans HNL0.out (Nat.pow_le_pow_right (by decide) (show r ≤ 4 by omega))
      obtain ⟨w1, rfl⟩ : ∃ x : World, x = wr := ⟨_, rfl⟩
      obtain ⟨na, nc, rfl⟩ := own_shape HO.out
      have HRN2 : Hid (decR K p (4 - r + 1) now = R) := by
        show _ = _
        rw [show 4 - r + 1 = 5 - r by omega]; exact HRN.out
      have hri : (r : Int) < 5 := by omega
      clear HRN
      as_aux_lemma =>
        go_wp2_with fail
        go_loopw [6, 17] (fun vn it wr => ∃ (i : Nat) (nx : List (List UInt8)), i ≤ now.length ∧ it = .int .i64 i ∧ Hid (nx = (now.take i).flatMap (kidB K p)) ∧ Hid (∀ j, j < i → hitB K p (now.getD j []) = false) ∧ Hid (wr.ownsRow w1.heap.size 9 1 vn nx.length (nx.map encS)) ∧ Hid (Below w1.heap.size w1 wr)) (fun _ it _ => now.length - (intOf it).toNat)
        case atStart => exact ⟨0, [], Nat.zero_le _, rfl, rfl, fun j hj => absurd hj (Nat.not_lt_zero j), World.ownsRow_nil _ _ _ _, Below.refl _ _⟩
        case round =>
          obtain ⟨i, nx, hin, rfl, HX, HMS0, HO2, HB2⟩ := hrel
          obtain ⟨vn, rfl⟩ : ∃ x : Value, x = u6 := ⟨_, rfl⟩
          by_cases hli0 : i < now.length
          case neg =>
            obtain rfl : i = now.length := by omega
            have HR3 : Hid (decR K p (5 - (r + 1)) nx = R) := by
              show _ = _
              rw [HX.out, List.take_length, show 5 - (r + 1) = 4 - r by omega, ← decR_miss K p (4 - r) now HMS0.out]
              exact HRN2.out
            have HL3 : Hid (nx.length ≤ 10 ^ (r + 1)) := by
              show _ ≤ _
              rw [HX.out, List.take_length, Nat.pow_succ]
              have := flat_len (kidB K p) 10 (kidB_len K p) now
              have := HNL0.out
              omega
            have HS3 : Hid (∀ s ∈ nx, s.length ≤ 100 + (r + 1)) := by
              show ∀ s ∈ nx, _
              rw [HX.out, List.take_length]
              exact kidB_mem HSL.out
            have HO3 := Lib.hid (own_le HO2.out HB.out.size)
            have HB3 : Hid (Below w.heap.size w wr) := ext_trans HB.out HB2.out
            have hn9 : ¬ ((now.length : Int) < (now.length : Int)) := by omega
            clear HX HMS0 HO2 HB2 HRN2 HSL HNL0 HO HB
            as_aux_lemma =>
              go_wp2_with fail
              go_roundw
              case rel => exact ⟨r + 1, nx, by omega, by go_num, HR3.out, HL3.out, HS3.out, HO3.out, HB3.out⟩
              case measure => simp [intOf]; omega
          have hii : (i : Int) < (now.length : Int) := by omega
          obtain ⟨w2, rfl⟩ : ∃ x : World, x = wr := ⟨_, rfl⟩
          have HON := Lib.hid (own_keep HO.out HB2.out)
          obtain ⟨g, rfl, hg0, hg1⟩ := own_pos HON.out (by omega)
          have c0 : w2.cell? ⟨g, i, none⟩ = some (.string ⟨(now.getD i []).toArray⟩) := by
            have h9 := HON.out.cellAt i (by omega)
            rw [h9]
            simp [encS, List.getD_eq_getElem?_getD, hli0]
          have HNL : Hid (nx.length ≤ 100000) := by
            show _ ≤ _
            rw [HX.out]
            have h8 := flat_len (kidB K p) 10 (kidB_len K p) (now.take i)
            have h9 := List.length_take_le i now
            omega
          have hsl : (now.getD i []).length ≤ 105 := by
            have h9 := HSL.out (now.getD i []) (by rw [List.getD_eq_getElem?_getD, List.getElem?_eq_getElem hli0]; exact List.getElem_mem hli0)
            omega
          have HHIT : Hid (hitB K p (now.getD i []) = true → decR K p (4 - r + 1) now = some (now.getD i [])) := decR_hit K p (4 - r) now i hli0 HMS0.out
          have HMS : Hid (hitB K p (now.getD i []) = false → ∀ j, j < i + 1 → hitB K p (now.getD j []) = false) := fun h j hj => by
            rcases Nat.lt_succ_iff_lt_or_eq.1 hj with h9 | rfl
            · exact HMS0.out j h9
            · exact h
          have HFS : Hid ((now.take (i + 1)).flatMap (kidB K p) = nx ++ kidB K p (now.getD i [])) := by
            show _ = _
            rw [HX.out]
            exact flat_step _ now i hli0
          have HRR := Lib.hid HRN2.out
          have HKW : Hid (w2.ownsRow base 9 1 (.slice ka n kc) n (K.map encS)) := own_keep (own_keep HK.out HB.out) HB2.out
          generalize now.getD i [] = s at c0 hsl HHIT HMS HFS
          clear HMS0 HX HON
          by_cases hsp : s = p
          · have HAL : Hid (aliveB K p s = true) := by show _ = _; unfold aliveB; rw [decide_eq_true (Or.inl hsp)]
            clear HKW
            subst hsp
            by_cases hl : 4 ≤ s.length
            · have hli : (4 : Int) ≤ (s.length : Int) := by omega
              have HR9 : Hid (R = some s) := by
                show _ = _
                rw [← HRR.out]
                exact HHIT.out (by unfold hitB; rw [HAL.out, decide_eq_true hl]; rfl)
              have HCF := Lib.hid (cat_front s)
              have HBE : Hid (Below w.heap.size w w2) := ext_trans HB.out HB2.out
              clear hl HAL HHIT HRR HB2 HO2
              as_aux_lemma =>
                go_wp2_with fail
                go_ret
                exact ⟨by rw [HR9.out, HCF.out]; rfl, HBE.out⟩
            have hli : ¬ (4 : Int) ≤ (s.length : Int) := by omega
            have HMI : Hid (∀ j, j < i + 1 → hitB K s (now.getD j []) = false) := HMS.out (by unfold hitB; rw [decide_eq_false hl, Bool.and_false])
            have HSTEP : Hid ((now.take (i + 1)).flatMap (kidB K s) = nx ++ kids s) := by
              show _ = _
              rw [HFS.out]
              unfold kidB
              rw [if_pos HAL.out]
            clear hl HAL HHIT HMS HFS
            cases s with
            | nil =>
              have HIT : Hid ((w2.iter tenB 0).heap[w2.heap.size]? = some (.stringIter tenB 0)) := World.iter_heap _ _ _
              have HO0 := Lib.hid (HO2.out.alloc (.stringIter tenB 0))
              have HB0 : Hid (Below w1.heap.size w1 (w2.iter tenB 0)) := HB2.out.alloc HB2.out.size _
              have HZO := Lib.hid HB2.out.size
              clear HB2
              as_aux_lemma =>
                go_wp2_with fail
                go_loopw [6] (fun v wr => ∃ (pos : Nat) (zs : List (List UInt8)), pos ≤ 10 ∧ Hid (wr.heap[w2.heap.size]? = some (.stringIter tenB pos)) ∧ Hid (zs = nx ++ kidsTo [] pos) ∧ Hid (wr.ownsRow w1.heap.size 9 1 v zs.length (zs.map encS)) ∧ Hid (Below w1.heap.size w1 wr)) (fun _ wr => 10 - wr.iterPos w2.heap.size)
                case atStart => exact ⟨0, nx, by omega, HIT.out, by show _ = _; simp [kidsTo], HO0.out, HB0.out⟩
                case round =>
                  clear HIT HO0 HB0
                  obtain ⟨pos, zs, hpos, HI, HZ, HOZ, HBW⟩ := hrel
                  have hzl : zs.length ≤ 100100 := by
                    have h1 := kidsTo_len [] pos
                    have h3 := HNL.out
                    rw [HZ.out, List.length_append]
                    omega
                  by_cases hp : pos < 10
                  case neg =>
                    obtain rfl : pos = 10 := by omega
                    have hsz : ¬ 10 < tenB.size := by decide
                    have hnx : ∀ ty, (Instr.next (.pointer (some ⟨w2.heap.size, 0, none⟩)) true ty).run Tryz.prog wr = .ok (.tuple #[.bool false]) wr := fun ty => Lib.run_next_end_at (P := Tryz.prog) wr w2.heap.size tenB 10 ty HI.out hsz
                    have HN : Hid (zs = (now.take (i + 1)).flatMap (kidB K [])) := by
                      show _ = _
                      rw [HZ.out, HSTEP.out]
                      rfl
                    clear HZ HSTEP
                    as_aux_lemma =>
                      go_wp2_with fail
                      go_roundw
                      case rel => exact ⟨i + 1, zs, by omega, by go_num, HN.out, HMI.out, HOZ.out, HBW.out⟩
                      case measure => first | (simp [intOf]; done) | (simp [intOf]; omega)
                  have hsz : pos < tenB.size := hp
                  obtain ⟨henc, has⟩ := ten_enc pos hp
                  have hnx : ∀ ty, (Instr.next (.pointer (some ⟨w2.heap.size, 0, none⟩)) true ty).run Tryz.prog wr = .ok (.tuple #[.bool true, .int .i64 pos, .int .i32 (48 + (pos : Int))]) (wr.iterAt w2.heap.size tenB (pos + 1)) := fun ty => by
                    have h := Lib.run_next_ascii_at (P := Tryz.prog) wr w2.heap.size tenB pos ty HI.out hsz (by rw [tenB_at pos hsz]; exact has)
                    rw [tenB_at pos hsz, dig_ten pos hp, dig_nat pos hp] at h
                    exact h
                  clear henc has
                  have HI1 := Lib.hid (Lib.iterAt_heap wr w2.heap.size tenB pos (pos + 1) HI.out)
                  have HO1 := Lib.hid (own_it HOZ.out HI.out (pos + 1))
                  have HB1 := Lib.hid (Lib.below_iterAt HBW.out (k := w2.heap.size) HZO.out tenB (pos + 1))
                  have henc := enc_dig pos hp
                  obtain ⟨W1, hW1⟩ : ∃ W1, W1 = wr.iterAt w2.heap.size tenB (pos + 1) := ⟨_, rfl⟩
                  rw [← hW1] at hnx HI1 HO1 HB1
                  clear hW1 hsz
                  clear HOZ HBW
                  obtain ⟨q, hq⟩ : ∃ q : Int, q = 48 + (pos : Int) := ⟨_, rfl⟩
                  rw [← hq] at hnx henc
                  have hq1 : 48 ≤ q := by omega
                  have hq2 : q ≤ 57 := by omega
                  have HQ := Lib.hid hq
                  clear hq
                  by_cases hp0 : pos = 0
                  · have hq48 : q = 48 := by have := HQ.out; omega
                    clear henc HQ
                    subst hq48 hp0
                    have HN : Hid (zs = nx ++ kidsTo [] (0 + 1)) := by
                      show _ = _
                      rw [HZ.out, kidsTo_succ]
                      simp [kidsTo]
                    clear HZ
                    as_aux_lemma =>
                      go_wp2_with fail
                      go_roundw
                      case rel => exact ⟨1, zs, by omega, HI1.out, HN.out, HO1.out, HB1.out⟩
                      case measure => rw [iterPos_of HI1.out, iterPos_of HI.out]; omega
                  have h0 : ¬ (([] : List UInt8) = [] ∧ pos = 0) := fun h => hp0 h.2
                  have hpn : ¬ q = 48 := by have := HQ.out; omega
                  clear hp0
                  have HNX : Hid (nx ++ kidsTo [] (pos + 1) = zs ++ [[] ++ [dig pos]]) := by
                    show _ = _
                    rw [kidsTo_succ, ← List.append_assoc, ← HZ.out, if_neg (fun h => h0 h)]
                  have HCA : Hid (((⟨#[]⟩ : ByteArray) ++ (⟨#[dig pos]⟩ : ByteArray)) = ⟨([] ++ [dig pos] : List UInt8).toArray⟩) := cat_one [] (dig pos)
                  have hoz := HO1.out
                  obtain ⟨oa, oc, rfl⟩ := own_shape hoz
                  have hrow : w1.heap.size ≤ W1.heap.size := HB1.out.size
                  have HOA : Hid (World.ownsRow (W1.alloc (.cells #[.string ((⟨#[]⟩ : ByteArray) ++ (⟨#[dig pos]⟩ : ByteArray))] 9)) w1.heap.size 9 1 (.slice oa zs.length oc) zs.length (zs.map encS)) := World.ownsRow.alloc hoz (.cells #[.string ((⟨#[]⟩ : ByteArray) ++ (⟨#[dig pos]⟩ : ByteArray))] 9)
                  have HNA : Hid (Blk (W1.alloc (.cells #[.string ((⟨#[]⟩ : ByteArray) ++ (⟨#[dig pos]⟩ : ByteArray))] 9)) W1.heap.size [.string ((⟨#[]⟩ : ByteArray) ++ (⟨#[dig pos]⟩ : ByteArray))] 9) := Blk.new W1 [.string ((⟨#[]⟩ : ByteArray) ++ (⟨#[dig pos]⟩ : ByteArray))] 9
                  have hvw : ∀ b, (Value.slice oa zs.length oc).ownBlock = some b → w1.heap.size ≤ b := fun b e => (hoz.lt b e).1
                  clear hoz HZ h0
                  as_aux_lemma =>
                    go_wp2_with (first | (refine wpList_val rfl (bl_dde0 _ (fun _ => rfl) _ _ 48 (((⟨#[]⟩ : ByteArray) ++ (⟨#[dig pos]⟩ : ByteArray))) rfl rfl) ?_) | (at_builtin; go_loud (refine wpList_append_own_at _ rfl (.tmp 44) (.tmp 49) 38 rfl w1.heap.size 9 i0 _ 1 16 Tryz.underlying38 hi hz0 hz1 hz2 rfl (by omega) (.slice oa zs.length oc) zs.length _ rfl HOA.out ⟨W1.heap.size, 0, none⟩ 1 1 [.string ((⟨#[]⟩ : ByteArray) ++ (⟨#[dig pos]⟩ : ByteArray))] rfl rfl (fun j u hj => by rw [add0]; exact HNA.out.cell j hj) (by simp [Value.oneCell']) (by simp only [maxLen]; omega) (by omega) (by simp; omega) ?_); intro v12 w12 hown12 hgr12 _ hat12; have HQ1 := Lib.hid hown12; have HQ2 := Lib.hid hgr12; clear hown12 hgr12 hat12 HOA HNA; refine Hid.out ?_))
                    refine Lib.hid ?_
                    have HI6 := Lib.hid (it_kept HO1.out HI1.out HQ2.out)
                    have HO6 : Hid (w12.ownsRow w1.heap.size 9 1 v12 (zs ++ [[] ++ [dig pos]]).length ((zs ++ [[] ++ [dig pos]]).map encS)) := by
                      show World.ownsRow _ _ _ _ _ _ _
                      have h9 := HQ1.out
                      rw [HCA.out] at h9
                      rw [List.map_append, List.length_append]
                      exact h9
                    have HB6 : Hid (Below w1.heap.size w1 w12) := HB1.out.trans (upto_grown HQ2.out hrow hvw)
                    clear HQ1 HQ2 HO1 HB1 HCA
                    as_aux_lemma =>
                      go_wp2_with fail
                      go_roundw
                      case rel => exact ⟨pos + 1, zs ++ [[] ++ [dig pos]], by omega, HI6.out, HNX.out.symm, HO6.out, HB6.out⟩
                      case measure => rw [iterPos_of HI6.out, iterPos_of HI.out]; omega
            | cons z1 s1 =>
              have hl9 : ¬ (4 : Int) ≤ (s1.length : Int) + 1 := by
                have h9 := hli
                rw [List.length_cons] at h9
                omega
              clear hli
              have HIT : Hid ((w2.iter tenB 0).heap[w2.heap.size]? = some (.stringIter tenB 0)) := World.iter_heap _ _ _
              have HO0 := Lib.hid (HO2.out.alloc (.stringIter tenB 0))
              have HB0 : Hid (Below w1.heap.size w1 (w2.iter tenB 0)) := HB2.out.alloc HB2.out.size _
              have HZO := Lib.hid HB2.out.size
              clear HB2
              as_aux_lemma =>
                go_wp2_with fail
                go_loopw [6] (fun v wr => ∃ (pos : Nat) (zs : List (List UInt8)), pos ≤ 10 ∧ Hid (wr.heap[w2.heap.size]? = some (.stringIter tenB pos)) ∧ Hid (zs = nx ++ kidsTo (z1 :: s1) pos) ∧ Hid (wr.ownsRow w1.heap.size 9 1 v zs.length (zs.map encS)) ∧ Hid (Below w1.heap.size w1 wr)) (fun _ wr => 10 - wr.iterPos w2.heap.size)
                case atStart => exact ⟨0, nx, by omega, HIT.out, by show _ = _; simp [kidsTo], HO0.out, HB0.out⟩
                case round =>
                  clear HIT HO0 HB0
                  obtain ⟨pos, zs, hpos, HI, HZ, HOZ, HBW⟩ := hrel
                  have hzl : zs.length ≤ 100100 := by
                    have h1 := kidsTo_len (z1 :: s1) pos
                    have h3 := HNL.out
                    rw [HZ.out, List.length_append]
                    omega
                  by_cases hp : pos < 10
                  case neg =>
                    obtain rfl : pos = 10 := by omega
                    have hsz : ¬ 10 < tenB.size := by decide
                    have hnx : ∀ ty, (Instr.next (.pointer (some ⟨w2.heap.size, 0, none⟩)) true ty).run Tryz.prog wr = .ok (.tuple #[.bool false]) wr := fun ty => Lib.run_next_end_at (P := Tryz.prog) wr w2.heap.size tenB 10 ty HI.out hsz
                    have HN : Hid (zs = (now.take (i + 1)).flatMap (kidB K (z1 :: s1))) := by
                      show _ = _
                      rw [HZ.out, HSTEP.out]
                      rfl
                    clear HZ HSTEP
                    as_aux_lemma =>
                      go_wp2_with fail
                      go_roundw
                      case rel => exact ⟨i + 1, zs, by omega, by go_num, HN.out, HMI.out, HOZ.out, HBW.out⟩
                      case measure => first | (simp [intOf]; done) | (simp [intOf]; omega)
                  have hsz : pos < tenB.size := hp
                  obtain ⟨henc, has⟩ := ten_enc pos hp
                  have hnx : ∀ ty, (Instr.next (.pointer (some ⟨w2.heap.size, 0, none⟩)) true ty).run Tryz.prog wr = .ok (.tuple #[.bool true, .int .i64 pos, .int .i32 (48 + (pos : Int))]) (wr.iterAt w2.heap.size tenB (pos + 1)) := fun ty => by
                    have h := Lib.run_next_ascii_at (P := Tryz.prog) wr w2.heap.size tenB pos ty HI.out hsz (by rw [tenB_at pos hsz]; exact has)
                    rw [tenB_at pos hsz, dig_ten pos hp, dig_nat pos hp] at h
                    exact h
                  clear henc has
                  have HI1 := Lib.hid (Lib.iterAt_heap wr w2.heap.size tenB pos (pos + 1) HI.out)
                  have HO1 := Lib.hid (own_it HOZ.out HI.out (pos + 1))
                  have HB1 := Lib.hid (Lib.below_iterAt HBW.out (k := w2.heap.size) HZO.out tenB (pos + 1))
                  have henc := enc_dig pos hp
                  obtain ⟨W1, hW1⟩ : ∃ W1, W1 = wr.iterAt w2.heap.size tenB (pos + 1) := ⟨_, rfl⟩
                  rw [← hW1] at hnx HI1 HO1 HB1
                  clear hW1 hsz
                  clear HOZ HBW
                  obtain ⟨q, hq⟩ : ∃ q : Int, q = 48 + (pos : Int) := ⟨_, rfl⟩
                  rw [← hq] at hnx henc
                  have hq1 : 48 ≤ q := by omega
                  have hq2 : q ≤ 57 := by omega
                  have HQ := Lib.hid hq
                  clear hq
                  have h0 : ¬ ((z1 :: s1) = [] ∧ pos = 0) := fun h => by cases h.1
                  have HNX : Hid (nx ++ kidsTo (z1 :: s1) (pos + 1) = zs ++ [(z1 :: s1) ++ [dig pos]]) := by
                    show _ = _
                    rw [kidsTo_succ, ← List.append_assoc, ← HZ.out, if_neg (fun h => h0 h)]
                  have HCA : Hid (((⟨(z1 :: s1).toArray⟩ : ByteArray) ++ (⟨#[dig pos]⟩ : ByteArray)) = ⟨((z1 :: s1) ++ [dig pos] : List UInt8).toArray⟩) := cat_one (z1 :: s1) (dig pos)
                  have hoz := HO1.out
                  obtain ⟨oa, oc, rfl⟩ := own_shape hoz
                  have hrow : w1.heap.size ≤ W1.heap.size := HB1.out.size
                  have HOA : Hid (World.ownsRow (W1.alloc (.cells #[.string ((⟨(z1 :: s1).toArray⟩ : ByteArray) ++ (⟨#[dig pos]⟩ : ByteArray))] 9)) w1.heap.size 9 1 (.slice oa zs.length oc) zs.length (zs.map encS)) := World.ownsRow.alloc hoz (.cells #[.string ((⟨(z1 :: s1).toArray⟩ : ByteArray) ++ (⟨#[dig pos]⟩ : ByteArray))] 9)
                  have HNA : Hid (Blk (W1.alloc (.cells #[.string ((⟨(z1 :: s1).toArray⟩ : ByteArray) ++ (⟨#[dig pos]⟩ : ByteArray))] 9)) W1.heap.size [.string ((⟨(z1 :: s1).toArray⟩ : ByteArray) ++ (⟨#[dig pos]⟩ : ByteArray))] 9) := Blk.new W1 [.string ((⟨(z1 :: s1).toArray⟩ : ByteArray) ++ (⟨#[dig pos]⟩ : ByteArray))] 9
                  have hvw : ∀ b, (Value.slice oa zs.length oc).ownBlock = some b → w1.heap.size ≤ b := fun b e => (hoz.lt b e).1
                  clear hoz HZ h0
                  as_aux_lemma =>
                    go_wp2_with (first | (refine wpList_val rfl (bl_dde0 _ (fun _ => rfl) _ _ 48 (((⟨(z1 :: s1).toArray⟩ : ByteArray) ++ (⟨#[dig pos]⟩ : ByteArray))) rfl rfl) ?_) | (at_builtin; go_loud (refine wpList_append_own_at _ rfl (.tmp 44) (.tmp 49) 38 rfl w1.heap.size 9 i0 _ 1 16 Tryz.underlying38 hi hz0 hz1 hz2 rfl (by omega) (.slice oa zs.length oc) zs.length _ rfl HOA.out ⟨W1.heap.size, 0, none⟩ 1 1 [.string ((⟨(z1 :: s1).toArray⟩ : ByteArray) ++ (⟨#[dig pos]⟩ : ByteArray))] rfl rfl (fun j u hj => by rw [add0]; exact HNA.out.cell j hj) (by simp [Value.oneCell']) (by simp only [maxLen]; omega) (by omega) (by simp; omega) ?_); intro v12 w12 hown12 hgr12 _ hat12; have HQ1 := Lib.hid hown12; have HQ2 := Lib.hid hgr12; clear hown12 hgr12 hat12 HOA HNA; refine Hid.out ?_))
                    refine Lib.hid ?_
                    have HI6 := Lib.hid (it_kept HO1.out HI1.out HQ2.out)
                    have HO6 : Hid (w12.ownsRow w1.heap.size 9 1 v12 (zs ++ [(z1 :: s1) ++ [dig pos]]).length ((zs ++ [(z1 :: s1) ++ [dig pos]]).map encS)) := by
                      show World.ownsRow _ _ _ _ _ _ _
                      have h9 := HQ1.out
                      rw [HCA.out] at h9
                      rw [List.map_append, List.length_append]
                      exact h9
                    have HB6 : Hid (Below w1.heap.size w1 w12) := HB1.out.trans (upto_grown HQ2.out hrow hvw)
                    clear HQ1 HQ2 HO1 HB1 HCA
                    as_aux_lemma =>
                      go_wp2_with fail
                      go_roundw
                      case rel => exact ⟨pos + 1, zs ++ [(z1 :: s1) ++ [dig pos]], by omega, HI6.out, HNX.out.symm, HO6.out, HB6.out⟩
                      case measure => rw [iterPos_of HI6.out, iterPos_of HI.out]; omega
          have hsb : ¬ (⟨s.toArray⟩ : ByteArray) = ⟨p.toArray⟩ := fun e => hsp (mk_inj.1 e)
          have hsc : (s == p) = false := beq_eq_false_iff_ne.2 hsp
          have HCN := Lib.hid (contains_own HKW.out hn s)
          clear HKW
          by_cases hin2 : s ∈ K
          · have hkd : decide (s ∈ K) = true := decide_eq_true hin2
            have HAL : Hid (aliveB K p s = false) := by show _ = _; unfold aliveB; exact decide_eq_false (fun h => h.elim hsp (fun h => h hin2))
            have HMI : Hid (∀ j, j < i + 1 → hitB K p (now.getD j []) = false) := HMS.out (by unfold hitB; rw [HAL.out, Bool.false_and])
            have HSTEP : Hid (nx = (now.take (i + 1)).flatMap (kidB K p)) := by
              show _ = _
              rw [HFS.out]
              unfold kidB
              rw [if_neg (by rw [HAL.out]; decide), List.append_nil]
            clear HAL HMS HFS HHIT HRR hin2
            as_aux_lemma =>
              go_wp2_with fail
              refine HCN.out.mono ?_
              rintro e w5 ⟨rfl, hw5⟩
              replace hw5 := hw5.symm
              subst hw5
              rw [hkd]
              clear hkd HCN
              as_aux_lemma =>
                go_wp2_with fail
                go_roundw
                case rel => exact ⟨i + 1, nx, by omega, by go_num, HSTEP.out, HMI.out, HO2.out, HB2.out⟩
                case measure => simp [intOf]; omega
          have hkd : decide (s ∈ K) = false := decide_eq_false hin2
          have HAL : Hid (aliveB K p s = true) := by show _ = _; unfold aliveB; exact decide_eq_true (Or.inr hin2)
          clear hin2
          as_aux_lemma =>
            go_wp2_with fail
            refine HCN.out.mono ?_
            rintro e w5 ⟨rfl, hw5⟩
            replace hw5 := hw5.symm
            subst hw5
            rw [hkd]
            clear hkd HCN
            by_cases hl : 4 ≤ s.length
            · have hli : (4 : Int) ≤ (s.length : Int) := by omega
              have HR9 : Hid (R = some s) := by
                show _ = _
                rw [← HRR.out]
                exact HHIT.out (by unfold hitB; rw [HAL.out, decide_eq_true hl]; rfl)
              have HCF := Lib.hid (cat_front s)
              have HBE : Hid (Below w.heap.size w w2) := ext_trans HB.out HB2.out
              clear hl HAL HHIT HRR HB2 HO2
              as_aux_lemma =>
                go_wp2_with fail
                go_ret
                exact ⟨by rw [HR9.out, HCF.out]; rfl, HBE.out⟩
            have hli : ¬ (4 : Int) ≤ (s.length : Int) := by omega
            have HMI : Hid (∀ j, j < i + 1 → hitB K p (now.getD j []) = false) := HMS.out (by unfold hitB; rw [decide_eq_false hl, Bool.and_false])
            have HSTEP : Hid ((now.take (i + 1)).flatMap (kidB K p) = nx ++ kids s) := by
              show _ = _
              rw [HFS.out]
              unfold kidB
              rw [if_pos HAL.out]
            clear hl HAL HHIT HMS HFS
            cases s with
            | nil =>
              have HIT : Hid ((w2.iter tenB 0).heap[w2.heap.size]? = some (.stringIter tenB 0)) := World.iter_heap _ _ _
              have HO0 := Lib.hid (HO2.out.alloc (.stringIter tenB 0))
              have HB0 : Hid (Below w1.heap.size w1 (w2.iter tenB 0)) := HB2.out.alloc HB2.out.size _
              have HZO := Lib.hid HB2.out.size
              clear HB2
              as_aux_lemma =>
                go_wp2_with fail
                go_loopw [6] (fun v wr => ∃ (pos : Nat) (zs : List (List UInt8)), pos ≤ 10 ∧ Hid (wr.heap[w2.heap.size]? = some (.stringIter tenB pos)) ∧ Hid (zs = nx ++ kidsTo [] pos) ∧ Hid (wr.ownsRow w1.heap.size 9 1 v zs.length (zs.map encS)) ∧ Hid (Below w1.heap.size w1 wr)) (fun _ wr => 10 - wr.iterPos w2.heap.size)
                case atStart => exact ⟨0, nx, by omega, HIT.out, by show _ = _; simp [kidsTo], HO0.out, HB0.out⟩
                case round =>
                  clear HIT HO0 HB0
                  obtain ⟨pos, zs, hpos, HI, HZ, HOZ, HBW⟩ := hrel
                  have hzl : zs.length ≤ 100100 := by
                    have h1 := kidsTo_len [] pos
                    have h3 := HNL.out
                    rw [HZ.out, List.length_append]
                    omega
                  by_cases hp : pos < 10
                  case neg =>
                    obtain rfl : pos = 10 := by omega
                    have hsz : ¬ 10 < tenB.size := by decide
                    have hnx : ∀ ty, (Instr.next (.pointer (some ⟨w2.heap.size, 0, none⟩)) true ty).run Tryz.prog wr = .ok (.tuple #[.bool false]) wr := fun ty => Lib.run_next_end_at (P := Tryz.prog) wr w2.heap.size tenB 10 ty HI.out hsz
                    have HN : Hid (zs = (now.take (i + 1)).flatMap (kidB K p)) := by
                      show _ = _
                      rw [HZ.out, HSTEP.out]
                      rfl
                    clear HZ HSTEP
                    as_aux_lemma =>
                      go_wp2_with fail
                      go_roundw
                      case rel => exact ⟨i + 1, zs, by omega, by go_num, HN.out, HMI.out, HOZ.out, HBW.out⟩
                      case measure => first | (simp [intOf]; done) | (simp [intOf]; omega)
                  have hsz : pos < tenB.size := hp
                  obtain ⟨henc, has⟩ := ten_enc pos hp
                  have hnx : ∀ ty, (Instr.next (.pointer (some ⟨w2.heap.size, 0, none⟩)) true ty).run Tryz.prog wr = .ok (.tuple #[.bool true, .int .i64 pos, .int .i32 (48 + (pos : Int))]) (wr.iterAt w2.heap.size tenB (pos + 1)) := fun ty => by
                    have h := Lib.run_next_ascii_at (P := Tryz.prog) wr w2.heap.size tenB pos ty HI.out hsz (by rw [tenB_at pos hsz]; exact has)
                    rw [tenB_at pos hsz, dig_ten pos hp, dig_nat pos hp] at h
                    exact h
                  clear henc has
                  have HI1 := Lib.hid (Lib.iterAt_heap wr w2.heap.size tenB pos (pos + 1) HI.out)
                  have HO1 := Lib.hid (own_it HOZ.out HI.out (pos + 1))
                  have HB1 := Lib.hid (Lib.below_iterAt HBW.out (k := w2.heap.size) HZO.out tenB (pos + 1))
                  have henc := enc_dig pos hp
                  obtain ⟨W1, hW1⟩ : ∃ W1, W1 = wr.iterAt w2.heap.size tenB (pos + 1) := ⟨_, rfl⟩
                  rw [← hW1] at hnx HI1 HO1 HB1
                  clear hW1 hsz
                  clear HOZ HBW
                  obtain ⟨q, hq⟩ : ∃ q : Int, q = 48 + (pos : Int) := ⟨_, rfl⟩
                  rw [← hq] at hnx henc
                  have hq1 : 48 ≤ q := by omega
                  have hq2 : q ≤ 57 := by omega
                  have HQ := Lib.hid hq
                  clear hq
                  by_cases hp0 : pos = 0
                  · have hq48 : q = 48 := by have := HQ.out; omega
                    clear henc HQ
                    subst hq48 hp0
                    have HN : Hid (zs = nx ++ kidsTo [] (0 + 1)) := by
                      show _ = _
                      rw [HZ.out, kidsTo_succ]
                      simp [kidsTo]
                    clear HZ
                    as_aux_lemma =>
                      go_wp2_with fail
                      go_roundw
                      case rel => exact ⟨1, zs, by omega, HI1.out, HN.out, HO1.out, HB1.out⟩
                      case measure => rw [iterPos_of HI1.out, iterPos_of HI.out]; omega
                  have h0 : ¬ (([] : List UInt8) = [] ∧ pos = 0) := fun h => hp0 h.2
                  have hpn : ¬ q = 48 := by have := HQ.out; omega
                  clear hp0
                  have HNX : Hid (nx ++ kidsTo [] (pos + 1) = zs ++ [[] ++ [dig pos]]) := by
                    show _ = _
                    rw [kidsTo_succ, ← List.append_assoc, ← HZ.out, if_neg (fun h => h0 h)]
                  have HCA : Hid (((⟨#[]⟩ : ByteArray) ++ (⟨#[dig pos]⟩ : ByteArray)) = ⟨([] ++ [dig pos] : List UInt8).toArray⟩) := cat_one [] (dig pos)
                  have hoz := HO1.out
                  obtain ⟨oa, oc, rfl⟩ := own_shape hoz
                  have hrow : w1.heap.size ≤ W1.heap.size := HB1.out.size
                  have HOA : Hid (World.ownsRow (W1.alloc (.cells #[.string ((⟨#[]⟩ : ByteArray) ++ (⟨#[dig pos]⟩ : ByteArray))] 9)) w1.heap.size 9 1 (.slice oa zs.length oc) zs.length (zs.map encS)) := World.ownsRow.alloc hoz (.cells #[.string ((⟨#[]⟩ : ByteArray) ++ (⟨#[dig pos]⟩ : ByteArray))] 9)
                  have HNA : Hid (Blk (W1.alloc (.cells #[.string ((⟨#[]⟩ : ByteArray) ++ (⟨#[dig pos]⟩ : ByteArray))] 9)) W1.heap.size [.string ((⟨#[]⟩ : ByteArray) ++ (⟨#[dig pos]⟩ : ByteArray))] 9) := Blk.new W1 [.string ((⟨#[]⟩ : ByteArray) ++ (⟨#[dig pos]⟩ : ByteArray))] 9
                  have hvw : ∀ b, (Value.slice oa zs.length oc).ownBlock = some b → w1.heap.size ≤ b := fun b e => (hoz.lt b e).1
                  clear hoz HZ h0
                  as_aux_lemma =>
                    go_wp2_with (first | (refine wpList_val rfl (bl_dde0 _ (fun _ => rfl) _ _ 48 (((⟨#[]⟩ : ByteArray) ++ (⟨#[dig pos]⟩ : ByteArray))) rfl rfl) ?_) | (at_builtin; go_loud (refine wpList_append_own_at _ rfl (.tmp 44) (.tmp 49) 38 rfl w1.heap.size 9 i0 _ 1 16 Tryz.underlying38 hi hz0 hz1 hz2 rfl (by omega) (.slice oa zs.length oc) zs.length _ rfl HOA.out ⟨W1.heap.size, 0, none⟩ 1 1 [.string ((⟨#[]⟩ : ByteArray) ++ (⟨#[dig pos]⟩ : ByteArray))] rfl rfl (fun j u hj => by rw [add0]; exact HNA.out.cell j hj) (by simp [Value.oneCell']) (by simp only [maxLen]; omega) (by omega) (by simp; omega) ?_); intro v12 w12 hown12 hgr12 _ hat12; have HQ1 := Lib.hid hown12; have HQ2 := Lib.hid hgr12; clear hown12 hgr12 hat12 HOA HNA; refine Hid.out ?_))
                    refine Lib.hid ?_
                    have HI6 := Lib.hid (it_kept HO1.out HI1.out HQ2.out)
                    have HO6 : Hid (w12.ownsRow w1.heap.size 9 1 v12 (zs ++ [[] ++ [dig pos]]).length ((zs ++ [[] ++ [dig pos]]).map encS)) := by
                      show World.ownsRow _ _ _ _ _ _ _
                      have h9 := HQ1.out
                      rw [HCA.out] at h9
                      rw [List.map_append, List.length_append]
                      exact h9
                    have HB6 : Hid (Below w1.heap.size w1 w12) := HB1.out.trans (upto_grown HQ2.out hrow hvw)
                    clear HQ1 HQ2 HO1 HB1 HCA
                    as_aux_lemma =>
                      go_wp2_with fail
                      go_roundw
                      case rel => exact ⟨pos + 1, zs ++ [[] ++ [dig pos]], by omega, HI6.out, HNX.out.symm, HO6.out, HB6.out⟩
                      case measure => rw [iterPos_of HI6.out, iterPos_of HI.out]; omega
            | cons z1 s1 =>
              have hl9 : ¬ (4 : Int) ≤ (s1.length : Int) + 1 := by
                have h9 := hli
                rw [List.length_cons] at h9
                omega
              clear hli
              have HIT : Hid ((w2.iter tenB 0).heap[w2.heap.size]? = some (.stringIter tenB 0)) := World.iter_heap _ _ _
              have HO0 := Lib.hid (HO2.out.alloc (.stringIter tenB 0))
              have HB0 : Hid (Below w1.heap.size w1 (w2.iter tenB 0)) := HB2.out.alloc HB2.out.size _
              have HZO := Lib.hid HB2.out.size
              clear HB2
              as_aux_lemma =>
                go_wp2_with fail
                go_loopw [6] (fun v wr => ∃ (pos : Nat) (zs : List (List UInt8)), pos ≤ 10 ∧ Hid (wr.heap[w2.heap.size]? = some (.stringIter tenB pos)) ∧ Hid (zs = nx ++ kidsTo (z1 :: s1) pos) ∧ Hid (wr.ownsRow w1.heap.size 9 1 v zs.length (zs.map encS)) ∧ Hid (Below w1.heap.size w1 wr)) (fun _ wr => 10 - wr.iterPos w2.heap.size)
                case atStart => exact ⟨0, nx, by omega, HIT.out, by show _ = _; simp [kidsTo], HO0.out, HB0.out⟩
                case round =>
                  clear HIT HO0 HB0
                  obtain ⟨pos, zs, hpos, HI, HZ, HOZ, HBW⟩ := hrel
                  have hzl : zs.length ≤ 100100 := by
                    have h1 := kidsTo_len (z1 :: s1) pos
                    have h3 := HNL.out
                    rw [HZ.out, List.length_append]
                    omega
                  by_cases hp : pos < 10
                  case neg =>
                    obtain rfl : pos = 10 := by omega
                    have hsz : ¬ 10 < tenB.size := by decide
                    have hnx : ∀ ty, (Instr.next (.pointer (some ⟨w2.heap.size, 0, none⟩)) true ty).run Tryz.prog wr = .ok (.tuple #[.bool false]) wr := fun ty => Lib.run_next_end_at (P := Tryz.prog) wr w2.heap.size tenB 10 ty HI.out hsz
                    have HN : Hid (zs = (now.take (i + 1)).flatMap (kidB K p)) := by
                      show _ = _
                      rw [HZ.out, HSTEP.out]
                      rfl
                    clear HZ HSTEP
                    as_aux_lemma =>
                      go_wp2_with fail
                      go_roundw
                      case rel => exact ⟨i + 1, zs, by omega, by go_num, HN.out, HMI.out, HOZ.out, HBW.out⟩
                      case measure => first | (simp [intOf]; done) | (simp [intOf]; omega)
                  have hsz : pos < tenB.size := hp
                  obtain ⟨henc, has⟩ := ten_enc pos hp
                  have hnx : ∀ ty, (Instr.next (.pointer (some ⟨w2.heap.size, 0, none⟩)) true ty).run Tryz.prog wr = .ok (.tuple #[.bool true, .int .i64 pos, .int .i32 (48 + (pos : Int))]) (wr.iterAt w2.heap.size tenB (pos + 1)) := fun ty => by
                    have h := Lib.run_next_ascii_at (P := Tryz.prog) wr w2.heap.size tenB pos ty HI.out hsz (by rw [tenB_at pos hsz]; exact has)
                    rw [tenB_at pos hsz, dig_ten pos hp, dig_nat pos hp] at h
                    exact h
                  clear henc has
                  have HI1 := Lib.hid (Lib.iterAt_heap wr w2.heap.size tenB pos (pos + 1) HI.out)
                  have HO1 := Lib.hid (own_it HOZ.out HI.out (pos + 1))
                  have HB1 := Lib.hid (Lib.below_iterAt HBW.out (k := w2.heap.size) HZO.out tenB (pos + 1))
                  have henc := enc_dig pos hp
                  obtain ⟨W1, hW1⟩ : ∃ W1, W1 = wr.iterAt w2.heap.size tenB (pos + 1) := ⟨_, rfl⟩
                  rw [← hW1] at hnx HI1 HO1 HB1
                  clear hW1 hsz
                  clear HOZ HBW
                  obtain ⟨q, hq⟩ : ∃ q : Int, q = 48 + (pos : Int) := ⟨_, rfl⟩
                  rw [← hq] at hnx henc
                  have hq1 : 48 ≤ q := by omega
                  have hq2 : q ≤ 57 := by omega
                  have HQ := Lib.hid hq
                  clear hq
                  have h0 : ¬ ((z1 :: s1) = [] ∧ pos = 0) := fun h => by cases h.1
                  have HNX : Hid (nx ++ kidsTo (z1 :: s1) (pos + 1) = zs ++ [(z1 :: s1) ++ [dig pos]]) := by
                    show _ = _
                    rw [kidsTo_succ, ← List.append_assoc, ← HZ.out, if_neg (fun h => h0 h)]
                  have HCA : Hid (((⟨(z1 :: s1).toArray⟩ : ByteArray) ++ (⟨#[dig pos]⟩ : ByteArray)) = ⟨((z1 :: s1) ++ [dig pos] : List UInt8).toArray⟩) := cat_one (z1 :: s1) (dig pos)
                  have hoz := HO1.out
                  obtain ⟨oa, oc, rfl⟩ := own_shape hoz
                  have hrow : w1.heap.size ≤ W1.heap.size := HB1.out.size
                  have HOA : Hid (World.ownsRow (W1.alloc (.cells #[.string ((⟨(z1 :: s1).toArray⟩ : ByteArray) ++ (⟨#[dig pos]⟩ : ByteArray))] 9)) w1.heap.size 9 1 (.slice oa zs.length oc) zs.length (zs.map encS)) := World.ownsRow.alloc hoz (.cells #[.string ((⟨(z1 :: s1).toArray⟩ : ByteArray) ++ (⟨#[dig pos]⟩ : ByteArray))] 9)
                  have HNA : Hid (Blk (W1.alloc (.cells #[.string ((⟨(z1 :: s1).toArray⟩ : ByteArray) ++ (⟨#[dig pos]⟩ : ByteArray))] 9)) W1.heap.size [.string ((⟨(z1 :: s1).toArray⟩ : ByteArray) ++ (⟨#[dig pos]⟩ : ByteArray))] 9) := Blk.new W1 [.string ((⟨(z1 :: s1).toArray⟩ : ByteArray) ++ (⟨#[dig pos]⟩ : ByteArray))] 9
                  have hvw : ∀ b, (Value.slice oa zs.length oc).ownBlock = some b → w1.heap.size ≤ b := fun b e => (hoz.lt b e).1
                  clear hoz HZ h0
                  as_aux_lemma =>
                    go_wp2_with (first | (refine wpList_val rfl (bl_dde0 _ (fun _ => rfl) _ _ 48 (((⟨(z1 :: s1).toArray⟩ : ByteArray) ++ (⟨#[dig pos]⟩ : ByteArray))) rfl rfl) ?_) | (at_builtin; go_loud (refine wpList_append_own_at _ rfl (.tmp 44) (.tmp 49) 38 rfl w1.heap.size 9 i0 _ 1 16 Tryz.underlying38 hi hz0 hz1 hz2 rfl (by omega) (.slice oa zs.length oc) zs.length _ rfl HOA.out ⟨W1.heap.size, 0, none⟩ 1 1 [.string ((⟨(z1 :: s1).toArray⟩ : ByteArray) ++ (⟨#[dig pos]⟩ : ByteArray))] rfl rfl (fun j u hj => by rw [add0]; exact HNA.out.cell j hj) (by simp [Value.oneCell']) (by simp only [maxLen]; omega) (by omega) (by simp; omega) ?_); intro v12 w12 hown12 hgr12 _ hat12; have HQ1 := Lib.hid hown12; have HQ2 := Lib.hid hgr12; clear hown12 hgr12 hat12 HOA HNA; refine Hid.out ?_))
                    refine Lib.hid ?_
                    have HI6 := Lib.hid (it_kept HO1.out HI1.out HQ2.out)
                    have HO6 : Hid (w12.ownsRow w1.heap.size 9 1 v12 (zs ++ [(z1 :: s1) ++ [dig pos]]).length ((zs ++ [(z1 :: s1) ++ [dig pos]]).map encS)) := by
                      show World.ownsRow _ _ _ _ _ _ _
                      have h9 := HQ1.out
                      rw [HCA.out] at h9
                      rw [List.map_append, List.length_append]
                      exact h9
                    have HB6 : Hid (Below w1.heap.size w1 w12) := HB1.out.trans (upto_grown HQ2.out hrow hvw)
                    clear HQ1 HQ2 HO1 HB1 HCA
                    as_aux_lemma =>
                      go_wp2_with fail
                      go_roundw
                      case rel => exact ⟨pos + 1, zs ++ [(z1 :: s1) ++ [dig pos]], by omega, HI6.out, HNX.out.symm, HO6.out, HB6.out⟩
                      case measure => rw [iterPos_of HI6.out, iterPos_of HI.out]; omega
end Go.Proofs.YtacekbbndamkmaaGreatDoor

set_option linter.unusedVariables false
set_option linter.unusedSimpArgs false
namespace Go.Proofs.YtacekbbndamkmaaGreatDoor
open Go.RowKit
open Go.Maps

theorem bd_deck (e : Operand → Value) (o : Oper) (w : World) (i0 : Nat) (a : Option Addr) (n c : Nat) (ho : o.op = .build 28 #[(4, .tmp i0)]) (h0 : e (.tmp i0) = .slice a n c) :
   (execOp e o).run Tryz.prog w = .ok (.value (.agg #[.int .i64 0, .int .i64 0, .int .i64 0, .int .i64 0, .slice a n c])) w := by
  unfold execOp
  rw [ho]
  simp only [List.map_toArray, List.map_cons, List.map_nil, h0]
  kernel_rfl
/-- Decks that are written out. -/
theorem deck_lit (w : World) (ps : List Deck) (hn : ps.length ≤ 100) (hf : ∀ i, i < ps.length → DeckFine w (ps.getD i noDeck)) : DeckRow (w.alloc (.cells ((ps.map Deck.cells).flatten).toArray 28)) (some ⟨w.heap.size, 0, none⟩) ps.length ps := by
  have hb : Below w.heap.size w (w.alloc (.cells ((ps.map Deck.cells).flatten).toArray 28)) := ext_alloc (Below.refl _ _)
  have hl : ((ps.map Deck.cells).flatten).toArray.size = ps.length * 5 := by
    rw [List.size_toArray]
    exact flat_length Deck.cells 5 (fun _ => rfl) ps
  have ho := World.ownsRow_lit (e := 28) (size := 5) w ((ps.map Deck.cells).flatten).toArray ps.length (Nat.le_refl _) (by simp only [maxLen]; omega) hl
  obtain ⟨a, c, e, hc⟩ := Cells.of_own ho (fun x hx => by obtain ⟨y, _, rfl⟩ := List.mem_map.1 hx; rfl) (by decide)
  injection e with e1 e2 e3
  subst e1
  exact ⟨hc, hn, fun i hi => (hf i hi).below hb⟩
theorem rate_mem {w : World} {a : Option Addr} {n : Nat} {l : List Rate} (h : RateRow w a n l) : RatesIn l := fun r hr => by
  obtain ⟨i, hi, rfl⟩ := List.getElem_of_mem hr
  have := h.each i hi
  rwa [List.getD_eq_getElem?_getD, List.getElem?_eq_getElem hi] at this
/-- Rates of the call's own, as rates that are read. -/
theorem rate_own {w : World} {base : Nat} {v : Value} {l : List Rate} (h : w.ownsRow base 51 3 v l.length ((l.map Rate.cells).flatten)) (hl : l.length ≤ 100) (hb : RatesIn l) : ∃ a c, v = .slice a l.length c ∧ RateRow w a l.length l ∧ l.length ≤ c := by
  obtain ⟨a, c, rfl, hc⟩ := Cells.of_own h (fun x hx => by obtain ⟨y, _, rfl⟩ := List.mem_map.1 hx; rfl) (by decide)
  obtain ⟨h1, h2⟩ := own_caps h
  exact ⟨a, c, rfl, ⟨hc, hl, fun i hi => hb _ (mem_getD _ hi)⟩, h2⟩
theorem filter_step (q : Rate → Bool) (rs : List Rate) (i : Nat) (hi : i < rs.length) : (rs.take (i + 1)).filter q = (rs.take i).filter q ++ (if q (rs.getD i noRate) = true then [rs.getD i noRate] else []) := by
  rw [List.take_add_one, List.getElem?_eq_getElem hi, List.filter_append]
  simp only [Option.toList_some, List.filter_cons, List.filter_nil, List.getD_eq_getElem?_getD, List.getElem?_eq_getElem hi, Option.getD_some]
theorem filter_take_len (q : Rate → Bool) (rs : List Rate) (i : Nat) : ((rs.take i).filter q).length ≤ rs.length := Nat.le_trans (List.length_filter_le _ _) (List.length_take_le' _ _)
/-- Rates of the call's own. -/
def RatesPost (xs : List Rate) (w : World) (e : Ending) (w' : World) : Prop := ∃ v, e = .returned v ∧ w'.ownsRow w.heap.size 51 3 v xs.length ((xs.map Rate.cells).flatten) ∧ Below w.heap.size w w'
theorem pre_one (d : Deck) : prefK [d] = d.rates.map (·.p) := by unfold prefK; simp
theorem bl_dwt0 (e : Operand → Value) (he : ∀ v, e (.const v) = v) (o : Oper) (w : World) (i0 : Nat) (z0_0 : Int) (z0_1 : Int) (z0_2 : Int) (z0_3 : Int) (a0_4 : Option Addr) (n0_4 : Nat) (m0_4 : Nat) (ho : o.op = .buildSlice 123 1 #[(0, .tmp i0)]) (h0 : e (.tmp i0) = .agg #[.int .i64 z0_0, .int .i64 z0_1, .int .i64 z0_2, .int .i64 z0_3, .slice a0_4 n0_4 m0_4]) :
   (execOp e o).run Tryz.prog w = .ok (.value (.slice (some ⟨w.heap.size, 0, none⟩) 1 1)) (w.alloc (.cells #[.int .i64 z0_0, .int .i64 z0_1, .int .i64 z0_2, .int .i64 z0_3, .slice a0_4 n0_4 m0_4] 28)) := by
  unfold execOp
  rw [ho]
  simp only [List.map_toArray, List.map_cons, List.map_nil, h0]
  kernel_rfl
set_option maxRecDepth 100000 in
set_option maxHeartbeats 8000000 in
theorem carWithout_any (w : World) (ra : Option Addr) (rn rc : Nat) (rs : List Rate) (hr : RateRow w ra rn rs) (ho : RSorted rs) (hc : rn ≤ rc) : Calls Tryz.prog 45 #[.slice ra rn rc] w (RatesPost (withoutV rs) w) := by
  obtain ⟨i1, hi1, hy0, hy1, hy2⟩ := info_parts Tryz.infoRate
  have HR := Lib.hid hr
  have HLEN := Lib.hid hr.len
  have HS := Lib.hid ho
  have hrn := hr.few
  have hds := Tryz.deckSz
  have HDR : Hid (DeckRow (w.alloc (.cells #[.int .i64 0, .int .i64 0, .int .i64 0, .int .i64 0, .slice ra rn rc] 28)) (some ⟨w.heap.size, 0, none⟩) 1 [⟨0, 0, 0, 0, ra, rn, rc, rs⟩]) := deck_lit w [⟨0, 0, 0, 0, ra, rn, rc, rs⟩] (by simp) (fun i hi => by
    have hi' : i < 1 := by simpa using hi
    obtain rfl : i = 0 := by omega
    have z9 : -2000000000000 ≤ (0 : Int) ∧ (0 : Int) ≤ 2000000000000 := by omega
    exact ⟨hr, hc, z9, z9, z9, z9⟩)
  have HB0 : Hid (Below w.heap.size w (w.alloc (.cells #[.int .i64 0, .int .i64 0, .int .i64 0, .int .i64 0, .slice ra rn rc] 28))) := ext_alloc (Below.refl _ _)
  clear hr ho
  have HKL : Hid (withoutV rs = (usedR (rs.map (·.p)) rs).filter fun r => !redB (usedR (rs.map (·.p)) rs) r) := rfl
  generalize withoutV rs = R at HKL ⊢
  go_enter Tryz.func45, Tryz.ntmps45
  as_aux_lemma =>
    go_wp2_with (first | (refine wpList_val rfl (bd_deck _ _ _ 15 ra rn rc rfl rfl) ?_) | (refine wpList_val rfl (bl_dwt0 _ (fun _ => rfl) _ _ 16 0 0 0 0 ra rn rc rfl rfl) ?_))
    generalize w.alloc (.cells #[.int .i64 0, .int .i64 0, .int .i64 0, .int .i64 0, .slice ra rn rc] 28) = w0 at HDR HB0 ⊢
    generalize w.heap.size = W0 at HDR ⊢
    refine (prefixesOf_any w0 _ 1 _ _ HDR.out (by decide)).mono ?_
    rintro e w1 ⟨mb, D, rfl, hm1, hms, hmb, hb1⟩
    rw [pre_one] at hm1 hms
    simp only at hm1 hms
    have HM1 := Lib.hid hm1
    have HMS := Lib.hid hms
    have HB1 := Lib.hid (ext_trans HB0.out hb1)
    have HR1 := Lib.hid (HR.out.below HB1.out)
    clear hm1 hms hmb hb1 HDR HB0 HR
    generalize rs.map (·.p) = K at HM1 HMS HKL
    generalize K.length = N at HM1
    as_aux_lemma =>
      go_wp2_with fail
      go_loopw [4, 21] (fun vo it wr => ∃ (i : Nat) (us : List Rate), i ≤ rn ∧ it = .int .i64 i ∧ Hid (us = usedR K (rs.take i)) ∧ Hid (wr.ownsRow w1.heap.size 51 3 vo us.length ((us.map Rate.cells).flatten)) ∧ Hid (Below w1.heap.size w1 wr)) (fun _ it _ => rn - (intOf it).toNat)
      case atStart => exact ⟨0, [], Nat.zero_le _, rfl, rfl, World.ownsRow_nil _ _ _ _, Below.refl _ _⟩
      case round =>
        obtain ⟨i, us, hin, rfl, HU, HO, HB⟩ := hrel
        obtain ⟨vo, rfl⟩ : ∃ x : Value, x = u4 := ⟨_, rfl⟩
        have hul : us.length ≤ 100 := by
          have h9 := filter_take_len (fun r => (leastV K r.p).isSome) rs i
          have h8 := HU.out
          unfold usedR at h8
          rw [← h8] at h9
          have := HLEN.out
          omega
        by_cases hlt : i < rn
        case neg =>
          obtain rfl : i = rn := by omega
          have HUF : Hid (us = usedR K rs) := by
            show _ = _
            rw [HU.out, HLEN.out, List.take_length]
          have HUI : Hid (RatesIn us) := by
            show RatesIn us
            rw [HUF.out]
            exact fun r hr => rate_mem HR1.out r (List.mem_filter.1 hr).1
          have HUS : Hid (RSorted us) := by
            show RSorted us
            rw [HUF.out]
            exact HS.out.used K
          rw [← HUF.out] at HKL
          clear HU HUF HS HR1
          obtain ⟨ua, uc, rfl, hur, huc⟩ := rate_own HO.out hul HUI.out
          have hnn : ¬ (i : Int) < (i : Int) := by omega
          have hA : Below wr.heap.size wr (wr.alloc (.cells #[.int .i64 0, .int .i64 0, .int .i64 0, .int .i64 0, .slice ua us.length uc] 28)) := ext_alloc (Below.refl _ _)
          have HX2 : Hid (Blk (wr.alloc (.cells #[.int .i64 0, .int .i64 0, .int .i64 0, .int .i64 0, .slice ua us.length uc] 28)) wr.heap.size [.int .i64 0, .int .i64 0, .int .i64 0, .int .i64 0, .slice ua us.length uc] 28) := Blk.new wr [.int .i64 0, .int .i64 0, .int .i64 0, .int .i64 0, .slice ua us.length uc] 28
          have HUR := Lib.hid (hur.below hA)
          have HB2 : Hid (Below w.heap.size w (wr.alloc (.cells #[.int .i64 0, .int .i64 0, .int .i64 0, .int .i64 0, .slice ua us.length uc] 28))) := ext_trans (ext_trans HB1.out HB.out) hA
          clear hA hur HO HB HB1 HM1 HMS
          as_aux_lemma =>
            go_upto_region 11 with (refine wpList_val rfl (bd_deck _ _ _ 38 ua us.length uc rfl rfl) ?_)
            generalize wr.alloc (.cells #[.int .i64 0, .int .i64 0, .int .i64 0, .int .i64 0, .slice ua us.length uc] 28) = w2 at HX2 HUR HB2 ⊢
            generalize wr.heap.size = DB at HX2 ⊢
            as_aux_lemma =>
              go_wp2_with fail
              go_loopw [5, 42] (fun vo it wr => ∃ (j : Nat) (os : List Rate), j ≤ us.length ∧ it = .int .i64 j ∧ Hid (os = (us.take j).filter fun r => !redB us r) ∧ Hid (wr.ownsRow w2.heap.size 51 3 vo os.length ((os.map Rate.cells).flatten)) ∧ Hid (Below w2.heap.size w2 wr)) (fun _ it _ => us.length - (intOf it).toNat)
              case atStart => exact ⟨0, [], Nat.zero_le _, rfl, rfl, World.ownsRow_nil _ _ _ _, Below.refl _ _⟩
              case round =>
                obtain ⟨j, os, hj, rfl, HX, HO, HB⟩ := hrel
                obtain ⟨vq, rfl⟩ : ∃ x : Value, x = u5 := ⟨_, rfl⟩
                have hol : os.length ≤ 100 := by
                  have h9 := filter_take_len (fun r => !redB us r) us j
                  rw [← HX.out] at h9
                  omega
                by_cases hlj : j < us.length
                case neg =>
                  obtain rfl : j = us.length := by omega
                  have HE : Hid (RatesPost R w (.returned vq) wr) := by
                    have e : os = R := by rw [HKL.out, HX.out, List.take_length]
                    rw [← e]
                    exact ⟨vq, rfl, own_le HO.out HB2.out.size, ext_trans HB2.out HB.out⟩
                  have hnn : ¬ (us.length : Int) < (us.length : Int) := by omega
                  clear HX HO HB HB2 HX2 HUR HUI HUS HKL
                  as_aux_lemma =>
                    go_wp2_with fail
                    go_ret
                    exact HE.out
                have hlji : (j : Int) < (us.length : Int) := by omega
                have HURW := Lib.hid (HUR.out.below HB.out)
                obtain ⟨b2, off2, rfl, hb2, hc2⟩ := HURW.out.at (by omega)
                obtain ⟨e0, e1, e2⟩ := hc2 j hlj
                have hpl := (HUI.out (us.getD j noRate) (mem_getD _ hlj)).1
                have HST : Hid ((us.take (j + 1)).filter (fun r => !redB us r) = (us.take j).filter (fun r => !redB us r) ++ (if (!redB us (us.getD j noRate)) = true then [us.getD j noRate] else [])) := filter_step _ us j hlj
                clear hc2
                generalize us.getD j noRate = r at e0 e1 e2 hpl HST
                obtain ⟨rp, rq, rl⟩ := r
                simp only at e0 e1 e2 hpl
                have hA : Below wr.heap.size wr (wr.alloc (.cells #[.string ⟨rp.toArray⟩, .int .i64 rq, .bool rl] 51)) := ext_alloc (Below.refl _ _)
                have HZ : Hid (Blk (wr.alloc (.cells #[.string ⟨rp.toArray⟩, .int .i64 rq, .bool rl] 51)) wr.heap.size [.string ⟨rp.toArray⟩, .int .i64 rq, .bool rl] 51) := Blk.new wr [.string ⟨rp.toArray⟩, .int .i64 rq, .bool rl] 51
                have HB5 := Lib.hid (ext_trans HB.out hA)
                have HO5 := Lib.hid (own_keep HO.out hA)
                clear hA HB HO HURW
                as_aux_lemma =>
                  go_upto_region 14 with (fail)
                  generalize wr.alloc (.cells #[.string ⟨rp.toArray⟩, .int .i64 rq, .bool rl] 51) = w5 at HZ HB5 HO5 ⊢
                  generalize wr.heap.size = Z at HZ ⊢
                  clear e0 e1 e2
                  have z0 := HZ.out.cell 0 rfl
                  have z1 := HZ.out.cell 1 rfl
                  have z2 := HZ.out.cell 2 rfl
                  have HX5 := Lib.hid (HX2.out.below HB5.out)
                  have x0 := HX5.out.cell 0 rfl
                  have x1 := HX5.out.cell 1 rfl
                  have x2 := HX5.out.cell 2 rfl
                  have x3 := HX5.out.cell 3 rfl
                  have x4 := HX5.out.cell 4 rfl
                  cases rp with
                  | nil =>
                    have hred : redB us (⟨[], rq, rl⟩ : Rate) = false := rfl
                    have HB7 := HB5
                    obtain ⟨w7, rfl⟩ : ∃ x : World, x = w5 := ⟨_, rfl⟩
                    clear HB5
                    have hoz := HO5.out
                    obtain ⟨oa, oc, rfl⟩ := own_shape hoz
                    have hrow : w2.heap.size ≤ w7.heap.size := HB7.out.size
                    have HOA : Hid (World.ownsRow (w7.alloc (.cells #[.string ⟨[].toArray⟩, .int .i64 rq, .bool rl] 51)) w2.heap.size 51 3 (.slice oa os.length oc) os.length ((os.map Rate.cells).flatten)) := World.ownsRow.alloc hoz (.cells #[.string ⟨[].toArray⟩, .int .i64 rq, .bool rl] 51)
                    have HNA : Hid (Blk (w7.alloc (.cells #[.string ⟨[].toArray⟩, .int .i64 rq, .bool rl] 51)) w7.heap.size [.string ⟨[].toArray⟩, .int .i64 rq, .bool rl] 51) := Blk.new w7 [.string ⟨[].toArray⟩, .int .i64 rq, .bool rl] 51
                    have hvw : ∀ b, (Value.slice oa os.length oc).ownBlock = some b → w2.heap.size ≤ b := fun b e => (hoz.lt b e).1
                    clear hoz
                    as_aux_lemma =>
                      go_wp2_with (first | (refine wpList_val rfl (bs_r1 _ _ _ 76 ⟨[].toArray⟩ rq rl rfl rfl) ?_) | (at_builtin; go_loud (refine wpList_append_own_at _ rfl (.tmp 75) (.tmp 77) 26 rfl w2.heap.size 51 i1 _ 3 32 Tryz.underlying26 hi1 hy0 hy1 hy2 rfl (by omega) (.slice oa os.length oc) os.length _ rfl HOA.out ⟨w7.heap.size, 0, none⟩ 1 1 [.string ⟨[].toArray⟩, .int .i64 rq, .bool rl] rfl rfl (fun j u hj => by rw [add0]; exact HNA.out.cell j hj) (by simp [Value.oneCell']) (by simp only [maxLen]; omega) (by omega) (by simp; omega) ?_); intro v12 w12 hown12 hgr12 _ hat12; have HQ1 := Lib.hid hown12; have HQ2 := Lib.hid hgr12; clear hown12 hgr12 hat12 HOA HNA; refine Hid.out ?_))
                      refine Lib.hid ?_
                      have HO12 : Hid (w12.ownsRow w2.heap.size 51 3 v12 (os ++ [(⟨[], rq, rl⟩ : Rate)]).length (((os ++ [(⟨[], rq, rl⟩ : Rate)]).map Rate.cells).flatten)) := by
                        show World.ownsRow _ _ _ _ _ _ _
                        rw [rcells_snoc, List.length_append]
                        exact HQ1.out
                      have HB12 : Hid (Below w2.heap.size w2 w12) := HB7.out.trans (upto_grown HQ2.out hrow hvw)
                      clear HQ1 HQ2 HO5 HB7
                      have HN : Hid (os ++ [(⟨[], rq, rl⟩ : Rate)] = (us.take (j + 1)).filter fun r => !redB us r) := by
                        show _ = _
                        rw [HST.out, hred, if_pos (show (!false) = true from rfl), HX.out]
                      clear HST HX hred
                      as_aux_lemma =>
                        go_wp2_with fail
                        go_roundw
                        case rel => exact ⟨j + 1, os ++ [(⟨[], rq, rl⟩ : Rate)], by omega, by go_num, HN.out, HO12.out, HB12.out⟩
                        case measure => simp [intOf]; omega
                  | cons y1 y2 =>
                    have hr9 : redB us (⟨y1 :: y2, rq, rl⟩ : Rate) = (match rateOf us (y1 :: y2) y2.length with
                      | none => false
                      | some x => decide (x.price = rq) && decide (x.closed = rl)) := by
                      unfold redB rateOf
                      rw [decide_eq_true (show ¬ (y1 :: y2) = [] by simp), Bool.true_and]
                      simp only [List.length_cons, Nat.add_sub_cancel]
                      rw [Nat.min_eq_right (by omega)]
                      cases rateTo us (y1 :: y2) y2.length <;> rfl
                    have HRD := Lib.hid hr9
                    clear hr9
                    have hyl : y2.length ≤ 99 := by rw [List.length_cons] at hpl; omega
                    have HRA := Lib.hid (rate_any w5 0 0 0 0 (some ⟨b2, off2, none⟩) us.length uc us (y1 :: y2) y2.length (HUR.out.below HB5.out) HUS.out (by rw [List.length_cons]; omega) (by omega))
                    generalize rateOf us (y1 :: y2) y2.length = q at HRD HRA
                    as_aux_lemma =>
                      go_wp2_with fail
                      refine HRA.out.mono ?_
                      rintro e w6 ⟨hb6, rfl⟩
                      have HZ6 := Lib.hid (HZ.out.below hb6)
                      have HB6 := Lib.hid (ext_trans HB5.out hb6)
                      have HO6 := Lib.hid (own_keep HO5.out hb6)
                      clear HRA hb6 HZ HB5 HO5 HX5 x0 x1 x2 x3 x4 z0 z1 z2
                      cases q with
                      | none =>
                        have hred : redB us (⟨y1 :: y2, rq, rl⟩ : Rate) = false := HRD.out
                        clear HRD
                        have hA : Below w6.heap.size w6 (w6.alloc (.cells #[.string ⟨noRate.p.toArray⟩, .int .i64 noRate.price, .bool noRate.closed] 51)) := ext_alloc (Below.refl _ _)
                        have HZ7 := Lib.hid (HZ6.out.below hA)
                        have HB7 := Lib.hid (ext_trans HB6.out hA)
                        have HO5 := Lib.hid (own_keep HO6.out hA)
                        clear HZ6 HB6 HO6 hA
                        as_aux_lemma =>
                          go_upto_region 16 with (fail)
                          generalize w6.alloc (.cells #[.string ⟨noRate.p.toArray⟩, .int .i64 noRate.price, .bool noRate.closed] 51) = w7 at HZ7 HB7 HO5 ⊢
                          generalize w6.heap.size = Y
                          have z0 := HZ7.out.cell 0 rfl
                          have z1 := HZ7.out.cell 1 rfl
                          have z2 := HZ7.out.cell 2 rfl
                          have hoz := HO5.out
                          obtain ⟨oa, oc, rfl⟩ := own_shape hoz
                          have hrow : w2.heap.size ≤ w7.heap.size := HB7.out.size
                          have HOA : Hid (World.ownsRow (w7.alloc (.cells #[.string ⟨(y1 :: y2).toArray⟩, .int .i64 rq, .bool rl] 51)) w2.heap.size 51 3 (.slice oa os.length oc) os.length ((os.map Rate.cells).flatten)) := World.ownsRow.alloc hoz (.cells #[.string ⟨(y1 :: y2).toArray⟩, .int .i64 rq, .bool rl] 51)
                          have HNA : Hid (Blk (w7.alloc (.cells #[.string ⟨(y1 :: y2).toArray⟩, .int .i64 rq, .bool rl] 51)) w7.heap.size [.string ⟨(y1 :: y2).toArray⟩, .int .i64 rq, .bool rl] 51) := Blk.new w7 [.string ⟨(y1 :: y2).toArray⟩, .int .i64 rq, .bool rl] 51
                          have hvw : ∀ b, (Value.slice oa os.length oc).ownBlock = some b → w2.heap.size ≤ b := fun b e => (hoz.lt b e).1
                          clear hoz
                          as_aux_lemma =>
                            go_wp2_with (first | (refine wpList_val rfl (bs_r1 _ _ _ 76 ⟨(y1 :: y2).toArray⟩ rq rl rfl rfl) ?_) | (at_builtin; go_loud (refine wpList_append_own_at _ rfl (.tmp 75) (.tmp 77) 26 rfl w2.heap.size 51 i1 _ 3 32 Tryz.underlying26 hi1 hy0 hy1 hy2 rfl (by omega) (.slice oa os.length oc) os.length _ rfl HOA.out ⟨w7.heap.size, 0, none⟩ 1 1 [.string ⟨(y1 :: y2).toArray⟩, .int .i64 rq, .bool rl] rfl rfl (fun j u hj => by rw [add0]; exact HNA.out.cell j hj) (by simp [Value.oneCell']) (by simp only [maxLen]; omega) (by omega) (by simp; omega) ?_); intro v12 w12 hown12 hgr12 _ hat12; have HQ1 := Lib.hid hown12; have HQ2 := Lib.hid hgr12; clear hown12 hgr12 hat12 HOA HNA; refine Hid.out ?_))
                            refine Lib.hid ?_
                            have HO12 : Hid (w12.ownsRow w2.heap.size 51 3 v12 (os ++ [(⟨(y1 :: y2), rq, rl⟩ : Rate)]).length (((os ++ [(⟨(y1 :: y2), rq, rl⟩ : Rate)]).map Rate.cells).flatten)) := by
                              show World.ownsRow _ _ _ _ _ _ _
                              rw [rcells_snoc, List.length_append]
                              exact HQ1.out
                            have HB12 : Hid (Below w2.heap.size w2 w12) := HB7.out.trans (upto_grown HQ2.out hrow hvw)
                            clear HQ1 HQ2 HO5 HB7
                            have HN : Hid (os ++ [(⟨(y1 :: y2), rq, rl⟩ : Rate)] = (us.take (j + 1)).filter fun r => !redB us r) := by
                              show _ = _
                              rw [HST.out, hred, if_pos (show (!false) = true from rfl), HX.out]
                            clear HST HX hred
                            as_aux_lemma =>
                              go_wp2_with fail
                              go_roundw
                              case rel => exact ⟨j + 1, os ++ [(⟨(y1 :: y2), rq, rl⟩ : Rate)], by omega, by go_num, HN.out, HO12.out, HB12.out⟩
                              case measure => simp [intOf]; omega
                      | some x =>
                        obtain ⟨xp, xq, xl⟩ := x
                        have HRD2 : Hid (redB us (⟨y1 :: y2, rq, rl⟩ : Rate) = (decide (xq = rq) && decide (xl = rl))) := HRD.out
                        clear HRD
                        have hA : Below w6.heap.size w6 (w6.alloc (.cells #[.string ⟨xp.toArray⟩, .int .i64 xq, .bool xl] 51)) := ext_alloc (Below.refl _ _)
                        have HY7 : Hid (Blk (w6.alloc (.cells #[.string ⟨xp.toArray⟩, .int .i64 xq, .bool xl] 51)) w6.heap.size [.string ⟨xp.toArray⟩, .int .i64 xq, .bool xl] 51) := Blk.new w6 [.string ⟨xp.toArray⟩, .int .i64 xq, .bool xl] 51
                        have HZ7 := Lib.hid (HZ6.out.below hA)
                        have HB7 := Lib.hid (ext_trans HB6.out hA)
                        have HO5 := Lib.hid (own_keep HO6.out hA)
                        clear HZ6 HB6 HO6 hA
                        as_aux_lemma =>
                          go_upto_region 16 with (fail)
                          generalize w6.alloc (.cells #[.string ⟨xp.toArray⟩, .int .i64 xq, .bool xl] 51) = w7 at HZ7 HY7 HB7 HO5 ⊢
                          generalize w6.heap.size = Y at HY7 ⊢
                          have z0 := HZ7.out.cell 0 rfl
                          have z1 := HZ7.out.cell 1 rfl
                          have z2 := HZ7.out.cell 2 rfl
                          have k1 := HY7.out.cell 1 rfl
                          have k2 := HY7.out.cell 2 rfl
                          by_cases hpq : xq = rq
                          · subst hpq
                            cases xl <;> cases rl
                            · have hred : redB us (⟨y1 :: y2, xq, false⟩ : Rate) = true := by rw [HRD2.out]; simp
                              clear HRD2
                              have HN : Hid (os = (us.take (j + 1)).filter fun r => !redB us r) := by
                                show _ = _
                                rw [HST.out, hred, if_neg (by decide), List.append_nil]
                                exact HX.out
                              clear HST HX hred
                              as_aux_lemma =>
                                go_wp2_with fail
                                go_roundw
                                case rel => exact ⟨j + 1, os, by omega, by go_num, HN.out, HO5.out, HB7.out⟩
                                case measure => simp [intOf]; omega
                            · have hred : redB us (⟨y1 :: y2, xq, true⟩ : Rate) = false := by rw [HRD2.out]; simp
                              clear HRD2
                              have hoz := HO5.out
                              obtain ⟨oa, oc, rfl⟩ := own_shape hoz
                              have hrow : w2.heap.size ≤ w7.heap.size := HB7.out.size
                              have HOA : Hid (World.ownsRow (w7.alloc (.cells #[.string ⟨(y1 :: y2).toArray⟩, .int .i64 xq, .bool true] 51)) w2.heap.size 51 3 (.slice oa os.length oc) os.length ((os.map Rate.cells).flatten)) := World.ownsRow.alloc hoz (.cells #[.string ⟨(y1 :: y2).toArray⟩, .int .i64 xq, .bool true] 51)
                              have HNA : Hid (Blk (w7.alloc (.cells #[.string ⟨(y1 :: y2).toArray⟩, .int .i64 xq, .bool true] 51)) w7.heap.size [.string ⟨(y1 :: y2).toArray⟩, .int .i64 xq, .bool true] 51) := Blk.new w7 [.string ⟨(y1 :: y2).toArray⟩, .int .i64 xq, .bool true] 51
                              have hvw : ∀ b, (Value.slice oa os.length oc).ownBlock = some b → w2.heap.size ≤ b := fun b e => (hoz.lt b e).1
                              clear hoz
                              as_aux_lemma =>
                                go_wp2_with (first | (refine wpList_val rfl (bs_r1 _ _ _ 76 ⟨(y1 :: y2).toArray⟩ xq true rfl rfl) ?_) | (at_builtin; go_loud (refine wpList_append_own_at _ rfl (.tmp 75) (.tmp 77) 26 rfl w2.heap.size 51 i1 _ 3 32 Tryz.underlying26 hi1 hy0 hy1 hy2 rfl (by omega) (.slice oa os.length oc) os.length _ rfl HOA.out ⟨w7.heap.size, 0, none⟩ 1 1 [.string ⟨(y1 :: y2).toArray⟩, .int .i64 xq, .bool true] rfl rfl (fun j u hj => by rw [add0]; exact HNA.out.cell j hj) (by simp [Value.oneCell']) (by simp only [maxLen]; omega) (by omega) (by simp; omega) ?_); intro v12 w12 hown12 hgr12 _ hat12; have HQ1 := Lib.hid hown12; have HQ2 := Lib.hid hgr12; clear hown12 hgr12 hat12 HOA HNA; refine Hid.out ?_))
                                refine Lib.hid ?_
                                have HO12 : Hid (w12.ownsRow w2.heap.size 51 3 v12 (os ++ [(⟨(y1 :: y2), xq, true⟩ : Rate)]).length (((os ++ [(⟨(y1 :: y2), xq, true⟩ : Rate)]).map Rate.cells).flatten)) := by
                                  show World.ownsRow _ _ _ _ _ _ _
                                  rw [rcells_snoc, List.length_append]
                                  exact HQ1.out
                                have HB12 : Hid (Below w2.heap.size w2 w12) := HB7.out.trans (upto_grown HQ2.out hrow hvw)
                                clear HQ1 HQ2 HO5 HB7
                                have HN : Hid (os ++ [(⟨(y1 :: y2), xq, true⟩ : Rate)] = (us.take (j + 1)).filter fun r => !redB us r) := by
                                  show _ = _
                                  rw [HST.out, hred, if_pos (show (!false) = true from rfl), HX.out]
                                clear HST HX hred
                                as_aux_lemma =>
                                  go_wp2_with fail
                                  go_roundw
                                  case rel => exact ⟨j + 1, os ++ [(⟨(y1 :: y2), xq, true⟩ : Rate)], by omega, by go_num, HN.out, HO12.out, HB12.out⟩
                                  case measure => simp [intOf]; omega
                            · have hred : redB us (⟨y1 :: y2, xq, false⟩ : Rate) = false := by rw [HRD2.out]; simp
                              clear HRD2
                              have hoz := HO5.out
                              obtain ⟨oa, oc, rfl⟩ := own_shape hoz
                              have hrow : w2.heap.size ≤ w7.heap.size := HB7.out.size
                              have HOA : Hid (World.ownsRow (w7.alloc (.cells #[.string ⟨(y1 :: y2).toArray⟩, .int .i64 xq, .bool false] 51)) w2.heap.size 51 3 (.slice oa os.length oc) os.length ((os.map Rate.cells).flatten)) := World.ownsRow.alloc hoz (.cells #[.string ⟨(y1 :: y2).toArray⟩, .int .i64 xq, .bool false] 51)
                              have HNA : Hid (Blk (w7.alloc (.cells #[.string ⟨(y1 :: y2).toArray⟩, .int .i64 xq, .bool false] 51)) w7.heap.size [.string ⟨(y1 :: y2).toArray⟩, .int .i64 xq, .bool false] 51) := Blk.new w7 [.string ⟨(y1 :: y2).toArray⟩, .int .i64 xq, .bool false] 51
                              have hvw : ∀ b, (Value.slice oa os.length oc).ownBlock = some b → w2.heap.size ≤ b := fun b e => (hoz.lt b e).1
                              clear hoz
                              as_aux_lemma =>
                                go_wp2_with (first | (refine wpList_val rfl (bs_r1 _ _ _ 76 ⟨(y1 :: y2).toArray⟩ xq false rfl rfl) ?_) | (at_builtin; go_loud (refine wpList_append_own_at _ rfl (.tmp 75) (.tmp 77) 26 rfl w2.heap.size 51 i1 _ 3 32 Tryz.underlying26 hi1 hy0 hy1 hy2 rfl (by omega) (.slice oa os.length oc) os.length _ rfl HOA.out ⟨w7.heap.size, 0, none⟩ 1 1 [.string ⟨(y1 :: y2).toArray⟩, .int .i64 xq, .bool false] rfl rfl (fun j u hj => by rw [add0]; exact HNA.out.cell j hj) (by simp [Value.oneCell']) (by simp only [maxLen]; omega) (by omega) (by simp; omega) ?_); intro v12 w12 hown12 hgr12 _ hat12; have HQ1 := Lib.hid hown12; have HQ2 := Lib.hid hgr12; clear hown12 hgr12 hat12 HOA HNA; refine Hid.out ?_))
                                refine Lib.hid ?_
                                have HO12 : Hid (w12.ownsRow w2.heap.size 51 3 v12 (os ++ [(⟨(y1 :: y2), xq, false⟩ : Rate)]).length (((os ++ [(⟨(y1 :: y2), xq, false⟩ : Rate)]).map Rate.cells).flatten)) := by
                                  show World.ownsRow _ _ _ _ _ _ _
                                  rw [rcells_snoc, List.length_append]
                                  exact HQ1.out
                                have HB12 : Hid (Below w2.heap.size w2 w12) := HB7.out.trans (upto_grown HQ2.out hrow hvw)
                                clear HQ1 HQ2 HO5 HB7
                                have HN : Hid (os ++ [(⟨(y1 :: y2), xq, false⟩ : Rate)] = (us.take (j + 1)).filter fun r => !redB us r) := by
                                  show _ = _
                                  rw [HST.out, hred, if_pos (show (!false) = true from rfl), HX.out]
                                clear HST HX hred
                                as_aux_lemma =>
                                  go_wp2_with fail
                                  go_roundw
                                  case rel => exact ⟨j + 1, os ++ [(⟨(y1 :: y2), xq, false⟩ : Rate)], by omega, by go_num, HN.out, HO12.out, HB12.out⟩
                                  case measure => simp [intOf]; omega
                            · have hred : redB us (⟨y1 :: y2, xq, true⟩ : Rate) = true := by rw [HRD2.out]; simp
                              clear HRD2
                              have HN : Hid (os = (us.take (j + 1)).filter fun r => !redB us r) := by
                                show _ = _
                                rw [HST.out, hred, if_neg (by decide), List.append_nil]
                                exact HX.out
                              clear HST HX hred
                              as_aux_lemma =>
                                go_wp2_with fail
                                go_roundw
                                case rel => exact ⟨j + 1, os, by omega, by go_num, HN.out, HO5.out, HB7.out⟩
                                case measure => simp [intOf]; omega
                          have hpb : (xq == rq) = false := beq_eq_false_iff_ne.2 hpq
                          have hred : redB us (⟨y1 :: y2, rq, rl⟩ : Rate) = false := by rw [HRD2.out, decide_eq_false hpq, Bool.false_and]
                          clear HRD2
                          have hoz := HO5.out
                          obtain ⟨oa, oc, rfl⟩ := own_shape hoz
                          have hrow : w2.heap.size ≤ w7.heap.size := HB7.out.size
                          have HOA : Hid (World.ownsRow (w7.alloc (.cells #[.string ⟨(y1 :: y2).toArray⟩, .int .i64 rq, .bool rl] 51)) w2.heap.size 51 3 (.slice oa os.length oc) os.length ((os.map Rate.cells).flatten)) := World.ownsRow.alloc hoz (.cells #[.string ⟨(y1 :: y2).toArray⟩, .int .i64 rq, .bool rl] 51)
                          have HNA : Hid (Blk (w7.alloc (.cells #[.string ⟨(y1 :: y2).toArray⟩, .int .i64 rq, .bool rl] 51)) w7.heap.size [.string ⟨(y1 :: y2).toArray⟩, .int .i64 rq, .bool rl] 51) := Blk.new w7 [.string ⟨(y1 :: y2).toArray⟩, .int .i64 rq, .bool rl] 51
                          have hvw : ∀ b, (Value.slice oa os.length oc).ownBlock = some b → w2.heap.size ≤ b := fun b e => (hoz.lt b e).1
                          clear hoz
                          as_aux_lemma =>
                            go_wp2_with (first | (refine wpList_val rfl (bs_r1 _ _ _ 76 ⟨(y1 :: y2).toArray⟩ rq rl rfl rfl) ?_) | (at_builtin; go_loud (refine wpList_append_own_at _ rfl (.tmp 75) (.tmp 77) 26 rfl w2.heap.size 51 i1 _ 3 32 Tryz.underlying26 hi1 hy0 hy1 hy2 rfl (by omega) (.slice oa os.length oc) os.length _ rfl HOA.out ⟨w7.heap.size, 0, none⟩ 1 1 [.string ⟨(y1 :: y2).toArray⟩, .int .i64 rq, .bool rl] rfl rfl (fun j u hj => by rw [add0]; exact HNA.out.cell j hj) (by simp [Value.oneCell']) (by simp only [maxLen]; omega) (by omega) (by simp; omega) ?_); intro v12 w12 hown12 hgr12 _ hat12; have HQ1 := Lib.hid hown12; have HQ2 := Lib.hid hgr12; clear hown12 hgr12 hat12 HOA HNA; refine Hid.out ?_))
                            refine Lib.hid ?_
                            have HO12 : Hid (w12.ownsRow w2.heap.size 51 3 v12 (os ++ [(⟨(y1 :: y2), rq, rl⟩ : Rate)]).length (((os ++ [(⟨(y1 :: y2), rq, rl⟩ : Rate)]).map Rate.cells).flatten)) := by
                              show World.ownsRow _ _ _ _ _ _ _
                              rw [rcells_snoc, List.length_append]
                              exact HQ1.out
                            have HB12 : Hid (Below w2.heap.size w2 w12) := HB7.out.trans (upto_grown HQ2.out hrow hvw)
                            clear HQ1 HQ2 HO5 HB7
                            have HN : Hid (os ++ [(⟨(y1 :: y2), rq, rl⟩ : Rate)] = (us.take (j + 1)).filter fun r => !redB us r) := by
                              show _ = _
                              rw [HST.out, hred, if_pos (show (!false) = true from rfl), HX.out]
                            clear HST HX hred
                            as_aux_lemma =>
                              go_wp2_with fail
                              go_roundw
                              case rel => exact ⟨j + 1, os ++ [(⟨(y1 :: y2), rq, rl⟩ : Rate)], by omega, by go_num, HN.out, HO12.out, HB12.out⟩
                              case measure => simp [intOf]; omega
        have hii : (i : Int) < (rn : Int) := by omega
        have HRW := Lib.hid (HR1.out.below HB.out)
        obtain ⟨b2, off2, rfl, hb2, hc2⟩ := HRW.out.at (by omega)
        obtain ⟨e0, e1, e2⟩ := hc2 i hlt
        have hpl := (HRW.out.each i (by rw [← HLEN.out]; exact hlt)).1
        have HST : Hid (usedR K (rs.take (i + 1)) = usedR K (rs.take i) ++ (if (leastV K (rs.getD i noRate).p).isSome = true then [rs.getD i noRate] else [])) := filter_step (fun r => (leastV K r.p).isSome) rs i (by rw [← HLEN.out]; exact hlt)
        clear hc2
        generalize rs.getD i noRate = r at e0 e1 e2 hpl HST
        obtain ⟨rp, rq, rl⟩ := r
        simp only at e0 e1 e2 hpl HST
        have hA : Below wr.heap.size wr (wr.alloc (.cells #[.string ⟨rp.toArray⟩, .int .i64 rq, .bool rl] 51)) := ext_alloc (Below.refl _ _)
        have HZ : Hid (Blk (wr.alloc (.cells #[.string ⟨rp.toArray⟩, .int .i64 rq, .bool rl] 51)) wr.heap.size [.string ⟨rp.toArray⟩, .int .i64 rq, .bool rl] 51) := Blk.new wr [.string ⟨rp.toArray⟩, .int .i64 rq, .bool rl] 51
        have HB5 := Lib.hid (ext_trans HB.out hA)
        have HO4 := Lib.hid (own_keep HO.out hA)
        clear hA HB HO HRW
        as_aux_lemma =>
          go_upto_region 6 with (fail)
          generalize wr.alloc (.cells #[.string ⟨rp.toArray⟩, .int .i64 rq, .bool rl] 51) = w5 at HZ HB5 HO4 ⊢
          generalize wr.heap.size = Z at HZ ⊢
          clear e0 e1 e2
          have z0 := HZ.out.cell 0 rfl
          have HLS : Hid (Calls Tryz.prog 50 #[.map (some mb), .string ⟨rp.toArray⟩] w5 (LeastPost (leastV K rp) w5)) := least_any K mb N D HMS.out (4 - rp.length) rp w5 (own_mapB HM1.out HB5.out) (by omega) rfl
          as_aux_lemma =>
            go_wp2_with fail
            refine HLS.out.mono ?_
            generalize leastV K rp = q at HST
            clear HLS
            rintro e w6 ⟨rfl, hb6⟩
            have HZ6 := Lib.hid (HZ.out.below hb6)
            have HB6 := Lib.hid (ext_trans HB5.out hb6)
            have HO5 := Lib.hid (own_keep HO4.out hb6)
            clear HZ HB5 HO4 hb6 z0
            have z0 := HZ6.out.cell 0 rfl
            have z1 := HZ6.out.cell 1 rfl
            have z2 := HZ6.out.cell 2 rfl
            cases q with
            | none =>
              have HN : Hid (us = usedR K (rs.take (i + 1))) := by
                show _ = _
                rw [HST.out, HU.out]
                simp
              clear HST HU
              as_aux_lemma =>
                go_wp2_with fail
                go_roundw
                case rel => exact ⟨i + 1, us, by omega, by go_num, HN.out, HO5.out, HB6.out⟩
                case measure => simp [intOf]; omega
            | some x =>
              have HN : Hid (us ++ [(⟨rp, rq, rl⟩ : Rate)] = usedR K (rs.take (i + 1))) := by
                show _ = _
                rw [HST.out, HU.out]
                simp
              clear HST HU
              have hoz := HO5.out
              obtain ⟨oa, oc, rfl⟩ := own_shape hoz
              have hrow : w1.heap.size ≤ w6.heap.size := HB6.out.size
              have HOA : Hid (World.ownsRow (w6.alloc (.cells #[.string ⟨rp.toArray⟩, .int .i64 rq, .bool rl] 51)) w1.heap.size 51 3 (.slice oa us.length oc) us.length ((us.map Rate.cells).flatten)) := World.ownsRow.alloc hoz (.cells #[.string ⟨rp.toArray⟩, .int .i64 rq, .bool rl] 51)
              have HNA : Hid (Blk (w6.alloc (.cells #[.string ⟨rp.toArray⟩, .int .i64 rq, .bool rl] 51)) w6.heap.size [.string ⟨rp.toArray⟩, .int .i64 rq, .bool rl] 51) := Blk.new w6 [.string ⟨rp.toArray⟩, .int .i64 rq, .bool rl] 51
              have hvw : ∀ b, (Value.slice oa us.length oc).ownBlock = some b → w1.heap.size ≤ b := fun b e => (hoz.lt b e).1
              clear hoz
              as_aux_lemma =>
                go_wp2_with (first | (refine wpList_val rfl (bs_r1 _ _ _ 34 ⟨rp.toArray⟩ rq rl rfl rfl) ?_) | (at_builtin; go_loud (refine wpList_append_own_at _ rfl (.tmp 33) (.tmp 35) 26 rfl w1.heap.size 51 i1 _ 3 32 Tryz.underlying26 hi1 hy0 hy1 hy2 rfl (by omega) (.slice oa us.length oc) us.length _ rfl HOA.out ⟨w6.heap.size, 0, none⟩ 1 1 [.string ⟨rp.toArray⟩, .int .i64 rq, .bool rl] rfl rfl (fun j u hj => by rw [add0]; exact HNA.out.cell j hj) (by simp [Value.oneCell']) (by simp only [maxLen]; omega) (by omega) (by simp; omega) ?_); intro v12 w12 hown12 hgr12 _ hat12; have HQ1 := Lib.hid hown12; have HQ2 := Lib.hid hgr12; clear hown12 hgr12 hat12 HOA HNA; refine Hid.out ?_))
                refine Lib.hid ?_
                have HO12 : Hid (w12.ownsRow w1.heap.size 51 3 v12 (us ++ [(⟨rp, rq, rl⟩ : Rate)]).length (((us ++ [(⟨rp, rq, rl⟩ : Rate)]).map Rate.cells).flatten)) := by
                  show World.ownsRow _ _ _ _ _ _ _
                  rw [rcells_snoc, List.length_append]
                  exact HQ1.out
                have HB12 : Hid (Below w1.heap.size w1 w12) := HB6.out.trans (upto_grown HQ2.out hrow hvw)
                clear HQ1 HQ2 HO5 HB6
                as_aux_lemma =>
                  go_wp2_with fail
                  go_roundw
                  case rel => exact ⟨i + 1, us ++ [(⟨rp, rq, rl⟩ : Rate)], by omega, by go_num, HN.out, HO12.out, HB12.out⟩
                  case measure => simp [intOf]; omega
end Go.Proofs.YtacekbbndamkmaaGreatDoor

set_option linter.unusedVariables false
set_option linter.unusedSimpArgs false
namespace Go.Proofs.YtacekbbndamkmaaGreatDoor
open Go.RowKit Go.Lib

abbrev ShortR := {r : Rate // r.p.length ≤ 100}
instance : Inhabited ShortR := ⟨⟨noRate, by decide⟩⟩
def shortR (l : List Rate) (h : ∀ r ∈ l, r.p.length ≤ 100) : List ShortR := l.attach.map fun x => ⟨x.1, h x.1 x.2⟩
theorem shortR_len (l : List Rate) (h : ∀ r ∈ l, r.p.length ≤ 100) : (shortR l h).length = l.length := by unfold shortR; simp
theorem shortR_at (l : List Rate) (h : ∀ r ∈ l, r.p.length ≤ 100) (j : Nat) (hj : j < l.length) : ((shortR l h)[j]!).1 = l.getD j noRate := by
  rw [getElem!_pos _ j (by rw [shortR_len]; exact hj), List.getD_eq_getElem?_getD, List.getElem?_eq_getElem hj]
  unfold shortR
  simp
theorem idxR_nil (a : Option Addr) (c : Nat) (fv : Value) (w : World) : Calls Tryz.prog 120 #[.slice a 0 c, fv] w fun e w' => e = .returned (.int .i64 (-1)) ∧ w = w' := by
  go_enter Tryz.func120, Tryz.ntmps120
  go_wp2_with fail
  go_loopw [8] (fun i wr => i = .int .i64 0 ∧ wr = w) (fun i _ => 0)
  case atStart => exact ⟨rfl, rfl⟩
  case round =>
    obtain ⟨rfl, rfl⟩ := hrel
    go_wp2_with fail
    go_ret
    exact ⟨rfl, rfl⟩
/-- The first rate with a property. -/
theorem first_to (L : List Rate) (q : Rate → Bool) : ∀ n, (∃ k, k < n ∧ q (L.getD k noRate) = true ∧ ∀ j, j < k → q (L.getD j noRate) = false) ∨ ∀ j, j < n → q (L.getD j noRate) = false
  | 0 => Or.inr fun j hj => absurd hj (Nat.not_lt_zero j)
  | n + 1 => by
    rcases first_to L q n with ⟨m, h1, h2, h3⟩ | h
    · exact Or.inl ⟨m, by omega, h2, h3⟩
    · cases hq : q (L.getD n noRate) with
      | true => exact Or.inl ⟨n, by omega, hq, h⟩
      | false =>
        refine Or.inr fun j hj => ?_
        rcases Nat.lt_succ_iff_lt_or_eq.1 hj with h8 | rfl
        · exact h j h8
        · exact hq
theorem first_rate (L : List Rate) (q : Rate → Bool) : (∃ k, k < L.length ∧ q (L.getD k noRate) = true ∧ ∀ j, j < k → q (L.getD j noRate) = false) ∨ ∀ j, j < L.length → q (L.getD j noRate) = false := first_to L q L.length
def lastR (L : List Rate) (q : Rate → Bool) : List Rate := L.filter fun r => !q r
theorem lastR_step (L : List Rate) (q : Rate → Bool) (j : Nat) (hj : j < L.length) : lastR (L.take (j + 1)) q = lastR (L.take j) q ++ (if q (L.getD j noRate) = true then [] else [L.getD j noRate]) := by
  unfold lastR
  rw [filter_step _ L j hj]
  congr 1
  cases q (L.getD j noRate) <;> rfl
theorem lastR_none (L : List Rate) (q : Rate → Bool) : ∀ k, k ≤ L.length → (∀ j, j < k → q (L.getD j noRate) = false) → lastR (L.take k) q = L.take k := by
  intro k hk h
  unfold lastR
  rw [List.filter_eq_self]
  intro y hy
  obtain ⟨i, hi, rfl⟩ := List.getElem_of_mem hy
  have hi' : i < k := by rw [List.length_take] at hi; omega
  have := h i hi'
  rw [List.getD_eq_getElem?_getD, List.getElem?_eq_getElem (show i < L.length by omega)] at this
  simpa [List.getElem_take] using this
theorem own_put3 {w : World} {base g n cap : Nat} {e : TypeId} {R : List Rate} (h : w.ownsRow base e 3 (.slice (some ⟨g, 0, none⟩) n cap) n ((R.map Rate.cells).flatten)) (i : Nat) (hi : i < R.length) (xp : List UInt8) (xq : Int) (xl : Bool) :
    (((w.setCell ⟨g, i * 3, none⟩ (.string ⟨xp.toArray⟩)).setCell ⟨g, i * 3 + 1, none⟩ (.int .i64 xq)).setCell ⟨g, i * 3 + 2, none⟩ (.bool xl)).ownsRow base e 3 (.slice (some ⟨g, 0, none⟩) n cap) n (((R.set i ⟨xp, xq, xl⟩).map Rate.cells).flatten) := by
  have h1 := own_put1 Rate.cells (fun _ => rfl) h i 0 noRate ⟨xp, (R.getD i noRate).price, (R.getD i noRate).closed⟩ (.string ⟨xp.toArray⟩) hi (by omega) rfl
  rw [Nat.add_zero] at h1
  have h2 := own_put1 Rate.cells (fun _ => rfl) h1 i 1 noRate ⟨xp, xq, (R.getD i noRate).closed⟩ (.int .i64 xq) (by simpa using hi) (by omega) (by simp [hi, Rate.cells])
  rw [List.set_set] at h2
  have h3 := own_put1 Rate.cells (fun _ => rfl) h2 i 2 noRate ⟨xp, xq, xl⟩ (.bool xl) (by simpa using hi) (by omega) (by simp [hi, Rate.cells])
  rw [List.set_set] at h3
  exact h3
theorem put3_gb (w : World) (g i : Nat) (v0 v1 v2 : Value) : w.grownBy (((w.setCell ⟨g, i * 3, none⟩ v0).setCell ⟨g, i * 3 + 1, none⟩ v1).setCell ⟨g, i * 3 + 2, none⟩ v2) (some g) := setCells_gb g [v0, v1, v2] (i * 3)
theorem take_set_lenR (R : List Rate) (i : Nat) (x : Rate) (hi : i < R.length) : (R.set i x).take (i + 1) = R.take i ++ [x] := by
  rw [List.take_add_one, List.getElem?_set_self hi, List.take_set_of_le (Nat.le_refl i)]
  rfl
/-- A closure that says whether a rate has a property. -/
def PredR (g : Nat) (lb : Array Value) (q : Rate → Bool) (row : Option Nat) (w : World) : Prop := ∀ (W : World) (x : Rate), x.p.length ≤ 100 → w.grownBy W row → Calls Tryz.prog g (#[.agg (Rate.cells x).toArray] ++ lb) W fun e w' => e = .returned (.bool (q x)) ∧ Below W.heap.size W w'
def DelPostR (base : Nat) (v : Value) (L : List Rate) (w : World) (e : Ending) (w' : World) : Prop := ∃ v', e = .returned v' ∧ w'.ownsRow base 51 3 v' L.length ((L.map Rate.cells).flatten) ∧ w.grownBy w' v.ownBlock ∧ v'.ownBlock = v.ownBlock

set_option maxRecDepth 100000 in
set_option maxHeartbeats 4000000 in
theorem delR_any (f : Nat) (lb : Array Value) (eg : ∀ args w, (callFunc f args).run Tryz.prog w = .ok (.enter f args) w) (q : Rate → Bool) (w : World) (base : Nat) (v : Value) (L : List Rate) (h : w.ownsRow base 51 3 v L.length ((L.map Rate.cells).flatten)) (hn : L.length ≤ 100) (hs : ∀ r ∈ L, r.p.length ≤ 100) (hp : PredR f lb q v.ownBlock w) :
    Calls Tryz.prog 87 #[v, .func (.func f) #[] lb] w (DelPostR base v (lastR L q) w) := by
  obtain ⟨a, cp, rfl⟩ := own_shape h
  by_cases h0 : L.length = 0
  · obtain rfl := List.length_eq_zero_iff.1 h0
    have HI := Lib.hid (idxR_nil a cp (.func (.func f) #[] lb) w)
    have HE : Hid (DelPostR base (.slice a 0 cp) (lastR [] q) w (.returned (.slice a 0 cp)) w) := ⟨_, rfl, h, gb_of_below (Below.refl _ _), rfl⟩
    clear h hp
    go_enter Tryz.func87, Tryz.ntmps87
    go_wp2_with fail
    refine HI.out.mono ?_
    rintro e w' ⟨rfl, rfl⟩
    go_wp2_with fail
    go_ret
    exact HE.out
  obtain ⟨g, rfl, hg0, hg1⟩ := own_pos h (by omega)
  have hIX := Tryz.slices_idxRt (fun x : ShortR => Rate.cells x.1) (fun _ => rfl) (fun x : ShortR => q x.1) f lb eg g 0 L.length cp (shortR L hs) w (fun W x hb => (hp W x.1 x.2 (gb_of_below hb)).mono fun e w' h9 => ⟨h9.1, ext_trans hb h9.2⟩) (by rw [shortR_len]; exact Nat.le_refl _) (by omega) hg1 (fun j hj i v hv => by
      rw [shortR_len] at hj
      rw [shortR_at L hs j hj] at hv
      have hi : i < 3 := by
        have := (List.getElem?_eq_some_iff.1 hv).1
        exact this
      rw [Nat.zero_add]
      exact own_field Rate.cells (fun _ => rfl) h j i noRate hj hi hv)
  rw [List.take_of_length_le (by rw [shortR_len]; exact Nat.le_refl _)] at hIX
  have HP := Lib.hid hp
  have HO := Lib.hid h
  have hpos : 0 < L.length := by omega
  rcases first_rate L q with ⟨k, hk, hkt, hkj⟩ | hall
  case inr =>
    have hm : Lib.idxBy (fun _ (y : ShortR) => q y.1) (shortR L hs) default = -1 := by
      have h9 := Lib.idxBy_miss (fun _ (y : ShortR) => q y.1) (shortR L hs) L.length default fun j hj => by
        show q ((shortR L hs)[j]!).1 = false
        rw [shortR_at L hs j hj]; exact hall j hj
      rwa [List.take_of_length_le (by rw [shortR_len]; exact Nat.le_refl _)] at h9
    rw [hm] at hIX
    have HI := Lib.hid hIX
    have HL : Hid (lastR L q = L) := by
      have := lastR_none L q L.length (Nat.le_refl _) hall
      rw [List.take_length] at this
      exact this
    clear hIX hm h hp hall
    rw [HL.out]
    go_enter Tryz.func87, Tryz.ntmps87
    go_wp2_with fail
    refine HI.out.mono ?_
    rintro e w1 ⟨rfl, hb1⟩
    have HE : Hid (DelPostR base (.slice (some ⟨g, 0, none⟩) L.length cp) L w (.returned (.slice (some ⟨g, 0, none⟩) L.length cp)) w1) := ⟨_, rfl, own_keep HO.out hb1, gb_of_below hb1, rfl⟩
    clear hb1
    go_wp2_with fail
    go_ret
    exact HE.out
  have hm : Lib.idxBy (fun _ (y : ShortR) => q y.1) (shortR L hs) default = k := by
    have h9 := Lib.idxBy_hit (fun _ (y : ShortR) => q y.1) (shortR L hs) L.length k default hk (by rw [shortR_len]; exact Nat.le_refl _) (by show q ((shortR L hs)[k]!).1 = true; rw [shortR_at L hs k hk]; exact hkt) fun j hj => by
      show q ((shortR L hs)[j]!).1 = false
      rw [shortR_at L hs j (by omega)]; exact hkj j hj
    rwa [List.take_of_length_le (by rw [shortR_len]; exact Nat.le_refl _)] at h9
  rw [hm] at hIX
  have HI := Lib.hid hIX
  have HL0 : Hid (L.take k = lastR (L.take (k + 1)) q) := by
    have := lastR_none L q k (by omega) hkj
    show _ = _
    rw [lastR_step L q k hk, if_pos hkt, this, List.append_nil]
  have hne1 : ((k : Int) == -1) = false := beq_eq_false_iff_ne.2 (by omega)
  have hcp : L.length ≤ cp := (own_caps h).2
  clear hIX hm h hp hkt hkj
  go_enter Tryz.func87, Tryz.ntmps87
  go_wp2_with fail
  refine HI.out.mono ?_
  rintro e w1 ⟨rfl, hb1⟩
  have HB1 := Lib.hid hb1
  clear hb1 HI
  go_wp2_with fail
  go_loopw [5, 6] (fun si sj wr => ∃ (i j : Nat) (R : List Rate), si = .int .i64 i ∧ sj = .int .i64 j ∧ i < j ∧ j ≤ L.length ∧ Hid (R.length = L.length ∧ R.take i = lastR (L.take j) q ∧ ∀ z, j ≤ z → z < L.length → R.getD z noRate = L.getD z noRate) ∧ Hid (wr.ownsRow base 51 3 (.slice (some ⟨g, 0, none⟩) L.length cp) L.length ((R.map Rate.cells).flatten)) ∧ Hid (w.grownBy wr (some g))) (fun _ sj _ => L.length - (intOf sj).toNat)
  case atStart => exact ⟨k, k + 1, L, rfl, by go_num, by omega, by omega, ⟨rfl, HL0.out, fun _ _ _ => rfl⟩, own_keep HO.out HB1.out, gb_of_below HB1.out⟩
  case round =>
    clear HB1 HO HL0 hne1
    obtain ⟨i, j, R, rfl, rfl, hij, hjn, HR, HOW, HG⟩ := hrel
    have hRl := HR.out.1
    by_cases hlt : j < L.length
    case neg =>
      obtain rfl : j = L.length := by omega
      have hin : i ≤ L.length := by omega
      have hci : ¬ cp = i := by omega
      have hil : (i : Int) ≤ (L.length : Int) := by omega
      have hic : (i : Int) ≤ (cp : Int) := by omega
      have hcell : ∀ q, q < (L.length - i) * 3 → (wr.cell? ⟨g, i * 3 + q, none⟩).isSome = true := fun q hq => by
        rw [HOW.out.cellAt (i * 3 + q) (by omega)]
        have hf := flat_length Rate.cells 3 (fun _ => rfl) R
        rw [List.getElem?_eq_getElem (by rw [hf, hRl]; omega)]
        rfl
      obtain ⟨LZ, hcl⟩ := run_clear_any wr 26 51 (.agg #[.string ⟨#[]⟩, .int .i64 0, .bool false]) Tryz.underlying26 Tryz.zeroValue51 (by decide) (fun i => by
        match i with
        | 0 => rfl
        | 1 => rfl
        | 2 => rfl
        | i + 3 => rfl) g (i * 3) (L.length - i) (cp - i) (by omega) hcell (fun q _ => HOW.out.frozenAt _)
      have HE : Hid (DelPostR base (.slice (some ⟨g, 0, none⟩) L.length cp) (lastR L q) w (.returned (.slice (some ⟨g, 0, none⟩) i cp)) (wr.setCells g (i * 3) LZ)) := by
        obtain ⟨ys, hy1, hy2⟩ := own_above LZ wr _ (i * 3) (i * 3) HOW.out (Nat.le_refl _)
        have hy3 := own_cutK hy1 hin
        rw [hy2, flat_take Rate.cells 3 (fun _ => rfl) R i (by omega), HR.out.2.1, List.take_length] at hy3
        have hlen : (lastR L q).length = i := by
          have := congrArg List.length HR.out.2.1
          rw [List.length_take, List.take_length] at this
          omega
        refine ⟨_, rfl, ?_, gb_trans HG.out (setCells_gb g LZ (i * 3)), rfl⟩
        rw [hlen]
        exact hy3
      clear HOW HG HR hcell hRl
      as_aux_lemma =>
        go_wp2_with fail
        go_ret
        exact HE.out
    have hlti : (j : Int) < (L.length : Int) := by omega
    have hii : (i : Int) < (L.length : Int) := by omega
    have hi0 : (0 : Int) ≤ (i : Int) := by omega
    have wi : IntKind.i64.wrap ((i : Int) + 1) = (i : Int) + 1 := IntWalk.i64_in _ (by omega)
    have wj : IntKind.i64.wrap ((j : Int) + 1) = (j : Int) + 1 := IntWalk.i64_in _ (by omega)
    have c0 := own_field Rate.cells (fun _ => rfl) HOW.out j 0 noRate (by omega) (by omega) rfl
    have c1 := own_field Rate.cells (fun _ => rfl) HOW.out j 1 noRate (by omega) (by omega) rfl
    have c2 := own_field Rate.cells (fun _ => rfl) HOW.out j 2 noRate (by omega) (by omega) rfl
    rw [Nat.add_zero] at c0
    have HST := Lib.hid (lastR_step L q j hlt)
    have HGJ := Lib.hid (HR.out.2.2 j (Nat.le_refl _) hlt)
    rw [← HGJ.out] at HST
    have HGJ2 := HGJ
    clear HGJ
    have hgw : g < wr.heap.size := Nat.lt_of_lt_of_le hg1 HG.out.size
    have HRX : Hid (R.getD j noRate = R.getD j noRate) := rfl
    generalize hx : R.getD j noRate = x at c0 c1 c2 HST
    have HXX := Lib.hid hx
    clear hx HRX
    obtain ⟨xp, xq, xl⟩ := x
    simp only at c0 c1 c2 HST
    have hA : Below wr.heap.size wr (wr.alloc (.cells #[.string ⟨xp.toArray⟩, .int .i64 xq, .bool xl] 51)) := ext_alloc (Below.refl _ _)
    have HOA := Lib.hid (own_keep HOW.out hA)
    have HGA := Lib.hid (gb_below HG.out hA)
    have HVA : Hid (Blk (wr.alloc (.cells #[.string ⟨xp.toArray⟩, .int .i64 xq, .bool xl] 51)) wr.heap.size [.string ⟨xp.toArray⟩, .int .i64 xq, .bool xl] 51) := Blk.new wr [.string ⟨xp.toArray⟩, .int .i64 xq, .bool xl] 51
    have hgV : g ≠ wr.heap.size := by omega
    clear hA HOW HG
    as_aux_lemma =>
      go_upto_region 8 with (fail)
      generalize wr.alloc (.cells #[.string ⟨xp.toArray⟩, .int .i64 xq, .bool xl] 51) = w6 at HOA HGA HVA ⊢
      generalize wr.heap.size = V at HVA hgV ⊢
      clear c0 c1 c2 hgw
      have v0 := HVA.out.cell 0 rfl
      have v1 := HVA.out.cell 1 rfl
      have v2 := HVA.out.cell 2 rfl
      have hpl : xp.length ≤ 100 := by
        have h9 := hs (L.getD j noRate) (mem_getD _ hlt)
        rw [← HGJ2.out, HXX.out] at h9
        exact h9
      have HEN := Lib.hid (HP.out w6 (⟨xp, xq, xl⟩ : Rate) hpl HGA.out)
      by_cases hxt : q (⟨xp, xq, xl⟩ : Rate) = true
      · have HEN2 : Hid (Calls Tryz.prog f (#[.agg #[.string ⟨xp.toArray⟩, .int .i64 xq, .bool xl]] ++ lb) w6 fun e w' => e = .returned (.bool true) ∧ Below w6.heap.size w6 w') := by
          have := HEN.out
          rw [hxt] at this
          exact this
        have HS2 : Hid (lastR (L.take (j + 1)) q = lastR (L.take j) q) := by show _ = _; rw [HST.out, if_pos hxt, List.append_nil]
        clear HEN HST
        as_aux_lemma =>
          go_wp2_with fail
          refine HEN2.out.mono ?_
          rintro e w7 ⟨rfl, hb7⟩
          have HO7 := Lib.hid (own_keep HOA.out hb7)
          have HG7 := Lib.hid (gb_below HGA.out hb7)
          clear hb7 HEN2 v0 v1 v2
          go_wp2_with fail
          go_roundw
          case rel => exact ⟨i, j + 1, R, rfl, by go_num, by omega, by omega, ⟨hRl, by rw [HS2.out]; exact HR.out.2.1, fun z h1 h2 => HR.out.2.2 z (by omega) h2⟩, HO7.out, HG7.out⟩
          case measure => simp [intOf]; omega
      · have HEN2 : Hid (Calls Tryz.prog f (#[.agg #[.string ⟨xp.toArray⟩, .int .i64 xq, .bool xl]] ++ lb) w6 fun e w' => e = .returned (.bool false) ∧ Below w6.heap.size w6 w') := by
          have := HEN.out
          rw [Bool.not_eq_true _ |>.mp hxt] at this
          exact this
        have HS2 : Hid (lastR (L.take (j + 1)) q = lastR (L.take j) q ++ [(⟨xp, xq, xl⟩ : Rate)]) := by show _ = _; rw [HST.out, if_neg hxt]
        clear HEN HST
        as_aux_lemma =>
          go_wp2_with fail
          refine HEN2.out.mono ?_
          rintro e w7 ⟨rfl, hb7⟩
          have HO7 := Lib.hid (own_keep HOA.out hb7)
          have HG7 := Lib.hid (gb_below HGA.out hb7)
          have HV7 := Lib.hid (HVA.out.below hb7)
          have v0 := HV7.out.cell 0 rfl
          have v1 := HV7.out.cell 1 rfl
          have v2 := HV7.out.cell 2 rfl
          have d0 := own_field Rate.cells (fun _ => rfl) HO7.out i 0 noRate (by omega) (by omega) rfl
          have d1 := own_field Rate.cells (fun _ => rfl) HO7.out i 1 noRate (by omega) (by omega) rfl
          have d2 := own_field Rate.cells (fun _ => rfl) HO7.out i 2 noRate (by omega) (by omega) rfl
          rw [Nat.add_zero] at d0
          have q0 := HO7.out.frozenAt (i * 3)
          have q1 := HO7.out.frozenAt (i * 3 + 1)
          have q2 := HO7.out.frozenAt (i * 3 + 2)
          have HO8 := Lib.hid (own_put3 HO7.out i (by omega) xp xq xl)
          have HG8 := Lib.hid (gb_trans HG7.out (put3_gb w7 g i (.string ⟨xp.toArray⟩) (.int .i64 xq) (.bool xl)))
          clear hb7 HEN2 HO7 HG7 HV7 HOA HGA HVA 
          as_aux_lemma =>
            go_wp2_with fail
            go_roundw
            case rel =>
              refine ⟨i + 1, j + 1, R.set i (⟨xp, xq, xl⟩ : Rate), by go_num, by go_num, by omega, by omega, ⟨by simpa using hRl, ?_, fun z h1 h2 => ?_⟩, HO8.out, HG8.out⟩
              · rw [HS2.out, take_set_lenR R i _ (by omega), HR.out.2.1]
              · rw [← HR.out.2.2 z (by omega) h2]
                simp [List.getD_eq_getElem?_getD, List.getElem?_set_ne (show i ≠ z by omega)]
            case measure => simp [intOf]; omega
end Go.Proofs.YtacekbbndamkmaaGreatDoor

set_option linter.unusedVariables false
set_option linter.unusedSimpArgs false
namespace Go.Proofs.YtacekbbndamkmaaGreatDoor
open Go.RowKit

theorem rate_flat {w : World} {a : Option Addr} {n : Nat} {l : List Rate} (h : RateRow w a n l) (ad : Addr) (ha : a = some ad) : ∀ (j : Nat) (u : Value), ((l.map Rate.cells).flatten)[j]? = some u → w.cell? (ad.add j) = some u := fun j u hu => by
  have hlen := h.len
  have hfl : ((l.map Rate.cells).flatten).length = l.length * 3 := by
    have := flat_len2 (sz := 3) (cs := l.map Rate.cells) (fun c hc => by obtain ⟨y, _, rfl⟩ := List.mem_map.1 hc; rfl)
    simpa using this
  have hj : j < l.length * 3 := by
    obtain ⟨h1, -⟩ := List.getElem?_eq_some_iff.1 hu
    omega
  rcases h.cells.row with h0 | ⟨b, off, hb, hbl, hc⟩
  · omega
  · rw [ha] at hb
    injection hb with hb
    subst hb
    have h1 := hc (j / 3) (by omega) (j % 3) (by omega)
    have h2 := flat_at (sz := 3) (cs := l.map Rate.cells) (fun c hc => by obtain ⟨y, _, rfl⟩ := List.mem_map.1 hc; rfl) (j / 3) (by simp; omega) (j % 3) (by omega)
    rw [show j / 3 * 3 + j % 3 = j by omega] at h2
    rw [← h2, hu] at h1
    rw [show (⟨b, off, none⟩ : Addr).add j = ⟨b, off + j / 3 * 3 + j % 3, none⟩ by rw [show off + j / 3 * 3 + j % 3 = off + j by omega]; simp [Addr.add]]
    exact h1
theorem own_rate0 (w : World) (base : Nat) (hb : base ≤ w.heap.size) : (w.alloc (.cells #[] 51)).ownsRow base 51 3 (.slice (some ⟨w.heap.size, 0, none⟩) 0 0) 0 [] := World.ownsRow_lit w #[] 0 hb (by simp only [maxLen]; omega) rfl
def CloneRPost (n : Nat) (l : List Rate) (w : World) (e : Ending) (w' : World) : Prop := ∃ v', e = .returned v' ∧ w'.ownsRow w.heap.size 51 3 v' n ((l.map Rate.cells).flatten) ∧ Below w.heap.size w w'
set_option maxRecDepth 100000 in
set_option maxHeartbeats 2000000 in
theorem cloneR_any (w : World) (a : Option Addr) (n c : Nat) (l : List Rate) (h : RateRow w a n l) : Calls Tryz.prog 62 #[.slice a n c] w (CloneRPost n l w) := by
  obtain ⟨i0, hi, hz0, hz1, hz2⟩ := info_parts Tryz.infoRate
  have hl := h.len
  have hfew := h.few
  have q24 : ∀ (w : World) (a : Option Addr) (n c n' c' : Nat), (binOp .eql 26 (.slice a n c) (.slice none n' c')).run Tryz.prog w = .ok (.bool a.isNone) w := fun w a n c n' c' => Lib.run_eql_slice_nil w _ _ a n c n' c' Tryz.underlying26
  cases a with
  | none =>
    have h0 : n = 0 := by
      rcases h.cells.row with h0 | ⟨b, off, hb, -⟩
      · exact h0
      · cases hb
    have hx : l = [] := List.eq_nil_of_length_eq_zero (by omega)
    subst hx
    subst h0
    clear h hl
    go_enter Tryz.func62, Tryz.ntmps62
    go_wp2_with fail
    go_ret
    exact ⟨_, rfl, World.ownsRow_nil _ _ _ _, (by (try show Below _ _ _); repeat (with_reducible first | exact Below.refl _ _ | assumption | exact Hid.out (by assumption) | refine ext_alloc ?_ | refine ext_drewN ?_ | refine ext_drew ?_ | refine ext_setCell ?_ (Nat.le_refl _) | refine ext_setCell ?_ (Nat.le_succ _) | refine ext_trans ?_ (by assumption) | (refine ext_setCell ?_ (by simp)) | (refine ext_setCell ?_ (by simp at *; omega))))⟩
  | some ad =>
    have HLN : Hid (((l.map Rate.cells).flatten).length = n * 3) := by
      show _ = _
      have := flat_len2 (sz := 3) (cs := l.map Rate.cells) (fun c hc => by obtain ⟨y, _, rfl⟩ := List.mem_map.1 hc; rfl)
      rw [this, List.length_map, hl]
    have HCE : Hid (∀ (j : Nat) u, ((l.map Rate.cells).flatten)[j]? = some u → (w.alloc (.cells #[] 51)).cell? (ad.add j) = some u) := fun j u hu => by
      exact rate_flat (h.below (ext_alloc (Below.refl _ _))) ad rfl j u hu
    have HON : Hid (∀ u ∈ (l.map Rate.cells).flatten, u.oneCell' = true) := fun u hu => by
      obtain ⟨cs, h1, h2⟩ := List.mem_flatten.1 hu
      obtain ⟨y, -, rfl⟩ := List.mem_map.1 h1
      simp only [Rate.cells, List.mem_cons, List.not_mem_nil, or_false] at h2
      rcases h2 with rfl | rfl | rfl <;> rfl
    have HOA := Lib.hid (own_rate0 w w.heap.size (Nat.le_refl _))
    have HOK : Hid (∀ (v' : Value) (W : World), W.ownsRow w.heap.size 51 3 v' n ((l.map Rate.cells).flatten) → Below w.heap.size w W → CloneRPost n l w (.returned v') W) := fun v' W h1 h2 => ⟨v', rfl, h1, h2⟩
    generalize hPP : CloneRPost n l w = PP at HOK ⊢
    generalize (l.map Rate.cells).flatten = fl at HLN HCE HON HOK
    clear h hl hPP
    go_enter Tryz.func62, Tryz.ntmps62
    go_wp2_with (at_builtin; refine wpList_append_own_at _ rfl (.tmp 5) (.tmp 6) 26 rfl w.heap.size 51 i0 _ 3 32 Tryz.underlying26 hi hz0 hz1 hz2 rfl (by omega) _ 0 _ rfl HOA.out ad n c fl rfl HLN.out HCE.out HON.out (by simp only [maxLen]; omega) (by omega) (by simp) ?_; intro v6 w6 hown6 hgr6 _ _)
    have HO6 : Hid (w6.ownsRow w.heap.size 51 3 v6 n fl) := by
      show World.ownsRow _ _ _ _ _ _ _
      rw [Nat.zero_add, List.nil_append] at hown6
      exact hown6
    have HB6 : Hid (Below w.heap.size w w6) := upto_grown hgr6 (Nat.le_refl _) (fun b e => (HOA.out.lt b e).1)
    clear hown6 hgr6
    exact HOK.out _ _ HO6.out HB6.out
end Go.Proofs.YtacekbbndamkmaaGreatDoor

set_option linter.unusedVariables false
set_option linter.unusedSimpArgs false
namespace Go.Proofs.YtacekbbndamkmaaGreatDoor
open Go.RowKit

theorem rbox_far {w W : World} {G : Nat} (n : Nat) (hG : w.heap.size ≤ G) (h : Below w.heap.size w W) (u0 u1 u2 : Value) : Below w.heap.size w (((W.setCell ⟨G, 0, none⟩ u0).setCell ⟨G, 1, none⟩ u1).setCell ⟨G, 2, none⟩ u2) :=
  ((h.setCell (p := ⟨G, 0, none⟩) hG u0).setCell (p := ⟨G, 1, none⟩) hG u1).setCell (p := ⟨G, 2, none⟩) hG u2
theorem Blk.far3 {W : World} {B G : Nat} {cs : List Value} {ty : TypeId} (h : Blk W B cs ty) (hn : G ≠ B) (u0 u1 u2 : Value) : Blk (((W.setCell ⟨G, 0, none⟩ u0).setCell ⟨G, 1, none⟩ u1).setCell ⟨G, 2, none⟩ u2) B cs ty := ((h.far (p := ⟨G, 0, none⟩) hn).far (p := ⟨G, 1, none⟩) hn).far (p := ⟨G, 2, none⟩) hn
theorem Blk.put3 {W : World} {G : Nat} {a b c : Value} {ty : TypeId} (h : Blk W G [a, b, c] ty) (u0 u1 u2 : Value) : Blk (((W.setCell ⟨G, 0, none⟩ u0).setCell ⟨G, 1, none⟩ u1).setCell ⟨G, 2, none⟩ u2) G [u0, u1, u2] ty := ((h.put 0 u0).put 1 u1).put 2 u2
def rz : List Value := [.string ⟨#[]⟩, .int .i64 0, .bool false]
def rv (o : Option Rate) : List Value := [.string ⟨(o.getD noRate).p.toArray⟩, .int .i64 (o.getD noRate).price, .bool (o.getD noRate).closed]
set_option maxRecDepth 100000 in
set_option maxHeartbeats 8000000 in
theorem rateFor_any (w : World) (ra : Option Addr) (rn rc : Nat) (cs : List Rate) (s : List UInt8) (hr : RateRow w ra rn cs) (hs : s.length ≤ 1000) :
    Calls Tryz.prog 53 #[.slice ra rn rc, .string ⟨s.toArray⟩] w (RatePost (refTo cs s cs.length) w) := by
  have HR := Lib.hid hr
  have HLEN := Lib.hid hr.len
  have hfew := hr.few
  clear hr
  go_enter Tryz.func53, Tryz.ntmps53
  go_upto_region 2 with (fail)
  have HG0 : Hid (Blk ((w.alloc (.cells #[.string ⟨#[]⟩, .int .i64 0, .bool false] 51)).alloc (.cells #[.string ⟨#[]⟩, .int .i64 0, .bool false] 51)) w.heap.size rz 51) := (Blk.new w rz 51).alloc _
  have HY0 : Hid (Blk ((w.alloc (.cells #[.string ⟨#[]⟩, .int .i64 0, .bool false] 51)).alloc (.cells #[.string ⟨#[]⟩, .int .i64 0, .bool false] 51)) (w.heap.size + 1) (rv none) 51) := by
    have := Blk.new (w.alloc (.cells #[.string ⟨#[]⟩, .int .i64 0, .bool false] 51)) (rv none) 51
    show Blk _ _ _ _
    simpa [rv, noRate] using this
  have HB0 : Hid (Below w.heap.size w ((w.alloc (.cells #[.string ⟨#[]⟩, .int .i64 0, .bool false] 51)).alloc (.cells #[.string ⟨#[]⟩, .int .i64 0, .bool false] 51))) := ext_alloc (ext_alloc (Below.refl _ _))
  generalize World.alloc (World.alloc w _) _ = W0 at HG0 HY0 HB0 ⊢
  as_aux_lemma =>
    go_wp2_with fail
    go_loopw [7, 13] (fun v7 it wr => ∃ k : Nat, k ≤ rn ∧ it = .int .i64 k ∧ v7 = .bool (refTo cs s k).isSome ∧ Hid (Blk wr w.heap.size rz 51) ∧ Hid (Blk wr (w.heap.size + 1) (rv (refTo cs s k)) 51) ∧ Hid (Below w.heap.size w wr)) (fun _ it _ => rn - (intOf it).toNat)
    case atStart => exact ⟨0, Nat.zero_le _, rfl, rfl, HG0.out, HY0.out, HB0.out⟩
    case round =>
      clear HG0 HY0 HB0
      obtain ⟨k, hk, rfl, rfl, HG, HY, HB⟩ := hrel
      have y0 := HY.out.cell 0 rfl
      have y1 := HY.out.cell 1 rfl
      have y2 := HY.out.cell 2 rfl
      have yF := HY.out.fr
      by_cases hlt : k < rn
      case neg =>
        obtain rfl : k = rn := by omega
        have hge : ¬ (k : Int) < (k : Int) := by omega
        have g0 := HG.out.cell 0 rfl
        have g1 := HG.out.cell 1 rfl
        have g2 := HG.out.cell 2 rfl
        have gF := HG.out.fr
        have hle : k = cs.length := HLEN.out
        subst hle
        clear hlt
        as_aux_lemma =>
          go_wp2_with fail
          refine bodyPost_ret (v := .tuple #[.agg #[.string ⟨((refTo cs s cs.length).getD noRate).p.toArray⟩, .int .i64 ((refTo cs s cs.length).getD noRate).price, .bool ((refTo cs s cs.length).getD noRate).closed], .bool (refTo cs s cs.length).isSome]) (by simp [results, Tryz.results53, go_sem, g0, g1, g2]) rfl ⟨rbox_far 0 (Nat.le_refl _) HB.out _ _ _, rfl⟩
      have hlti : (k : Int) < (rn : Int) := by omega
      obtain ⟨b, off, rfl, hb, hc⟩ := (HR.out.below HB.out).at (by omega)
      obtain ⟨c0, c1, c2⟩ := hc k hlt
      have hw1 : w.heap.size + 1 < wr.heap.size := HY.out.lt
      have HE : Hid (refTo cs s (k + 1) = if Lib.hasPrefix s (cs.getD k noRate).p = true ∧ ((refTo cs s k).isSome = false ∨ ((refTo cs s k).getD noRate).p.length < (cs.getD k noRate).p.length) then some (cs.getD k noRate) else refTo cs s k) := rfl
      have hkl : (cs.getD k noRate).p.length ≤ 100 := (HR.out.each k (by rw [← HLEN.out]; exact hlt)).1
      clear hc
      generalize refTo cs s k = o at HE HY y0 y1 y2 ⊢
      generalize hcl : cs.getD k noRate = cl at c0 c1 c2 HE hkl
      obtain ⟨cp, cpr, ccl⟩ := cl
      simp only at c0 c1 c2 HE hkl
      clear hcl
      as_aux_lemma =>
        go_wp2_with fail
        refine (hasPre_c s cp _).mono ?_
        rintro e w' ⟨rfl, rfl⟩
        generalize Lib.hasPrefix s cp = g at HE ⊢
        have hA : Below wr.heap.size wr (wr.alloc (.cells #[.string ⟨cp.toArray⟩, .int .i64 cpr, .bool ccl] 51)) := ext_alloc (Below.refl _ _)
        have HGA := Lib.hid (HG.out.below hA)
        have HYA := Lib.hid (HY.out.below hA)
        have HBA := Lib.hid (ext_trans HB.out hA)
        have HXA : Hid (Blk (wr.alloc (.cells #[.string ⟨cp.toArray⟩, .int .i64 cpr, .bool ccl] 51)) wr.heap.size [.string ⟨cp.toArray⟩, .int .i64 cpr, .bool ccl] 51) := Blk.new wr [.string ⟨cp.toArray⟩, .int .i64 cpr, .bool ccl] 51
        generalize wr.alloc (.cells #[.string ⟨cp.toArray⟩, .int .i64 cpr, .bool ccl] 51) = wa at HGA HYA HBA HXA ⊢
        generalize wr.heap.size = X at HXA hw1 ⊢
        have x0 := HXA.out.cell 0 rfl
        have x1 := HXA.out.cell 1 rfl
        have x2 := HXA.out.cell 2 rfl
        have y0 := HYA.out.cell 0 rfl
        have y1 := HYA.out.cell 1 rfl
        have y2 := HYA.out.cell 2 rfl
        have yF := HYA.out.fr
        clear hA HG HY HB c0 c1 c2 HXA
        cases g with
        | false =>
          have HO2 : Hid (refTo cs s (k + 1) = o) := by show _ = _; rw [HE.out, if_neg (by simp)]
          clear HE
          as_aux_lemma =>
            go_wp2_with fail
            go_roundw
            case rel => exact ⟨k + 1, by omega, by go_num, by first | (rw [HO2.out]; done) | (rw [HO2.out]; rfl), HGA.out, by rw [HO2.out]; exact HYA.out, HBA.out⟩
            case measure => simp [intOf]; omega
        | true =>
          cases o with
          | none =>
            have HO2 : Hid (refTo cs s (k + 1) = some ⟨cp, cpr, ccl⟩) := by show _ = _; rw [HE.out, if_pos ⟨rfl, Or.inl rfl⟩]
            clear HE
            as_aux_lemma =>
              go_wp2_with fail
              go_roundw
              case rel => exact ⟨k + 1, by omega, by go_num, by first | (rw [HO2.out]; done) | (rw [HO2.out]; rfl), HGA.out.far3 (by omega) _ _ _, by rw [HO2.out]; exact HYA.out.put3 _ _ _, rbox_far 0 (by omega) HBA.out _ _ _⟩
              case measure => simp [intOf]; omega
          | some r =>
            obtain ⟨rp, rpr, rcl⟩ := r
            simp only [Option.getD_some, Option.isSome_some] at y0 y1 y2 HE ⊢
            by_cases hl : rp.length < cp.length
            · have HO2 : Hid (refTo cs s (k + 1) = some ⟨cp, cpr, ccl⟩) := by show _ = _; rw [HE.out, if_pos ⟨by trivial, Or.inr hl⟩]
              have hli : (rp.length : Int) < (cp.length : Int) := by omega
              clear HE hl
              as_aux_lemma =>
                go_wp2_with fail
                go_roundw
                case rel => exact ⟨k + 1, by omega, by go_num, by first | (rw [HO2.out]; done) | (rw [HO2.out]; rfl), HGA.out.far3 (by omega) _ _ _, by rw [HO2.out]; exact HYA.out.put3 _ _ _, rbox_far 0 (by omega) HBA.out _ _ _⟩
                case measure => simp [intOf]; omega
            · have HO2 : Hid (refTo cs s (k + 1) = some ⟨rp, rpr, rcl⟩) := by show _ = _; rw [HE.out, if_neg (fun h => hl (h.2.resolve_left (by simp)))]
              have hli : ¬ (rp.length : Int) < (cp.length : Int) := by omega
              clear HE hl
              as_aux_lemma =>
                go_wp2_with fail
                go_roundw
                case rel => exact ⟨k + 1, by omega, by go_num, by first | (rw [HO2.out]; done) | (rw [HO2.out]; rfl), HGA.out, by rw [HO2.out]; exact HYA.out, HBA.out⟩
                case measure => simp [intOf]; omega
end Go.Proofs.YtacekbbndamkmaaGreatDoor

