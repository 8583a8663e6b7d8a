/- What is proved here: what is read out of a form, as the reference reckons. Condition: the plan is right and lies in memory as stated; the home's country is in it. -/
import Derived.Test.YthajppcmmmkfcaaGreatDoorReadMath
import Derived.Test.YthajppcmmmkfcaaGreatDoorReachRef
set_option linter.unusedVariables false
set_option linter.unusedSimpArgs false
namespace Go.Proofs.YthajppcmmmkfcaaGreatDoor
open Go.RowKit

theorem own_sl {w : World} {base : Nat} {e : TypeId} {size : Nat} {v : Value} {n : Nat} {xs : List Value} (h : w.ownsRow base e size v n xs) : ∃ a c, v = .slice a n c := by
  rcases h.2 with ⟨rfl, rfl⟩ | ⟨g, cap, cur, rfl, _⟩
  · exact ⟨none, 0, rfl⟩
  · exact ⟨_, _, rfl⟩
theorem cells_snoc (o : List UInt8) (c : UInt8) : cellsB (o ++ [c]) = cellsB o ++ [.int .u8 c.toNat] := by simp [cellsB]

set_option maxRecDepth 100000 in
set_option maxHeartbeats 4000000 in
theorem formRead_any (w : World) (a : Option Addr) (n cap : Nat) (l : List Ctry) (hr : CtryRow w a n l) (hcap : n ≤ cap) (hne : 1 ≤ n) (hE : planErr l = 0) (c0 : Ctry) (code0 area s : List UInt8) (hfc : (l.find? fun c => c.code == code0) = some c0) (ha : area.length ≤ 100) (hs : s.length ≤ 1000) :
    Calls Tryz.prog 31 #[.slice a n cap, .agg #[.string ⟨code0.toArray⟩, .string ⟨area.toArray⟩], .string ⟨s.toArray⟩] w (StrPost (readP l c0 area s) w) := by
  have HR := Lib.hid hr
  have HDEF : Hid (readP l c0 area s = if 60 < s.length then ((2 : Int), ([] : List UInt8)) else match readB s [] with
    | none => (9, [])
    | some [] => (9, [])
    | some (x :: n) => if x = 43 then (if (splitP l (x :: n)).err ≠ 0 then ((splitP l (x :: n)).err, []) else (0, x :: n)) else if 30 < (x :: n).length then (2, []) else reachP l c0 area (x :: n)) := rfl
  generalize readP l c0 area s = R at HDEF ⊢
  have HE0 := Lib.hid hE
  have HFC := Lib.hid hfc
  obtain ⟨i0, hi, hz0, hz1, hz2⟩ := info_parts Tryz.infoByte
  clear hr hE hfc
  by_cases hbig : 60 < s.length
  · have HF : Hid (R = (2, [])) := by show _ = _; rw [HDEF.out, if_pos hbig]
    go_enter Tryz.func31, Tryz.ntmps31
    go_wp2_with fail
    go_ret2
    exact ⟨by rw [HF.out]; rfl, (by (try show Below _ _ _); repeat (with_reducible first | exact Below.refl _ _ | assumption | exact Hid.out (by assumption) | refine ext_alloc ?_ | refine ext_drewN ?_ | refine ext_drew ?_ | refine ext_setCell ?_ (Nat.le_refl _) | refine ext_setCell ?_ (Nat.le_succ _) | refine ext_trans ?_ (by assumption) | (refine ext_setCell ?_ (by simp)) | (refine ext_setCell ?_ (by simp at *; omega))))⟩
  · have HD2 : Hid (R = match readB s [] with
      | none => (9, [])
      | some [] => (9, [])
      | some (x :: n) => if x = 43 then (if (splitP l (x :: n)).err ≠ 0 then ((splitP l (x :: n)).err, []) else (0, x :: n)) else if 30 < (x :: n).length then (2, []) else reachP l c0 area (x :: n)) := by show _ = _; rw [HDEF.out, if_neg hbig]
    clear HDEF
    have hcv := run_bytes_of_string (P := Tryz.prog) (w.alloc (.cells #[.string ⟨code0.toArray⟩, .string ⟨area.toArray⟩] 29)) 9 108 5 ⟨s.toArray⟩ Tryz.underlying9 Tryz.underlying108 Tryz.underlying5
    go_enter Tryz.func31, Tryz.ntmps31
    go_wp2_with fail
    clear hcv
    have HB0 : Hid (Below w.heap.size w (w.alloc (.cells #[.string ⟨code0.toArray⟩, .string ⟨area.toArray⟩] 29))) := ext_alloc (Below.refl _ _)
    have he0 : (w.alloc (.cells #[.string ⟨code0.toArray⟩, .string ⟨area.toArray⟩] 29)).cell? ⟨w.heap.size, 0, none⟩ = some (.string ⟨code0.toArray⟩) := by go_simp
    have he1 : (w.alloc (.cells #[.string ⟨code0.toArray⟩, .string ⟨area.toArray⟩] 29)).cell? ⟨w.heap.size, 1, none⟩ = some (.string ⟨area.toArray⟩) := by go_simp
    have hzH : w.heap.size < (w.alloc (.cells #[.string ⟨code0.toArray⟩, .string ⟨area.toArray⟩] 29)).heap.size := by simp
    have HWS : Hid ((w.alloc (.cells #[.string ⟨code0.toArray⟩, .string ⟨area.toArray⟩] 29)).heap.size = w.heap.size + 1) := by show _ = _; simp
    generalize World.alloc w _ = W1 at HB0 he0 he1 hzH HWS ⊢
    have HE01 := Lib.hid (And.intro he0 he1)
    have HZH := Lib.hid hzH
    clear he0 he1 hzH
    go_loopw [8, 21] (fun v i wr => ∃ (k : Nat) (o : List UInt8), k ≤ s.length ∧ i = .int .i64 k ∧ o.length ≤ k ∧ Hid (readB (s.drop k) o = readB s []) ∧ Hid (wr.ownsRow (w.heap.size + 1 + 1) 5 1 v o.length (cellsB o)) ∧ Hid (∀ j, j < s.length → wr.cell? ⟨w.heap.size + 1, j, none⟩ = some (.int .u8 (s.getD j 0).toNat)) ∧ Hid (Below W1.heap.size W1 wr) ∧ Hid (w.heap.size + 1 + 1 ≤ wr.heap.size)) (fun _ i _ => s.length - (intOf i).toNat)
    case atStart =>
      refine ⟨0, [], by omega, rfl, Nat.le_refl _, rfl, World.ownsRow_nil _ _ _ _, fun j hj => ?_, (by (try show Below _ _ _); repeat (with_reducible first | exact Below.refl _ _ | assumption | exact Hid.out (by assumption) | refine ext_alloc ?_ | refine ext_drewN ?_ | refine ext_drew ?_ | refine ext_setCell ?_ (Nat.le_refl _) | refine ext_setCell ?_ (Nat.le_succ _) | refine ext_trans ?_ (by assumption) | (refine ext_setCell ?_ (by simp)) | (refine ext_setCell ?_ (by simp at *; omega)))), by show _ ≤ _; have := HWS.out; simp; omega⟩
      have := bytesRow_at ⟨s.toArray⟩ (grownCap W1 s.length 0 5) j (by simpa using hj)
      go_simp
      rw [← HWS.out, new_cell, this]
      simp [hj]
    case round =>
      obtain ⟨k, o, hk, rfl, hol, HG, HO, HC, HB, HZ⟩ := hrel
      by_cases hlt : k < s.length
      · have c1 := HC.out k hlt
        generalize hc : s.getD k 0 = c at c1
        have HDA := Lib.hid (drop_at hlt hc)
        clear hc
        have HKEY := Lib.hid (fun w => keyOf_any c w)
        have HSEP := Lib.hid (fun w => sep_l c w)
        have hz1' := HZ.out
        have hrow := fun b e => (HO.out.lt b e).1
        have hfin : Hid (∀ (w6 : World) (v6 : Value) (x : UInt8) (w' : World) (ob : Obj), w' = wr → (wr.alloc ob).grownBy w6 v6.ownBlock → True) := fun _ _ _ _ _ _ _ => trivial
        go_wp2_with fail
        refine (HKEY.out _).mono ?_
        rintro e w' ⟨rfl, rfl⟩
        have HQ : Hid (∀ q, (keyB c).toNat = q → (keyB c).toNat = q) := fun q h => h
        generalize hq : (keyB c).toNat = q
        have HQE := Lib.hid (HQ.out q hq)
        clear hq HQ
        by_cases h0 : q = 0
        · subst h0
          have hk0 : keyB c = 0 := UInt8.toNat_inj.1 (by simpa using HQE.out)
          have HK0 := Lib.hid hk0
          clear hk0
          obtain ⟨av, cv, rfl⟩ := own_sl HO.out
          have HBADR : Hid (¬ (c = 43 ∧ o = []) → sepB c = false → R = (9, [])) := fun h1 h2 => by
            rw [HD2.out, ← HG.out, HDA.out, read_bad HK0.out h1 h2]
          by_cases hp : c = 43
          · have hsp : sepB c = false := by rw [hp]; decide
            subst hp
            by_cases ho : o = []
            · subst ho
              have HOA := Lib.hid (HO.out.alloc (.cells #[.int .u8 43] 5))
              as_aux_lemma =>
                go_wp2_with (at_builtin; refine wpList_append_own _ rfl (.tmp 42) (.tmp 44) 108 rfl (w.heap.size + 1 + 1) 5 i0 (.int .u8 0) 1 1 Tryz.underlying108 hi hz0 hz1 hz2 rfl (by decide) _ 0 _ rfl HOA.out ⟨w'.heap.size, 0, none⟩ 1 1 [.int .u8 43] rfl rfl (news_one (by go_simp)) (by simp [Value.oneCell']) (by simp only [maxLen]; omega) (by omega) (by simp; omega) ?_; intro v6 w6 hown6 hgr6 _)
                have HO7 : Hid (w6.ownsRow (w.heap.size + 1 + 1) 5 1 v6 [(43 : UInt8)].length (cellsB [43])) := hown6
                have hup : Below (w.heap.size + 1 + 1) w' w6 := upto_grown hgr6 (by omega) hrow
                have HB7 : Hid (Below W1.heap.size W1 w6) := HB.out.trans (hup.mono (by have := HWS.out; omega))
                have HC7 : Hid (∀ j, j < s.length → w6.cell? ⟨w.heap.size + 1, j, none⟩ = some (.int .u8 (s.getD j 0).toNat)) := fun j hj => (hup.cell (p := ⟨w.heap.size + 1, j, none⟩) (by simp)).trans (HC.out j hj)
                have HZ7 : Hid (w.heap.size + 1 + 1 ≤ w6.heap.size) := Nat.le_trans hz1' hup.size
                have HG7 : Hid (readB (s.drop (k + 1)) [43] = readB s []) := by
                  show _ = _
                  rw [← HG.out, HDA.out, read_plus]
                clear hown6 hgr6 hup
                go_roundw
                case rel => exact ⟨k + 1, [43], by omega, by go_num, by simp, HG7, HO7, HC7, HB7, HZ7⟩
                case measure => simp [intOf]; omega
            · have HF : Hid (R = (9, [])) := HBADR.out (fun h => ho h.2) hsp
              have hol0 : 0 < o.length := List.length_pos_iff.2 ho
              have hne0 : ((o.length : Int) == 0) = false := by simp; omega
              as_aux_lemma =>
                go_wp2_with fail
                refine (HSEP.out _).mono ?_
                rintro e w'' ⟨r, rfl, hr1, hr2, rfl⟩
                have hrn := hr2 hsp
                clear hr1 hr2
                go_wp2_with fail
                go_ret2
                exact ⟨by rw [HF.out]; rfl, ext_trans HB0.out HB.out⟩
          · have hc43 : ((c.toNat : Int) == 43) = false := by
              simp only [beq_eq_false_iff_ne, ne_eq]
              intro h
              exact hp (UInt8.toNat_inj.1 (by show c.toNat = 43; omega))
            have HP := Lib.hid hp
            clear hp
            as_aux_lemma =>
              go_wp2_with fail
              refine (HSEP.out _).mono ?_
              rintro e w'' ⟨r, rfl, hr1, hr2, rfl⟩
              cases hsp : sepB c
              · have HF : Hid (R = (9, [])) := HBADR.out (fun h => HP.out h.1) hsp
                have hrn := hr2 hsp
                clear hr1 hr2 hsp
                go_wp2_with fail
                go_ret2
                exact ⟨by rw [HF.out]; rfl, ext_trans HB0.out HB.out⟩
              · have hrn := hr1 hsp
                have HG7 : Hid (readB (s.drop (k + 1)) o = readB s []) := by
                  show _ = _
                  rw [← HG.out, HDA.out, read_sep hsp]
                clear hr1 hr2 hsp
                go_wp2_with fail
                go_roundw
                case rel => exact ⟨k + 1, o, by omega, by go_num, by omega, HG7, HO, HC, HB, HZ⟩
                case measure => simp [intOf]; omega
        · have hne : ((q : Int) == 0) = false := by simp; omega
          have HOA := Lib.hid (HO.out.alloc (.cells #[.int .u8 q] 5))
          go_wp2_with (at_builtin; refine wpList_append_own _ rfl (.tmp 30) (.tmp 32) 108 rfl (w.heap.size + 1 + 1) 5 i0 (.int .u8 0) 1 1 Tryz.underlying108 hi hz0 hz1 hz2 rfl (by decide) _ o.length _ rfl HOA.out ⟨w'.heap.size, 0, none⟩ 1 1 [.int .u8 q] rfl rfl (news_one (by go_simp)) (by simp [Value.oneCell']) (by simp only [maxLen]; omega) (by omega) (by simp; omega) ?_; intro v6 w6 hown6 hgr6 _)
          have HO7 : Hid (w6.ownsRow (w.heap.size + 1 + 1) 5 1 v6 (o ++ [keyB c]).length (cellsB (o ++ [keyB c]))) := by
            show World.ownsRow _ _ _ _ _ _ _
            rw [cells_snoc, HQE.out, List.length_append]
            exact hown6
          have hup : Below (w.heap.size + 1 + 1) w' w6 := upto_grown hgr6 (by omega) hrow
          have HB7 : Hid (Below W1.heap.size W1 w6) := HB.out.trans (hup.mono (by have := HWS.out; omega))
          have HC7 : Hid (∀ j, j < s.length → w6.cell? ⟨w.heap.size + 1, j, none⟩ = some (.int .u8 (s.getD j 0).toNat)) := fun j hj => (hup.cell (p := ⟨w.heap.size + 1, j, none⟩) (by simp)).trans (HC.out j hj)
          have HZ7 : Hid (w.heap.size + 1 + 1 ≤ w6.heap.size) := Nat.le_trans hz1' hup.size
          have HG7 : Hid (readB (s.drop (k + 1)) (o ++ [keyB c]) = readB s []) := by
            show _ = _
            rw [← HG.out, HDA.out, read_key (fun h9 => h0 (by rw [← HQE.out, h9]; rfl))]
          clear hown6 hgr6 hup
          go_roundw
          case rel => exact ⟨k + 1, _, by omega, by go_num, by simp; omega, HG7, HO7, HC7, HB7, HZ7⟩
          case measure => simp [intOf]; omega
      · obtain rfl : k = s.length := by omega
        have hro : readB s [] = some o := by rw [← HG.out, List.drop_length]; rfl
        have hlen : o.length ≤ 60 := by omega
        have HBW : Hid (Below w.heap.size w wr) := ext_trans HB0.out HB.out
        have HE2 : Hid (wr.cell? ⟨w.heap.size, 0, none⟩ = some (.string ⟨code0.toArray⟩) ∧ wr.cell? ⟨w.heap.size, 1, none⟩ = some (.string ⟨area.toArray⟩)) := ⟨(HB.out.cell (p := ⟨w.heap.size, 0, none⟩) HZH.out).trans HE01.out.1, (HB.out.cell (p := ⟨w.heap.size, 1, none⟩) HZH.out).trans HE01.out.2⟩
        have HD3 : Hid (R = match (some o : Option (List UInt8)) with
          | none => (9, [])
          | some [] => (9, [])
          | some (x :: n) => if x = 43 then (if (splitP l (x :: n)).err ≠ 0 then ((splitP l (x :: n)).err, []) else (0, x :: n)) else if 30 < (x :: n).length then (2, []) else reachP l c0 area (x :: n)) := by show _ = _; rw [HD2.out, hro]
        have HO2 := HO.out
        have hcvx : ∃ av cv, u8 = Value.slice av o.length cv ∧ (convert 108 9 (.slice av o.length cv)).run Tryz.prog wr = .ok (.string ⟨o.toArray⟩) wr := by
          rcases HO2.2 with ⟨rfl, h0⟩ | ⟨g, cv, cur, rfl, _⟩
          · have hy : o = [] := List.eq_nil_of_length_eq_zero h0
            subst hy
            exact ⟨none, 0, rfl, run_convert_bytes_nil (P := Tryz.prog) wr 108 5 Tryz.underlying108 Tryz.underlying5 0 0 9 Tryz.underlying9⟩
          · exact ⟨_, _, rfl, str_back wr g cv o (fun j hj => by
              rw [HO2.cellAt j (by omega), cellsB, List.getElem?_map, List.getElem?_eq_getElem hj]; rfl)⟩
        obtain ⟨av, cv, rfl, hcv2⟩ := hcvx
        clear HO2 hro HD2 HG HO HC HZ
        cases o with
        | nil =>
          simp only [List.length_nil] at hcv2
          have HF : Hid (R = (9, [])) := HD3.out
          as_aux_lemma =>
            go_wp2_with fail
            go_ret2
            exact ⟨by rw [HF.out]; rfl, HBW.out⟩
        | cons x m =>
          have hcv3 := hcv2
          simp only [List.length_cons] at hcv2
          by_cases hx : x = 43
          · subst hx
            have HF : Hid (R = if (splitP l (43 :: m)).err ≠ 0 then ((splitP l (43 :: m)).err, []) else (0, 43 :: m)) := HD3.out
            have hsl : (43 :: m).length ≤ 1000 := by omega
            as_aux_lemma =>
              go_wp2_with fail
              refine (splitOf_any _ a n cap l (HR.out.below HBW.out) hcap (43 :: m) hsl).mono ?_
              rintro e w5 ⟨rfl, hb5⟩
              have HB5 : Hid (Below w.heap.size w w5) := ext_trans HBW.out hb5
              clear hb5
              rw [split_same _ HE0.out]
              generalize splitP l (43 :: m) = X at HF
              obtain ⟨er, x1, x2, x3⟩ := X
              simp only at HF ⊢
              by_cases he : er = 0
              · subst he
                have HF2 : Hid (R = (0, 43 :: m)) := HF.out
                go_wp2_with fail
                go_ret2
                exact ⟨by rw [HF2.out]; rfl, ext_alloc HB5.out⟩
              · have HF2 : Hid (R = (er, [])) := by show _ = _; rw [HF.out, if_pos he]
                go_wp2_with fail
                go_ret2
                exact ⟨by rw [HF2.out]; rfl, ext_alloc HB5.out⟩
          · have HD4 : Hid (R = if 30 < (x :: m).length then (2, []) else reachP l c0 area (x :: m)) := by show _ = _; rw [HD3.out]; simp only; rw [if_neg hx]
            have hx43 : ((x.toNat : Int) == 43) = false := by
              simp only [beq_eq_false_iff_ne, ne_eq]
              intro h
              exact hx (UInt8.toNat_inj.1 (by show x.toNat = 43; omega))
            have hxn : ¬ (x.toNat = 43) := fun h => hx (UInt8.toNat_inj.1 (by simpa using h))
            have hxi : ¬ ((x.toNat : Int) = 43) := by omega
            have hxb : (x == 43) = false := by simpa using hx
            have hx0 : ((((⟨(x :: m).toArray⟩ : ByteArray)[0]'(by show 0 < m.length + 1; omega)).toNat : Int) == 43) = false := hx43
            clear HD3 hxn hxi hxb hx43
            by_cases h30 : 30 < (x :: m).length
            · have HF : Hid (R = (2, [])) := by show _ = _; rw [HD4.out, if_pos h30]
              have h31 : 30 < m.length + 1 := h30
              as_aux_lemma =>
                go_wp2_with fail
                go_ret2
                exact ⟨by rw [HF.out]; rfl, HBW.out⟩
            · have HF : Hid (R = reachP l c0 area (x :: m)) := by show _ = _; rw [HD4.out, if_neg h30]
              have h31 : ¬ (30 < m.length + 1) := h30
              have hsl : (x :: m).length ≤ 1000 := by omega
              obtain ⟨q0, q1⟩ := HE2.out
              have hz9 : w.heap.size < wr.heap.size := Nat.lt_of_lt_of_le HZH.out HB.out.size
              clear hcv3 HE2
              as_aux_lemma =>
                go_wp2_with fail
                refine (reachedFrom_any _ a n cap l (HR.out.below HBW.out) hcap hne HE0.out c0 code0 area (x :: m) HFC.out ha hsl).mono ?_
                rintro e w5 ⟨rfl, hb5⟩
                have HB5 : Hid (Below w.heap.size w w5) := ext_trans HBW.out hb5
                clear hb5
                rw [← HF.out]
                go_wp2_with fail
                go_ret2
                exact ⟨rfl, HB5.out⟩
end Go.Proofs.YthajppcmmmkfcaaGreatDoor
