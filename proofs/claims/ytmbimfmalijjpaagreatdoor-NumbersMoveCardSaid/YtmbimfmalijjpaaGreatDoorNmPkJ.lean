/- What is proved here: lemmas and contracts for the statement, put together out of smaller texts (PortRef, OrN, EqualW, LawMove). No condition beyond those stated. -/
import Derived.Test.YtmbimfmalijjpaaGreatDoorNmPkH
import Derived.Test.YtmbimfmalijjpaaGreatDoorNmPkB
import Derived.Test.YtmbimfmalijjpaaGreatDoorNmPkI
set_option linter.unusedVariables false
set_option linter.unusedSimpArgs false
namespace Go.Proofs.YtmbimfmalijjpaaGreatDoor
open Go.RowKit

set_option maxRecDepth 100000 in
set_option maxHeartbeats 2000000 in
theorem carrierOf_any (w : World) (a : Option Addr) (m cap : Nat) (os : List Own) (ho : OwnRow w a m os) (hcap : m ≤ cap) (a2 : Option Addr) (m2 cap2 : Nat) (ps : List Prt) (hp : PrtRow w a2 m2 ps) (hcap2 : m2 ≤ cap2) (n : List UInt8) (t : Int) :
    Calls Tryz.prog 16 #[.slice a m cap, .slice a2 m2 cap2, .string ⟨n.toArray⟩, .int .i64 t] w fun e w' => e = .returned (.string ⟨((carV os ps n t).getD []).toArray⟩) ∧ Below w.heap.size w w' := by
  have HO := Lib.hid ho
  have HP := Lib.hid hp
  have hfew := hp.few
  have HEND : Hid (carTo os ps n t m2 = carV os ps n t) := by show _ = _; rw [hp.len]; rfl
  have H0 : Hid (ownC os n = carTo os ps n t 0) := rfl
  have HSU := Lib.hid (carTo_succ os ps n t)
  clear ho hp
  go_enter Tryz.func16, Tryz.ntmps16
  go_wp2_with fail
  refine (ownerOf_any _ a m cap os HO.out hcap n).mono ?_
  rintro e w1 ⟨rfl, hb1⟩
  have HB1 := Lib.hid hb1
  clear hb1
  rw [H0.out]
  as_aux_lemma =>
    go_wp2_with fail
    go_loopw [9, 17] (fun vo it wr => ∃ k : Nat, k ≤ m2 ∧ vo = .string ⟨((carTo os ps n t k).getD []).toArray⟩ ∧ it = .int .i64 k ∧ Hid (Below w.heap.size w wr)) (fun _ it _ => m2 - (intOf it).toNat)
    case atStart => exact ⟨0, Nat.zero_le _, rfl, rfl, HB1.out⟩
    case round =>
      obtain ⟨k, hk, rfl, rfl, HB⟩ := hrel
      by_cases hlt : k < m2
      · obtain ⟨b, off, rfl, hb, hc⟩ := HP.out.at (by omega)
        obtain ⟨g0, g1, g2⟩ := hc k hlt
        have c0 := (HB.out.cell (p := ⟨b, off + k * 3, none⟩) hb).trans g0
        have c1 := (HB.out.cell (p := ⟨b, off + k * 3 + 1, none⟩) hb).trans g1
        have c2 := (HB.out.cell (p := ⟨b, off + k * 3 + 2, none⟩) hb).trans g2
        have HS := Lib.hid (HSU.out k)
        have HEX : Hid (∀ o, Below w.heap.size w (wr.alloc o)) := fun o => ext_alloc HB.out
        clear g0 g1 g2 hc HSU H0 HB1
        generalize ps.getD k noPrt = p at c0 c1 c2 HS
        obtain ⟨pn, pa, pc⟩ := p
        simp only at c0 c1 c2 HS
        by_cases h1 : pn = n
        · subst h1
          by_cases h2 : pa ≤ t
          · have HS2 : Hid (carTo os ps pn t (k + 1) = some pc) := by show _ = _; rw [HS.out, if_pos ⟨rfl, h2⟩]
            clear HS
            generalize carTo os ps pn t k = R
            as_aux_lemma =>
              go_wp2_with fail
              go_roundw
              case rel => exact ⟨k + 1, by omega, by rw [HS2.out]; rfl, by go_num, HEX.out _⟩
              case measure => simp [intOf]; omega
          · have HS2 : Hid (carTo os ps pn t (k + 1) = carTo os ps pn t k) := by show _ = _; rw [HS.out, if_neg (fun h => h2 h.2)]
            clear HS
            generalize hR : carTo os ps pn t k = R at HS2
            have HRR := Lib.hid hR
            clear hR
            as_aux_lemma =>
              go_wp2_with fail
              go_roundw
              case rel => exact ⟨k + 1, by omega, by rw [HS2.out], by go_num, HEX.out _⟩
              case measure => simp [intOf]; omega
        · have h1b : (pn == n) = false := beq_eq_false_iff_ne.2 h1
          have HS2 : Hid (carTo os ps n t (k + 1) = carTo os ps n t k) := by show _ = _; rw [HS.out, if_neg (fun h => h1 h.1)]
          clear HS h1
          generalize hR : carTo os ps n t k = R at HS2
          have HRR := Lib.hid hR
          clear hR
          as_aux_lemma =>
            go_wp2_with fail
            go_roundw
            case rel => exact ⟨k + 1, by omega, by rw [HS2.out], by go_num, HEX.out _⟩
            case measure => simp [intOf]; omega
      · obtain rfl : k = m2 := by omega
        rw [HEND.out]
        go_wp2_with fail
        go_ret
        exact ⟨rfl, HB.out⟩

set_option maxRecDepth 100000 in
set_option maxHeartbeats 4000000 in
theorem movedTo_any (w : World) (a : Option Addr) (m cap : Nat) (os : List Own) (ho : OwnRow w a m os) (hcap : m ≤ cap) (a2 : Option Addr) (m2 cap2 : Nat) (ps : List Prt) (hp : PrtRow w a2 m2 ps) (hcap2 : m2 ≤ cap2) (c : List UInt8) (t : Int) :
    Calls Tryz.prog 19 #[.slice a m cap, .slice a2 m2 cap2, .string ⟨c.toArray⟩, .int .i64 t] w (OncePost (onceL (movR os ps c t ps.length)) w) := by
  obtain ⟨i0, hi, hz0, hz1, hz2⟩ := info_parts Tryz.infoStr
  have HO := Lib.hid ho
  have HP := Lib.hid hp
  have hfew := hp.few
  have HLEN := Lib.hid hp.len
  have HSU := Lib.hid (movR_succ os ps c t)
  have HLN : Hid (∀ k, (movR os ps c t k).length ≤ k) := fun k => fm_len _ k
  clear ho hp
  go_enter Tryz.func19, Tryz.ntmps19
  go_wp2_with fail
  go_loopw [9, 14] (fun vo it wr => ∃ k : Nat, k ≤ m2 ∧ it = .int .i64 k ∧ Hid (wr.ownsRow w.heap.size 9 1 vo (movR os ps c t k).length ((movR os ps c t k).map encS)) ∧ Hid (Below w.heap.size w wr)) (fun _ it _ => m2 - (intOf it).toNat)
  case atStart => exact ⟨0, Nat.zero_le _, rfl, World.ownsRow_nil _ _ _ _, Below.refl _ _⟩
  case round =>
    obtain ⟨k, hk, rfl, HOW, HB⟩ := hrel
    by_cases hlt : k < m2
    · obtain ⟨b, off, rfl, hb, hc⟩ := HP.out.at (by omega)
      obtain ⟨g0, g1, g2⟩ := hc k hlt
      have c0 := (HB.out.cell (p := ⟨b, off + k * 3, none⟩) hb).trans g0
      have c1 := (HB.out.cell (p := ⟨b, off + k * 3 + 1, none⟩) hb).trans g1
      have c2 := (HB.out.cell (p := ⟨b, off + k * 3 + 2, none⟩) hb).trans g2
      have hln := HLN.out k
      have HS := Lib.hid (HSU.out k)
      have HM1 : Hid (movR1 os ps c t k = if (ps.getD k noPrt).at_ ≤ t ∧ (carV os ps (ps.getD k noPrt).n t).getD [] = c ∧ (ownC os (ps.getD k noPrt).n).getD [] ≠ c then some (ps.getD k noPrt).n else none) := rfl
      clear g0 g1 g2 hc HSU HLN
      generalize ps.getD k noPrt = p at c0 c1 c2 HM1
      obtain ⟨pn, pa, pc⟩ := p
      simp only at c0 c1 c2 HM1
      generalize movR1 os ps c t k = M at HS HM1
      generalize movR os ps c t k = out at HS HOW hln
      by_cases h2 : pa ≤ t
      · skip
        as_aux_lemma =>
          go_wp2_with fail
          refine (carrierOf_any _ a m cap os (HO.out.below (ext_alloc HB.out)) hcap (some ⟨b, off, none⟩) m2 cap2 ps (HP.out.below (ext_alloc HB.out)) hcap2 pn t).mono ?_
          rintro e w2 ⟨rfl, hb2⟩
          obtain ⟨qc, qf⟩ := bcell hb2
          have hz2' : wr.heap.size < w2.heap.size := by have := hb2.size; simp at this; omega
          have e0 : w2.cell? ⟨wr.heap.size, 0, none⟩ = some (.string ⟨pn.toArray⟩) := (qc _ 0 (by simp)).trans (by go_simp)
          have HB2 : Hid (Below w.heap.size w w2) := ext_trans (ext_alloc HB.out) hb2
          have HO2 := Lib.hid (own_keep (HOW.out.alloc (.cells #[.string ⟨pn.toArray⟩, .int .i64 pa, .string ⟨pc.toArray⟩] 76)) hb2)
          have HT : Hid (w.heap.size ≤ wr.heap.size) := HB.out.size
          clear qc qf hb2 c0 c1 c2 HOW
          generalize wr.heap.size = T at e0 hz2' HT ⊢
          generalize (carV os ps pn t).getD [] = C1 at HM1 ⊢
          by_cases h3 : C1 = c
          · subst h3
            as_aux_lemma =>
              go_wp2_with fail
              refine (ownerOf_any _ a m cap os (HO.out.below HB2.out) hcap pn).mono ?_
              rintro e w3 ⟨rfl, hb3⟩
              have e1 := (hb3.cell (p := ⟨T, 0, none⟩) hz2').trans e0
              have HB3 := Lib.hid (ext_trans HB2.out hb3)
              have HO3 := Lib.hid (own_keep HO2.out hb3)
              have hz3' : T < w3.heap.size := Nat.lt_of_lt_of_le hz2' hb3.size
              clear hb3 e0 HO2 hz2'
              generalize (ownC os pn).getD [] = C2 at HM1 ⊢
              by_cases h4 : C2 = C1
              · subst h4
                have HS2 : Hid (movR os ps C2 t (k + 1) = out) := by show _ = _; rw [HS.out, HM1.out, if_neg (fun h => h.2.2 rfl)]; simp
                clear HS HM1
                as_aux_lemma =>
                  go_wp2_with fail
                  go_roundw
                  case rel => exact ⟨k + 1, by omega, by go_num, by show World.ownsRow _ _ _ _ _ _ _; rw [HS2.out]; exact HO3.out, HB3.out⟩
                  case measure => simp [intOf]; omega
              · have h4b : (C2 == C1) = false := beq_eq_false_iff_ne.2 h4
                have HS2 : Hid (movR os ps C1 t (k + 1) = out ++ [pn]) := by show _ = _; rw [HS.out, HM1.out, if_pos (by exact ⟨h2, by first | rfl | trivial, h4⟩)]; rfl
                have HOA := Lib.hid (HO3.out.alloc (.cells #[.string ⟨pn.toArray⟩] 9))
                clear HS HM1 h4
                as_aux_lemma =>
                  go_wp2_with (at_builtin; refine wpList_append_own _ rfl (.tmp 40) (.tmp 43) 36 rfl w.heap.size 9 i0 (.string ⟨#[]⟩) 1 16 Tryz.underlying36 hi hz0 hz1 hz2 rfl (by decide) _ out.length _ rfl HOA.out ⟨w3.heap.size, 0, none⟩ 1 1 [.string ⟨pn.toArray⟩] rfl rfl (news_one (by go_simp)) (by simp [Value.oneCell']) (by simp only [maxLen]; omega) (by omega) (by have := HB3.out.size; simp; omega) ?_; intro v6 w6 hown6 hgr6 _)
                  have hup : Below w.heap.size w3 w6 := upto_grown hgr6 HB3.out.size (fun b e => (HO3.out.lt b e).1)
                  have HB6 := Lib.hid (HB3.out.trans hup)
                  have HO6 : Hid (w6.ownsRow w.heap.size 9 1 v6 (out ++ [pn]).length ((out ++ [pn]).map encS)) := by
                    show World.ownsRow _ _ _ _ _ _ _
                    rw [show (out ++ [pn]).map encS = out.map encS ++ [.string ⟨pn.toArray⟩] by simp [encS], List.length_append]
                    exact hown6
                  clear hown6 hgr6 hup
                  go_roundw
                  case rel => exact ⟨k + 1, by omega, by go_num, by show World.ownsRow _ _ _ _ _ _ _; rw [HS2.out]; exact HO6.out, HB6.out⟩
                  case measure => simp [intOf]; omega
          · have h3b : (C1 == c) = false := beq_eq_false_iff_ne.2 h3
            have HS2 : Hid (movR os ps c t (k + 1) = out) := by show _ = _; rw [HS.out, HM1.out, if_neg (fun h => h3 h.2.1)]; simp
            clear HS HM1 h3
            as_aux_lemma =>
              go_wp2_with fail
              go_roundw
              case rel => exact ⟨k + 1, by omega, by go_num, by show World.ownsRow _ _ _ _ _ _ _; rw [HS2.out]; exact HO2.out, HB2.out⟩
              case measure => simp [intOf]; omega
      · have HS2 : Hid (movR os ps c t (k + 1) = out) := by show _ = _; rw [HS.out, HM1.out, if_neg (fun h => h2 h.1)]; simp
        have HOA := Lib.hid (HOW.out.alloc (.cells #[.string ⟨pn.toArray⟩, .int .i64 pa, .string ⟨pc.toArray⟩] 76))
        have HEX : Hid (∀ o, Below w.heap.size w (wr.alloc o)) := fun o => ext_alloc HB.out
        clear HS HM1
        as_aux_lemma =>
          go_wp2_with fail
          go_roundw
          case rel => exact ⟨k + 1, by omega, by go_num, by show World.ownsRow _ _ _ _ _ _ _; rw [HS2.out]; exact HOA.out, HEX.out _⟩
          case measure => simp [intOf]; omega
    · obtain rfl : k = m2 := by omega
      have hln := HLN.out k
      have HKL : Hid (movR os ps c t k = movR os ps c t ps.length) := by show _ = _; rw [← HLEN.out]
      rw [HKL.out] at HOW hln
      generalize hout : movR os ps c t ps.length = out at HOW hln
      have HOUT := Lib.hid hout
      clear hout
      as_aux_lemma =>
        go_wp2_with fail
        refine (once_any HOW.out (by omega)).mono ?_
        rintro e w5 ⟨v5, rfl, ho5, hb5⟩
        have HO5 := Lib.hid ho5
        have HB5 := Lib.hid (ext_trans HB.out hb5)
        have hwz := HB.out.size
        clear ho5 hb5
        go_wp2_with fail
        go_ret
        exact ⟨_, rfl, by rw [HOUT.out]; exact own_le HO5.out hwz, HB5.out⟩
end Go.Proofs.YtmbimfmalijjpaaGreatDoor

set_option linter.unusedVariables false
set_option linter.unusedSimpArgs false
namespace Go.Proofs.YtmbimfmalijjpaaGreatDoor
open Go.RowKit

/-- The first one that is not 0; 0 where there is none. -/
def firstL : List Int → Int
  | [] => 0
  | a :: l => if a ≠ 0 then a else firstL l
theorem firstL_at : ∀ (l : List Int) (k : Nat), k < l.length → firstL (l.drop k) = if l.getD k 0 ≠ 0 then l.getD k 0 else firstL (l.drop (k + 1))
  | [], k, h => by simp at h
  | a :: l, 0, _ => rfl
  | a :: l, k + 1, h => firstL_at l k (by simpa using h)
set_option maxRecDepth 100000 in
theorem orN_any (l : List Int) (B n : Nat) (hn : n = l.length) (hl : n ≤ 1000) (w : World) (hB : B < w.heap.size) (hc : ∀ i, i < n → w.cell? ⟨B, i, none⟩ = some (.int .i64 (l.getD i 0))) : Calls Tryz.prog 12 #[.slice (some ⟨B, 0, none⟩) n n] w fun r w' => r = .returned (.int .i64 (firstL l)) ∧ w = w' := by
  have HC := Lib.hid hc
  have HF : Hid (∀ k, k < n → firstL (l.drop k) = if l.getD k 0 ≠ 0 then l.getD k 0 else firstL (l.drop (k + 1))) := fun k hk => firstL_at l k (by omega)
  have HZ : Hid (firstL (l.drop n) = 0) := by show _ = _; rw [hn, List.drop_length]; rfl
  have HS : Hid (firstL l = firstL (l.drop 0)) := rfl
  clear hc hn
  generalize firstL l = R at HS ⊢
  go_enter Tryz.func12, Tryz.ntmps12
  go_wp2_with fail
  go_loopw [8] (fun i wr => ∃ k : Nat, k ≤ n ∧ i = .int .i64 k ∧ Hid (R = firstL (l.drop k)) ∧ Hid (w = wr)) (fun i _ => n - (intOf i).toNat)
  case atStart => exact ⟨0, by omega, rfl, HS.out, rfl⟩
  case round =>
    obtain ⟨k, hk, rfl, HD, HW⟩ := hrel
    obtain rfl : w = wr := HW.out
    by_cases hlt : k < n
    · have c0 := HC.out k hlt
      have HFk := Lib.hid (HF.out k hlt)
      generalize l.getD k 0 = x at c0 HFk
      by_cases hx : x = 0
      · subst hx
        go_wp2_with fail
        go_roundw
        case rel => exact ⟨k + 1, by omega, by go_num, by show _ = _; rw [HD.out, HFk.out, if_neg (by simp)], (by first | exact rfl | exact True.intro)⟩
        case measure => simp [intOf]; omega
      · have hxb : (x == 0) = false := by simpa using hx
        have HE : Hid (R = x) := by show _ = _; rw [HD.out, HFk.out, if_pos hx]
        go_wp2_with fail
        go_ret
        exact ⟨by rw [HE.out]; rfl, rfl⟩
    · obtain rfl : k = n := by omega
      have HE : Hid (R = 0) := by show _ = _; rw [HD.out, HZ.out]
      go_wp2_with fail
      go_ret
      exact ⟨by rw [HE.out]; rfl, rfl⟩
theorem first3 (a b c : Int) : firstL [a, b, c] = firstE a (firstE b c) := by
  unfold firstL firstL firstL firstL firstE
  split <;> first | rfl | (split <;> first | rfl | (split <;> first | rfl | omega))
theorem or3_any (a b c : Int) (B : Nat) (w : World) (hB : B < w.heap.size) (h0 : w.cell? ⟨B, 0, none⟩ = some (.int .i64 a)) (h1 : w.cell? ⟨B, 1, none⟩ = some (.int .i64 b)) (h2 : w.cell? ⟨B, 2, none⟩ = some (.int .i64 c)) : Calls Tryz.prog 12 #[.slice (some ⟨B, 0, none⟩) 3 3] w fun r w' => r = .returned (.int .i64 (firstE a (firstE b c))) ∧ w = w' := by
  rw [← first3]
  exact orN_any [a, b, c] B 3 rfl (by decide) w hB (fun i hi => by match i, hi with | 0, _ => exact h0 | 1, _ => exact h1 | 2, _ => exact h2)
end Go.Proofs.YtmbimfmalijjpaaGreatDoor

set_option linter.unusedVariables false
set_option linter.unusedSimpArgs false
namespace Go.Proofs.YtmbimfmalijjpaaGreatDoor
open Go.RowKit

theorem equal_none (w : World) (a a2 : Option Addr) (c c2 : Nat) : Calls Tryz.prog 18 #[.slice a 0 c, .slice a2 0 c2] w fun e w' => e = .returned (.bool true) ∧ Below w.heap.size w w' := by
  go_enter Tryz.func18, Tryz.ntmps18
  go_wp2_with fail
  go_loopw [13] (fun i wr => i = .int .i64 0 ∧ Hid (Below w.heap.size w wr)) (fun _ _ => 0)
  case atStart => exact ⟨rfl, (by (try show Below _ _ _); repeat (with_reducible first | exact Below.refl _ _ | assumption | exact Hid.out (by assumption) | refine ext_alloc ?_ | refine ext_drewN ?_ | refine ext_drew ?_ | refine ext_setCell ?_ (Nat.le_refl _) | refine ext_setCell ?_ (Nat.le_succ _) | refine ext_trans ?_ (by assumption) | (refine ext_setCell ?_ (by simp)) | (refine ext_setCell ?_ (by simp at *; omega))))⟩
  case round =>
    obtain ⟨rfl, HB⟩ := hrel
    go_wp2_with fail
    go_ret
    exact ⟨rfl, (by (try show Below _ _ _); repeat (with_reducible first | exact Below.refl _ _ | assumption | exact Hid.out (by assumption) | refine ext_alloc ?_ | refine ext_drewN ?_ | refine ext_drew ?_ | refine ext_setCell ?_ (Nat.le_refl _) | refine ext_setCell ?_ (Nat.le_succ _) | refine ext_trans ?_ (by assumption) | (refine ext_setCell ?_ (by simp)) | (refine ext_setCell ?_ (by simp at *; omega))))⟩
theorem equal_words {w : World} {base base2 : Nat} {v v2 : Value} {n n2 : Nat} {xs ys : List (List UInt8)} (h : w.ownsRow base 9 1 v n (xs.map encS)) (h2 : w.ownsRow base2 9 1 v2 n2 (ys.map encS)) (he : xs = ys) (hn : n ≤ 100000) :
    Calls Tryz.prog 18 #[v, v2] w fun e w' => e = .returned (.bool true) ∧ Below w.heap.size w w' := by
  subst he
  have hl : xs.length = n := by have := h.1; simpa using this
  have hl2 : xs.length = n2 := by have := h2.1; simpa using this
  subst hl
  subst hl2
  by_cases h0 : xs.length = 0
  · obtain ⟨a, c, rfl⟩ := own_shape h
    obtain ⟨a2, c2, rfl⟩ := own_shape h2
    rw [h0]
    exact equal_none w a a2 c c2
  · obtain ⟨m, hm⟩ : ∃ m, xs.length = m + 1 := ⟨xs.length - 1, by omega⟩
    rw [hm] at h h2 hn
    obtain ⟨g, c, rfl, _, _⟩ := own_row1 h
    obtain ⟨g2, c2, rfl, _, _⟩ := own_row1 h2
    refine (Tryz.slices_eqS g 0 (m + 1) c g2 0 (m + 1) c2 (xs.map fun x => ⟨x.toArray⟩) (xs.map fun x => ⟨x.toArray⟩) w (by simp; omega) (by simp; omega) (by omega) (by omega) (fun j hj => ?_) (fun j hj => ?_)).mono ?_
    · have hj' : j < xs.length := by simpa using hj
      rw [Nat.zero_add, h.cellAt j (by omega)]
      simp [encS, hj']
    · have hj' : j < xs.length := by simpa using hj
      rw [Nat.zero_add, h2.cellAt j (by omega)]
      simp [encS, hj']
    · rintro e w' ⟨rfl, q, rfl⟩
      exact ⟨by simp, ext_drewN (Below.refl _ _)⟩
end Go.Proofs.YtmbimfmalijjpaaGreatDoor

set_option linter.unusedVariables false
set_option linter.unusedSimpArgs false
namespace Go.Proofs.YtmbimfmalijjpaaGreatDoor
open Go.RowKit

theorem bs_move6 (e : Operand → Value) (he : ∀ v, e (.const v) = v) (o : Oper) (w : World) (p0 p1 p2 p3 p4 p5 : ByteArray) (ho : o.op = .buildSlice 36 6 #[(0, .const (.string p0)), (1, .const (.string p1)), (2, .const (.string p2)), (3, .const (.string p3)), (4, .const (.string p4)), (5, .const (.string p5))]) :
   (execOp e o).run Tryz.prog w = .ok (.value (.slice (some ⟨w.heap.size, 0, none⟩) 6 6)) (w.alloc (.cells #[.string p0, .string p1, .string p2, .string p3, .string p4, .string p5] 9)) := by
  unfold execOp
  rw [ho]
  simp only [List.map_toArray, List.map_cons, List.map_nil, he]
  kernel_rfl
theorem carE_same (os : List Own) (ps : List Prt) (n : List UInt8) (t : Int) : carE os ps n t = firstE (portsErr os ps) (firstE (if isNumB n = true then 0 else 3) (if isMomB t = true then 0 else 1)) := by
  unfold carE firstE
  generalize portsErr os ps = F
  cases isNumB n <;> cases isMomB t <;> simp
theorem movE_same (os : List Own) (ps : List Prt) (n : List UInt8) (t : Int) : movE os ps n t = firstE (portsErr os ps) (firstE (if isKeyB n = true then 0 else 5) (if isMomB t = true then 0 else 1)) := by
  unfold movE firstE
  generalize portsErr os ps = F
  cases isKeyB n <;> cases isMomB t <;> simp
theorem key_some {l : List UInt8} (h : isKeyB l = true) : l ≠ [] := by
  rintro rfl
  simp [isKeyB] at h
theorem carV_key {os : List Own} {ps : List Prt} (h : portsErr os ps = 0) {n : List UInt8} {t : Int} {c : List UInt8} (hc : carV os ps n t = some c) : c ≠ [] := by
  obtain ⟨-, ho, -, hp⟩ := ports_parts h
  unfold carV carTo at hc
  rcases last_found ps n t ps.length with ⟨h1, -⟩ | ⟨i, hi, h1, -⟩
  · rw [h1] at hc
    unfold ownC at hc
    obtain ⟨o, hf, rfl⟩ := Option.map_eq_some_iff.1 hc
    obtain ⟨i, hi, rfl⟩ := List.getElem_of_mem (List.mem_of_find?_eq_some hf)
    have h2 := ho i hi
    unfold ownErr at h2
    rw [List.getD_eq_getElem?_getD, List.getElem?_eq_getElem hi] at h2
    simp only [Option.getD_some] at h2
    split at h2
    · cases h2
    · rename_i h3
      exact key_some (by simpa using h3)
  · rw [h1] at hc
    simp only [Option.some.injEq] at hc
    subst hc
    exact key_some (port_parts (hp i hi)).2.2.1
theorem carX_is (os : List Own) (ps : List Prt) (n : List UInt8) (t : Int) : ((carX os ps n t).isSome = true ∧ (carX os ps n t).getD [] ≠ []) ∨ ((carX os ps n t).isSome = false ∧ (carX os ps n t).getD [] = []) := by
  unfold carX
  split
  · rename_i h
    have h0 : portsErr os ps = 0 := by
      unfold carE at h
      split at h
      · rename_i h1; exact absurd h h1
      · rename_i h1; exact Classical.not_not.1 h1
    cases hc : carV os ps n t with
    | none => exact Or.inr ⟨rfl, rfl⟩
    | some c => exact Or.inl ⟨rfl, carV_key h0 hc⟩
  · exact Or.inr ⟨rfl, rfl⟩
theorem carX_want {os : List Own} {ps : List Prt} {n : List UInt8} {t : Int} (h : carE os ps n t = 0) : (carV os ps n t).getD [] = (carX os ps n t).getD [] := by
  unfold carX; rw [if_pos h]
theorem carX_no {os : List Own} {ps : List Prt} {n : List UInt8} {t : Int} (h : carE os ps n t ≠ 0) : (carX os ps n t).getD [] = [] := by
  unfold carX; rw [if_neg h]; rfl
theorem movE_parts {os : List Own} {ps : List Prt} {c : List UInt8} {t : Int} (h : movE os ps c t = 0) : c ≠ [] ∧ ∀ i, i < ps.length → portErr ps i = 0 := by
  unfold movE at h
  split at h
  · rename_i h1; exact absurd h h1
  · rename_i h1
    split at h
    · cases h
    · rename_i h2
      exact ⟨key_some (by simpa using h2), (ports_parts (Classical.not_not.1 h1)).2.2.2⟩
theorem movP_len (os : List Own) (ps : List Prt) (c : List UInt8) (t : Int) : (movP os ps c t ps.length).length ≤ ps.length := fm_len _ _

set_option maxRecDepth 100000 in
set_option maxHeartbeats 4000000 in
theorem move_true (w : World) (a0 : Option Addr) (len cap : Nat) (zs : List Int) (hr : ArgRow w a0 len cap zs) (hT : TabW w.heap.size w) :
    Calls Tryz.prog 3 #[.slice a0 len cap] w fun e w' => e = .returned (.bool true) ∧ Below w.heap.size w w' := by
  have HS0 := Lib.hid (stream_start hr)
  have HT0 : Hid (TabW w.heap.size (w.alloc (.cells #[.slice a0 len cap, .int .i64 0] 25))) := tab_below hT (ext_alloc (Below.refl _ _)) (Nat.le_refl _)
  clear hr hT
  go_enter Tryz.func3, Tryz.ntmps3
  go_wp2_with fail
  refine (ports_any w.heap.size 0 _ HS0.out (by omega) HT0.out).mono ?_
  rintro e w1 ⟨vo, os, vp, ps, rfl, ho, hp, hol, hpl, hos, hps, hst1, hk1⟩
  have hsz : w.heap.size < (w.alloc (.cells #[.slice a0 len cap, .int .i64 0] 25)).heap.size := by simp
  obtain ⟨a, ca, rfl, hca, -⟩ := own_row ho (Keeps.refl w.heap.size w1) hsz (by omega) hos
  obtain ⟨b, cb, rfl, hcb, -⟩ := prt_row hp (Keeps.refl w.heap.size w1) hsz (by omega) hps
  have HRO : Hid (∀ W, Keeps w.heap.size w1 W → OwnRow W a os.length os) := fun W hW => by
    obtain ⟨a9, c9, e9, -, h9⟩ := own_row ho hW hsz (by omega) hos
    injection e9 with e1 e2 e3
    subst e1
    exact h9
  have HRP : Hid (∀ W, Keeps w.heap.size w1 W → PrtRow W b ps.length ps) := fun W hW => by
    obtain ⟨a9, c9, e9, -, h9⟩ := prt_row hp hW hsz (by omega) hps
    injection e9 with e1 e2 e3
    subst e1
    exact h9
  have HS1 := Lib.hid hst1
  have HK1 := Lib.hid hk1
  clear hst1 hk1 ho hp hsz HS0 HT0 hos hps
  as_aux_lemma =>
    go_wp2_with (first | (refine wpList_val rfl (bs_move6 _ (fun _ => rfl) _ _ _ _ _ _ _ _ rfl) ?_))
    refine (some_lit w.heap.size 100 [[43, 49, 48, 48, 48], [43, 49, 48, 48, 49], [43, 49, 57, 57, 48], [43, 49, 57, 57, 57, 53], [43, 51, 48, 48, 48], [120]] (fun s => s.length ≤ 100) _ _ _ HS1.out (by omega) rfl rfl (by decide) (by decide) (by decide)).mono ?_
    rintro e w2 ⟨n, rfl, hn, hst2, hk2⟩
    have HS2 := Lib.hid hst2
    have HK2 := Lib.hid hk2
    have hn : n.length ≤ 100 := hn
    clear hst2 hk2 HS1
    as_aux_lemma =>
      go_wp2_with fail
      refine (instant_any w.heap.size 101 _ HS2.out (by omega)).mono ?_
      rintro e w3 ⟨t, rfl, -, hst3, hk3⟩
      have HS3 := Lib.hid hst3
      have HK3 := Lib.hid (HK2.out.trans hk3)
      clear hst3 hk3 HS2 HK2
      as_aux_lemma =>
        go_wp2_with (first | (refine wpList_val rfl (bs_ports4 _ (fun _ => rfl) _ _ _ _ _ _ rfl) ?_))
        refine (some_lit w.heap.size (101 + 4) [[120, 97], [120, 98], [120, 100], [65]] (fun s => s.length ≤ 100) _ _ _ HS3.out (by omega) rfl rfl (by decide) (by decide) (by decide)).mono ?_
        rintro e w4 ⟨c, rfl, hc, hst4, hk4⟩
        have HK4 := Lib.hid (HK3.out.trans hk4)
        have hc : c.length ≤ 100 := hc
        have HR4 : Hid (∀ W, Below w4.heap.size w4 W → OwnRow W a os.length os ∧ PrtRow W b ps.length ps) := fun W hW => ⟨HRO.out W (HK4.out.trans (Keeps.of_below hW)), HRP.out W (HK4.out.trans (Keeps.of_below hW))⟩
        have HEND : Hid (∀ W, Below w4.heap.size w4 W → Below w.heap.size w W) := fun W hW => law_end (HK1.out.trans (HK4.out.trans (Keeps.of_below hW)))
        clear hst4 hk4 HS3 HK3 HK4 HK1 HRO HRP
        have HPF := Lib.hid (fun W (h : Below w4.heap.size w4 W) => portsFault_any W a os.length ca os (HR4.out W h).1 hca b ps.length cb ps (HR4.out W h).2 hcb)
        have HCP := Lib.hid (fun W (h : Below w4.heap.size w4 W) => checkPorts_any W a os.length ca os (HR4.out W h).1 hca b ps.length cb ps (HR4.out W h).2 hcb)
        have HCA := Lib.hid (fun W (h : Below w4.heap.size w4 W) => carrierAt_any W a os.length ca os (HR4.out W h).1 hca b ps.length cb ps (HR4.out W h).2 hcb n hn t)
        have HMV := Lib.hid (fun W (h : Below w4.heap.size w4 W) => moved_any W a os.length ca os (HR4.out W h).1 hca b ps.length cb ps (HR4.out W h).2 hcb c (by omega) t)
        have HCO := Lib.hid (fun W (h : Below w4.heap.size w4 W) => carrierOf_any W a os.length ca os (HR4.out W h).1 hca b ps.length cb ps (HR4.out W h).2 hcb n t)
        have HMT := Lib.hid (fun W (h : Below w4.heap.size w4 W) => movedTo_any W a os.length ca os (HR4.out W h).1 hca b ps.length cb ps (HR4.out W h).2 hcb c t)
        have HE1 := Lib.hid (carE_same os ps n t)
        have HE2 := Lib.hid (movE_same os ps c t)
        have HXI := Lib.hid (carX_is os ps n t)
        have HXW := Lib.hid (@carX_want os ps n t)
        have HXN := Lib.hid (@carX_no os ps n t)
        have HMS : Hid (movE os ps c t = 0 → movP os ps c t ps.length = onceL (movR os ps c t ps.length)) := fun h => moved_same (movE_parts h).1 (movE_parts h).2
        have HML : Hid ((movP os ps c t ps.length).length ≤ 20) := Nat.le_trans (movP_len os ps c t) (by omega)
        have HFN := Lib.hid (fun W => formFault_any n W (by omega))
        have HFT := Lib.hid (fun W => momentFault_any t W)
        have HFK := Lib.hid (fun W => keyFault_any c W (by omega))
        clear HR4
        unfold CarPost at HCA
        unfold MovPost at HMV
        generalize (if isNumB n = true then (0 : Int) else 3) = fn at HFN HE1
        generalize (if isMomB t = true then (0 : Int) else 1) = ft at HFT HE1 HE2
        generalize (if isKeyB c = true then (0 : Int) else 5) = fk at HFK HE2
        generalize portsErr os ps = F at HPF HCP HE1 HE2
        generalize carE os ps n t = E1 at HCA HE1 HXW HXN
        generalize movE os ps c t = E2 at HMV HE2 HMS
        generalize (carX os ps n t).isSome = I at HCA HXI
        generalize (carX os ps n t).getD [] = X at HCA HXI HXW HXN
        generalize (carV os ps n t).getD [] = Y at HCO HXW
        generalize movP os ps c t ps.length = P1 at HMV HMS HML
        generalize onceL (movR os ps c t ps.length) = P2 at HMT HMS
        generalize os.length = m1 at hol hca HPF HCP HCA HMV HCO HMT ⊢
        generalize ps.length = m2 at hpl hcb HPF HCP HCA HMV HCO HMT ⊢
        as_aux_lemma =>
          go_wp2_with fail
          refine (HPF.out _ (Below.refl _ _)).mono ?_
          rintro e w5 ⟨rfl, hb5⟩
          have HB5 := Lib.hid hb5
          clear hb5 HPF
          as_aux_lemma =>
            go_wp2_with fail
            refine (HCP.out _ HB5.out).mono ?_
            rintro e w6 ⟨rfl, hb6⟩
            have HB6 := Lib.hid (ext_trans HB5.out hb6)
            clear hb6 HCP HB5
            as_aux_lemma =>
              go_wp2_with fail
              refine (HCA.out _ HB6.out).mono ?_
              rintro e w7 ⟨rfl, hb7⟩
              have HB7 := Lib.hid (ext_trans HB6.out hb7)
              clear hb7 HCA HB6
              as_aux_lemma =>
                go_wp2_with fail
                refine (HMV.out _ HB7.out).mono ?_
                rintro e w8 ⟨v8, ys, rfl, ho8, hb8, hy8⟩
                have HB8 := Lib.hid (ext_trans HB7.out hb8)
                have HO8 := Lib.hid ho8
                have HY := Lib.hid hy8
                clear ho8 hb8 hy8 HMV HB7
                as_aux_lemma =>
                  go_wp2_with fail
                  refine (HFN.out _).mono ?_
                  rintro e w9 ⟨rfl, hb9⟩
                  have HB9 := Lib.hid (ext_trans HB8.out hb9)
                  have HO9 := Lib.hid (own_keep HO8.out hb9)
                  clear hb9 HFN HB8 HO8
                  as_aux_lemma =>
                    go_wp2_with fail
                    refine (HFT.out _).mono ?_
                    rintro e w10 ⟨rfl, hb10⟩
                    have HB10 := Lib.hid (ext_trans HB9.out hb10)
                    have HO10 := Lib.hid (own_keep HO9.out hb10)
                    clear hb10 HB9 HO9
                    as_aux_lemma =>
                      go_wp2_with fail
                      refine (or3_any F fn ft w10.heap.size _ (by simp) (by go_simp) (by go_simp) (by go_simp)).mono ?_
                      rintro e w11 ⟨rfl, rfl⟩
                      rw [← HE1.out]
                      have HB11 := Lib.hid (ext_alloc HB10.out (o := .cells #[.int .i64 F, .int .i64 fn, .int .i64 ft] 32))
                      have HO11 := Lib.hid (HO10.out.alloc (.cells #[.int .i64 F, .int .i64 fn, .int .i64 ft] 32))
                      generalize World.alloc w10 _ = w11 at HB11 HO11 ⊢
                      clear HB10 HO10 HE1
                      as_aux_lemma =>
                        go_wp2_with fail
                        refine (HFK.out _).mono ?_
                        rintro e w12 ⟨rfl, hb12⟩
                        have HB12 := Lib.hid (ext_trans HB11.out hb12)
                        have HO12 := Lib.hid (own_keep HO11.out hb12)
                        clear hb12 HFK HB11 HO11
                        as_aux_lemma =>
                          go_wp2_with fail
                          refine (HFT.out _).mono ?_
                          rintro e w13 ⟨rfl, hb13⟩
                          have HB13 := Lib.hid (ext_trans HB12.out hb13)
                          have HO13 := Lib.hid (own_keep HO12.out hb13)
                          clear hb13 HB12 HO12 HFT
                          as_aux_lemma =>
                            go_wp2_with fail
                            refine (or3_any F fk ft w13.heap.size _ (by simp) (by go_simp) (by go_simp) (by go_simp)).mono ?_
                            rintro e w14 ⟨rfl, rfl⟩
                            rw [← HE2.out]
                            have HB14 := Lib.hid (ext_alloc HB13.out (o := .cells #[.int .i64 F, .int .i64 fk, .int .i64 ft] 32))
                            have HO14 := Lib.hid (HO13.out.alloc (.cells #[.int .i64 F, .int .i64 fk, .int .i64 ft] 32))
                            generalize World.alloc w13 _ = w14 at HB14 HO14 ⊢
                            clear HB13 HO13 HE2
                            as_aux_lemma =>
                              go_upto_if 74 with (fail)
                              go_cut [17] (fun v wx => v = .string ⟨X.toArray⟩ ∧ Hid (Below w14.heap.size w14 wx))
                              case first =>
                                by_cases h1 : E1 = 0
                                · have HW := Lib.hid (HXW.out h1)
                                  subst h1
                                  as_aux_lemma =>
                                    go_wp2_with fail
                                    refine (HCO.out _ HB14.out).mono ?_
                                    rintro e w15 ⟨rfl, hb15⟩
                                    rw [HW.out]
                                    have HB15 := Lib.hid hb15
                                    clear hb15
                                    go_wp2_with fail
                                    go_meet
                                    exact ⟨rfl, HB15.out⟩
                                · have HN := Lib.hid (HXN.out h1)
                                  as_aux_lemma =>
                                    go_wp2_with fail
                                    go_meet
                                    refine ⟨?_, Below.refl _ _⟩
                                    rw [HN.out]
                              case rest =>
                                obtain ⟨rfl, hbc⟩ := hcut
                                have HBC := Lib.hid (ext_trans HB14.out hbc.out)
                                have HOC := Lib.hid (own_keep HO14.out hbc.out)
                                clear hbc HB14 HO14 HCO HXW HXN
                                obtain ⟨x, rfl⟩ : ∃ x : World, x = wc := ⟨_, rfl⟩
                                have HXJ := HXI.out
                                clear HXI
                                have HREST : Hid (Calls Tryz.prog 17 #[] x fun e w' => e = .returned (.bool true) ∧ Below x.heap.size x w') := numbered_any x
                                obtain ⟨a3, c3, rfl⟩ := own_shape HOC.out
                                rcases HXJ with ⟨rfl, hx⟩ | ⟨rfl, rfl⟩
                                · obtain ⟨x0, xs, rfl⟩ := List.exists_cons_of_ne_nil hx
                                  clear hx
                                  skip
                                  as_aux_lemma =>
                                    by_cases h2 : E2 = 0
                                    · have HPQ := Lib.hid (HMS.out h2)
                                      obtain rfl : ys = P1 := by
                                        rcases HY.out with ⟨h3, -⟩ | ⟨-, h3⟩
                                        · exact absurd h2 h3
                                        · exact h3
                                      subst h2
                                      clear HY HMS HREST
                                      generalize hny : ys.length = ny at HOC HML ⊢
                                      have HNY := Lib.hid hny
                                      have hml : ny ≤ 20 := HML.out
                                      clear hny HML
                                      as_aux_lemma =>
                                        go_wp2_with fail
                                        refine (HMT.out _ HBC.out).mono ?_
                                        rintro e w16 ⟨v16, rfl, ho16, hb16⟩
                                        have HB16 := Lib.hid (ext_trans HBC.out hb16)
                                        have HO16 := Lib.hid (own_keep HOC.out hb16)
                                        have HO17 := Lib.hid ho16
                                        clear ho16 hb16 HMT HBC HOC
                                        as_aux_lemma =>
                                          go_wp2_with fail
                                          refine (equal_words (n := ny) HO16.out HO17.out HPQ.out (by omega)).mono ?_
                                          rintro e w17 ⟨rfl, hb17⟩
                                          have HB17 := Lib.hid (ext_trans HB16.out hb17)
                                          clear hb17 HB16 HO16 HO17
                                          as_aux_lemma =>
                                            go_wp2_with fail
                                            refine (numbered_any _).mono ?_
                                            rintro e w18 ⟨rfl, hb18⟩
                                            have HFIN := Lib.hid (HEND.out _ (ext_trans HB17.out hb18))
                                            clear hb18 HB17
                                            go_wp2_with fail
                                            go_ret
                                            exact ⟨rfl, HFIN.out⟩
                                    · obtain rfl : ys = [] := by
                                        rcases HY.out with ⟨-, h3⟩ | ⟨h3, -⟩
                                        · exact h3
                                        · exact absurd h3 h2
                                      have hx0 : ([] : List (List UInt8)).length = 0 := rfl
                                      clear HY HMS HMT HML
                                      as_aux_lemma =>
                                        go_wp2_with fail
                                        refine (numbered_any _).mono ?_
                                        rintro e w17 ⟨rfl, hb17⟩
                                        have HFIN := Lib.hid (HEND.out _ (ext_trans HBC.out hb17))
                                        clear hb17 HBC
                                        go_wp2_with fail
                                        go_ret
                                        exact ⟨rfl, HFIN.out⟩
                                · skip
                                  as_aux_lemma =>
                                    by_cases h2 : E2 = 0
                                    · have HPQ := Lib.hid (HMS.out h2)
                                      obtain rfl : ys = P1 := by
                                        rcases HY.out with ⟨h3, -⟩ | ⟨-, h3⟩
                                        · exact absurd h2 h3
                                        · exact h3
                                      subst h2
                                      clear HY HMS HREST
                                      generalize hny : ys.length = ny at HOC HML ⊢
                                      have HNY := Lib.hid hny
                                      have hml : ny ≤ 20 := HML.out
                                      clear hny HML
                                      as_aux_lemma =>
                                        go_wp2_with fail
                                        refine (HMT.out _ HBC.out).mono ?_
                                        rintro e w16 ⟨v16, rfl, ho16, hb16⟩
                                        have HB16 := Lib.hid (ext_trans HBC.out hb16)
                                        have HO16 := Lib.hid (own_keep HOC.out hb16)
                                        have HO17 := Lib.hid ho16
                                        clear ho16 hb16 HMT HBC HOC
                                        as_aux_lemma =>
                                          go_wp2_with fail
                                          refine (equal_words (n := ny) HO16.out HO17.out HPQ.out (by omega)).mono ?_
                                          rintro e w17 ⟨rfl, hb17⟩
                                          have HB17 := Lib.hid (ext_trans HB16.out hb17)
                                          clear hb17 HB16 HO16 HO17
                                          as_aux_lemma =>
                                            go_wp2_with fail
                                            refine (numbered_any _).mono ?_
                                            rintro e w18 ⟨rfl, hb18⟩
                                            have HFIN := Lib.hid (HEND.out _ (ext_trans HB17.out hb18))
                                            clear hb18 HB17
                                            go_wp2_with fail
                                            go_ret
                                            exact ⟨rfl, HFIN.out⟩
                                    · obtain rfl : ys = [] := by
                                        rcases HY.out with ⟨-, h3⟩ | ⟨h3, -⟩
                                        · exact h3
                                        · exact absurd h3 h2
                                      have hx0 : ([] : List (List UInt8)).length = 0 := rfl
                                      clear HY HMS HMT HML
                                      as_aux_lemma =>
                                        go_wp2_with fail
                                        refine (numbered_any _).mono ?_
                                        rintro e w17 ⟨rfl, hb17⟩
                                        have HFIN := Lib.hid (HEND.out _ (ext_trans HBC.out hb17))
                                        clear hb17 HBC
                                        go_wp2_with fail
                                        go_ret
                                        exact ⟨rfl, HFIN.out⟩
end Go.Proofs.YtmbimfmalijjpaaGreatDoor
