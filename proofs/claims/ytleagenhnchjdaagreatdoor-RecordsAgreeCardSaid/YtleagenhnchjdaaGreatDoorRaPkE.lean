/- What is proved here: lemmas and contracts for the statement, put together out of smaller texts (DkpNum, TxtAdd, DkpNmb, DkpWrd, SpcWords, JnBld, RegionEnd, RecTxt, DkpN15, RecN15, RecRdw). No condition beyond those stated. -/
import Derived.Test.YtleagenhnchjdaaGreatDoorRaPkB
import Derived.Test.YtleagenhnchjdaaGreatDoorRaPkC
import Derived.Test.YtleagenhnchjdaaGreatDoorShelfTxt
import Derived.Test.YtleagenhnchjdaaGreatDoorRaPkA
import Derived.Lib.ItoaLen
import Derived.Shelf.Strings.Builder1
import Derived.Lib.Join
import Derived.Test.YtleagenhnchjdaaGreatDoorShelfJoin
import Derived.Test.YtleagenhnchjdaaGreatDoorRaPkD
import Derived.Deep.DeepCutAuto
set_option linter.unusedVariables false
set_option linter.unusedSimpArgs false
namespace Go.Proofs.YtleagenhnchjdaaGreatDoor
open Go.RowKit

theorem decT_snoc (b : UInt8) : ∀ (d : List UInt8) (acc : Nat), decT acc (d ++ [b]) = decT acc d * 10 + (b.toNat - 48)
  | [], acc => rfl
  | c :: d, acc => by
    show decT (acc * 10 + (c.toNat - 48)) (d ++ [b]) = _
    rw [decT_snoc b d]
    rfl
theorem ofNat_dig {b : UInt8} (h1 : 48 ≤ b.toNat) (h2 : b.toNat ≤ 57) : UInt8.ofNat (48 + (b.toNat - 48)) = b := by
  rw [show 48 + (b.toNat - 48) = b.toNat by omega]
  exact UInt8.ofNat_toNat
theorem digs_mem {l : List UInt8} (h : digs l = true) {b : UInt8} (hb : b ∈ l) : 48 ≤ b.toNat ∧ b.toNat ≤ 57 := by
  unfold digs at h
  have := List.all_eq_true.1 h b hb
  simpa using this
/-- The numeral of what digits say. -/
theorem decDigits_dec : ∀ (n : Nat) (d : List UInt8), d.length = n + 1 → digs d = true → (d.headD 0 ≠ 48 ∨ n = 0) → Lib.decDigits (decT 0 d) = d ∧ (d.headD 0 ≠ 48 → 1 ≤ decT 0 d)
  | 0, d, hl, hd, _ => by
    match d, hl with
    | [b], _ => 
      obtain ⟨h1, h2⟩ := digs_mem hd (b := b) (by simp)
      have e : decT 0 [b] = b.toNat - 48 := by show 0 * 10 + (b.toNat - 48) = _; omega
      rw [e, Lib.decDigits, dif_pos (by omega), ofNat_dig h1 h2]
      refine ⟨rfl, fun h => ?_⟩
      have h3 : b.toNat ≠ 48 := fun h9 => h (by show b = 48; exact UInt8.toNat_inj.1 h9)
      omega
  | n + 1, d, hl, hd, hh => by
    obtain ⟨d', b, rfl⟩ : ∃ d' b, d = d' ++ [b] := ⟨d.dropLast, d.getLast (by intro h; rw [h] at hl; cases hl), (List.dropLast_concat_getLast _).symm⟩
    rw [List.length_append, List.length_singleton] at hl
    have hl' : d'.length = n + 1 := by omega
    rw [digs_app] at hd
    simp only [Bool.and_eq_true] at hd
    obtain ⟨h1, h2⟩ := digs_mem hd.2 (b := b) (by simp)
    have hhd : (d' ++ [b]).headD 0 = d'.headD 0 := by
      cases d' with
      | nil => cases hl'
      | cons x d' => rfl
    rw [hhd] at hh ⊢
    have hne : d'.headD 0 ≠ 48 := hh.elim id (fun h => by cases h)
    obtain ⟨k1, k2⟩ := decDigits_dec n d' hl' hd.1 (Or.inl hne)
    have k3 := k2 hne
    rw [decT_snoc]
    refine ⟨?_, fun _ => by omega⟩
    rw [Lib.decDigits, dif_neg (by omega)]
    rw [show (decT 0 d' * 10 + (b.toNat - 48)) / 10 = decT 0 d' by omega, show (decT 0 d' * 10 + (b.toNat - 48)) % 10 = b.toNat - 48 by omega, k1, ofNat_dig h1 h2]
theorem decDigits_head : ∀ (u : Nat), 1 ≤ u → (Lib.decDigits u).headD 0 ≠ 48 := fun u => by
  induction u using Nat.strongRecOn with
  | ind u ih =>
    intro h
    rw [Lib.decDigits]
    by_cases h9 : u < 10
    · rw [dif_pos h9]
      show UInt8.ofNat (48 + u) ≠ 48
      intro e
      have := congrArg UInt8.toNat e
      rw [UInt8.toNat_ofNat_of_lt' (by show 48 + u < 256; omega)] at this
      have h48 : (48 : UInt8).toNat = 48 := rfl
      omega
    · rw [dif_neg h9]
      have := ih (u / 10) (by omega) (by omega)
      have hne : Lib.decDigits (u / 10) ≠ [] := by
        intro e
        have h3 := Lib.decDigits_length (u / 10)
        rw [e] at h3
        have := Lib.nDigits_pos (u / 10)
        simp at h3
        omega
      cases hc : Lib.decDigits (u / 10) with
      | nil => exact absurd hc hne
      | cons x r => rw [hc] at this; exact this
theorem numeral_iff {d : List UInt8} (h1 : 1 ≤ d.length) (hd : digs d = true) : Lib.decDigits (decT 0 d) = d ↔ (d.headD 0 ≠ 48 ∨ d = [48]) := by
  refine ⟨fun h => ?_, fun h => ?_⟩
  · by_cases hh : d.headD 0 = 48
    · right
      by_cases hu : 1 ≤ decT 0 d
      · have := decDigits_head _ hu
        rw [h] at this
        exact absurd hh this
      · have e : decT 0 d = 0 := by omega
        rw [e, Lib.decDigits, dif_pos (by decide)] at h
        exact h.symm
    · exact Or.inl hh
  · rcases h with h | h
    · exact (decDigits_dec (d.length - 1) d (by omega) hd (Or.inl h)).1
    · subst h
      exact (decDigits_dec 0 [48] rfl hd (Or.inr rfl)).1
/-- Behind a sign; a number that is read. -/
def unsign (s : List UInt8) : List UInt8 := Lib.trimPrefix s [45]
def signB (s : List UInt8) : Bool := Lib.hasPrefix s [45]
def rawB (s : List UInt8) (m : Int) : Bool := digitsB (unsign s) 1 m
def canonB (s : List UInt8) : Bool := !((unsign s).headD 0 == 48) || (decide (unsign s = [48]) && !signB s)
def numOk (s : List UInt8) : Bool := rawB s 12 && canonB s
def numZ (s : List UInt8) : Int := (Lib.atoi s).getD 0
theorem raw_parts {s : List UInt8} {m : Int} (h : rawB s m = true) : 1 ≤ (unsign s).length ∧ ((unsign s).length : Int) ≤ m ∧ digs (unsign s) = true := by
  unfold rawB digitsB at h
  rw [digs_in] at h
  simp only [Bool.and_eq_true, decide_eq_true_eq] at h
  exact ⟨by omega, h.2.1, h.2.2⟩
theorem sign_cases (s : List UInt8) : (signB s = true ∧ s = 45 :: unsign s) ∨ (signB s = false ∧ unsign s = s ∧ s.headD 0 ≠ 45) ∨ s = [] := by
  cases s with
  | nil => exact Or.inr (Or.inr rfl)
  | cons c s =>
    by_cases hc : c = 45
    · subst hc; exact Or.inl ⟨rfl, rfl⟩
    · have h1 : signB (c :: s) = false := by
        show ((45 : UInt8) == c && List.isPrefixOf [] s) = false
        rw [beq_eq_false_iff_ne.2 (Ne.symm hc)]; rfl
      refine Or.inr (Or.inl ⟨h1, ?_, hc⟩)
      unfold unsign Lib.trimPrefix
      have h2 : Lib.hasPrefix (c :: s) [45] = false := h1
      rw [h2]; rfl
theorem decNat_digs {d : List UInt8} (h1 : 1 ≤ d.length) (hd : digs d = true) : Lib.decNat d = some (decT 0 d) := by
  unfold Lib.decNat
  cases d with
  | nil => cases h1
  | cons b r => exact dec_some _ 0 hd
/-- What a row of digits, with a sign or without, is read as. -/
theorem atoi_raw {s : List UInt8} {m : Int} (h : rawB s m = true) : Lib.atoi s = some (if signB s = true then -(decT 0 (unsign s) : Int) else (decT 0 (unsign s) : Int)) := by
  obtain ⟨h1, h2, h3⟩ := raw_parts h
  rcases sign_cases s with ⟨q1, q2⟩ | ⟨q1, q2, q3⟩ | q
  · rw [q1, if_pos rfl]
    rw [show Lib.atoi s = Lib.atoi (45 :: unsign s) by rw [← q2]]
    show (Lib.decNat (unsign s)).map (fun m : Nat => -(m : Int)) = _
    rw [decNat_digs h1 h3]; rfl
  · rw [q1, if_neg (by decide), q2]
    rw [q2] at h1 h3
    cases s with
    | nil => cases h1
    | cons b r =>
      have h4 := digs_mem h3 (b := b) (by simp)
      have e1 : ((b : UInt8) == 45) = false := beq_eq_false_iff_ne.2 q3
      have e2 : ((b : UInt8) == 43) = false := beq_eq_false_iff_ne.2 (fun e => by rw [e] at h4; exact absurd h4.1 (by decide))
      unfold Lib.atoi
      simp only [e1, e2, decNat_digs h1 h3]; rfl
  · subst q; cases h1
theorem dec_bound {s : List UInt8} (h : rawB s 12 = true) : decT 0 (unsign s) < 1000000000000 := by
  obtain ⟨h1, h2, h3⟩ := raw_parts h
  have h4 := dec_lt (unsign s) 0 h3
  have h5 : (10 : Nat) ^ (unsign s).length ≤ 10 ^ 12 := Nat.pow_le_pow_right (by omega) (by omega)
  omega
theorem numZ_raw {s : List UInt8} (h : rawB s 12 = true) : Lib.atoi s = some (numZ s) ∧ -1000000000000 ≤ numZ s ∧ numZ s ≤ 1000000000000 := by
  have h1 := atoi_raw h
  have h2 := dec_bound h
  have e : numZ s = if signB s = true then -(decT 0 (unsign s) : Int) else (decT 0 (unsign s) : Int) := by unfold numZ; rw [h1]; rfl
  rw [e]
  refine ⟨h1, ?_⟩
  split <;> omega
/-- The numeral again: where no needless zero stands, and no sign ahead of nothing. -/
theorem itoa_back {s : List UInt8} (h : rawB s 12 = true) : (Lib.itoa (numZ s) = s) ↔ canonB s = true := by
  obtain ⟨h1, h2, h3⟩ := raw_parts h
  have h4 := atoi_raw h
  have e : numZ s = if signB s = true then -(decT 0 (unsign s) : Int) else (decT 0 (unsign s) : Int) := by unfold numZ; rw [h4]; rfl
  have hn := numeral_iff h1 h3
  unfold canonB
  rcases sign_cases s with ⟨q1, q2⟩ | ⟨q1, q2, q3⟩ | q
  · rw [q1, if_pos rfl] at e
    rw [e, q1]
    simp only [Bool.not_true, Bool.and_false, Bool.or_false, Bool.not_eq_true', beq_eq_false_iff_ne]
    by_cases hz : decT 0 (unsign s) = 0
    · rw [hz]
      have hh : (unsign s).headD 0 = 48 := by
        by_cases hh : (unsign s).headD 0 = 48
        · exact hh
        · have := (decDigits_dec ((unsign s).length - 1) _ (by omega) h3 (Or.inl hh)).2 hh
          omega
      refine ⟨fun h9 => ?_, fun h9 => absurd hh h9⟩
      have h10 : Lib.itoa (-((0 : Nat) : Int)) = [48] := by unfold Lib.itoa; rw [if_neg (by decide)]; rw [Lib.decDigits]; rfl
      rw [h10] at h9
      rw [← h9] at q1
      exact absurd q1 (by decide)
    · have h10 : Lib.itoa (-(decT 0 (unsign s) : Int)) = 45 :: Lib.decDigits (decT 0 (unsign s)) := by
        unfold Lib.itoa
        rw [if_pos (by omega)]
        rw [show (-(decT 0 (unsign s) : Int)).natAbs = decT 0 (unsign s) by omega]
      rw [h10]
      refine ⟨fun h9 => ?_, fun h9 => ?_⟩
      · rw [q2] at h9
        have h11 : Lib.decDigits (decT 0 (unsign s)) = unsign s := by
          have h12 := (List.cons.inj h9).2
          rw [← q2] at h12
          exact h12
        rcases hn.1 h11 with h12 | h12
        · exact h12
        · rw [h12] at hz; exact absurd rfl hz
      · rw [hn.2 (Or.inl h9)]
        exact q2.symm
  · rw [q1, if_neg (by decide)] at e
    rw [e, q1, q2]
    rw [q2] at hn
    have h10 : Lib.itoa (decT 0 s : Int) = Lib.decDigits (decT 0 s) := by
      unfold Lib.itoa
      rw [if_neg (by omega)]
      rfl
    rw [h10, hn]
    simp
  · subst q; cases h1
end Go.Proofs.YtleagenhnchjdaaGreatDoor

set_option linter.unusedVariables false
set_option linter.unusedSimpArgs false
namespace Go.Proofs.YtleagenhnchjdaaGreatDoor
open Go.RowKit

theorem add_str (e : Operand → Value) (o : Oper) (w : World) (x y : Operand) (a b : List UInt8) (ho : o.op = .binOp .add 9 x y 9) (hx : e x = .string ⟨a.toArray⟩) (hy : e y = .string ⟨b.toArray⟩) (hl : a.length + b.length ≤ 1000000) : (execOp e o).run Tryz.prog w = .ok (.value (.string ⟨(a ++ b).toArray⟩)) w := by
  unfold execOp
  rw [ho]
  simp only [hx, hy]
  rw [← cat_str a b]
  go_simp
  omega
theorem bld_keep {T e : TypeId} {B b : Nat} {bs : List Value} {w w' : World} (h : Lib.IsBuilder T e B b bs w) (hb : Below w.heap.size w w') : Lib.IsBuilder T e B b bs w' := by
  have one : ∀ p, Lib.BuilderAt T e B b p bs w → Lib.BuilderAt T e B b p bs w' := fun p h => by
    have hl := h.lt
    obtain ⟨hB, v, hk, ho, hn⟩ := h
    exact ⟨hB, v, (hb.block b hl).trans hk, own_keep ho hb, hn⟩
  exact h.imp (one _) (one _)
theorem bld_lt {T e : TypeId} {B b : Nat} {bs : List Value} {w : World} (h : Lib.IsBuilder T e B b bs w) : b < w.heap.size := h.elim (·.lt) (·.lt)
theorem itoa_any (n : Int) (h0 : -9223372036854775808 ≤ n) (h1 : n ≤ 9223372036854775807) (S : Nat) (w : World) (hT : TabW S w) : Calls Tryz.prog 60 #[.int .i64 n] w fun e w' => e = .returned (.string ⟨(Lib.itoa n).toArray⟩) ∧ Below w.heap.size w w' := by
  refine (Tryz.strconv_Itoa n h0 h1 w hT.1).mono ?_
  rintro e w' ⟨rfl, k, os, rfl⟩
  exact ⟨rfl, below_grow _ _ _⟩
theorem itoa_len (n : Int) (h0 : -2000000000000 ≤ n) (h1 : n ≤ 2000000000000) : (Lib.itoa n).length ≤ 21 := Lib.itoa_length_le n (by omega) (by omega)
theorem cells_app (a b : List UInt8) : Lib.byteCells a ++ Lib.strCells ⟨b.toArray⟩ = Lib.byteCells (a ++ b) := by
  show Lib.byteCells a ++ Lib.byteCells b = _
  unfold Lib.byteCells
  rw [List.map_append]
theorem size_l (l : List UInt8) : (⟨l.toArray⟩ : ByteArray).size = l.length := by show l.toArray.size = _; simp
theorem cells_len (a : List UInt8) : (Lib.byteCells a).length = a.length := by unfold Lib.byteCells; rw [List.length_map]
end Go.Proofs.YtleagenhnchjdaaGreatDoor

set_option linter.unusedVariables false
set_option linter.unusedSimpArgs false
namespace Go.Proofs.YtleagenhnchjdaaGreatDoor
open Go.RowKit

/-- What Number answers. -/
def NumPost (s : List UInt8) (w : World) (e : Ending) (w' : World) : Prop := e = .returned (.tuple #[.int .i64 (if numOk s = true then numZ s else 0), .bool (numOk s)]) ∧ Below w.heap.size w w'
theorem cutSign (s : List UInt8) (w : World) : Calls Tryz.prog 93 #[.string ⟨s.toArray⟩, .string ⟨#[45]⟩] w fun e w' => e = .returned (.tuple #[.string ⟨(unsign s).toArray⟩, .bool (signB s)]) ∧ w = w' := (Tryz.strings_CutPrefix ⟨s.toArray⟩ ⟨#[45]⟩ w).mono fun e w' h => ⟨h.1, h.2.symm⟩
theorem unsign_len (s : List UInt8) : (unsign s).length ≤ s.length := by
  unfold unsign Lib.trimPrefix
  split
  · rw [List.length_drop]; omega
  · exact Nat.le_refl _
set_option maxRecDepth 100000 in
set_option maxHeartbeats 4000000 in
theorem number12_any (s : List UInt8) (w : World) (hs : s.length ≤ 1000000) : Calls Tryz.prog 158 #[.string ⟨s.toArray⟩, .int .i64 12] w (NumPost s w) := by
  have HOK : Hid (∀ z b W, (if numOk s = true then numZ s else 0) = z → numOk s = b → Below w.heap.size w W → NumPost s w (.returned (.tuple #[.int .i64 z, .bool b])) W) := fun z b W h1 h2 h3 => by unfold NumPost; rw [h1, h2]; exact ⟨rfl, h3⟩
  have hul := unsign_len s
  have HCUT := Lib.hid (cutSign s w)
  have HTR := Lib.hid (trim_digits ⟨(unsign s).toArray⟩ w (by show (unsign s).toArray.size ≤ _; simp; omega))
  have HNK : Hid (numOk s = ((decide (1 ≤ ((unsign s).length : Int)) && (decide (((unsign s).length : Int) ≤ 12) && (Lib.trimS (unsign s) digitSet).isEmpty)) && (!((unsign s).headD 0 == 48) || (decide (unsign s = [48]) && !signB s)))) := rfl
  have HAT : Hid (rawB s 12 = true → ∀ W, Calls Tryz.prog 188 #[.string ⟨s.toArray⟩] W fun e w' => e = .returned (.tuple #[.int .i64 (numZ s), .nilIface]) ∧ Below W.heap.size W w') := fun h W => by
    obtain ⟨h1, h2, _⟩ := raw_parts h
    have h3 : s.length ≤ 18 := by
      rcases sign_cases s with ⟨_, q⟩ | ⟨_, q, _⟩ | q
      · rw [q, List.length_cons]; omega
      · rw [← q]; omega
      · rw [q]; decide
    exact atoi_l s (numZ s) h3 (numZ_raw h).1 W
  have HRW : Hid (rawB s 12 = (decide (1 ≤ ((unsign s).length : Int)) && (decide (((unsign s).length : Int) ≤ 12) && (Lib.trimS (unsign s) digitSet).isEmpty))) := rfl
  have HTR2 : Hid (Calls Tryz.prog 95 #[.string ⟨(unsign s).toArray⟩, .string ⟨#[48, 49, 50, 51, 52, 53, 54, 55, 56, 57]⟩] w fun e w' => e = .returned (.string ⟨(Lib.trimS (unsign s) digitSet).toArray⟩) ∧ Below w.heap.size w w') := HTR.out
  clear HTR
  generalize NumPost s w = PP at HOK ⊢
  generalize numOk s = NK at HOK HNK
  generalize rawB s 12 = RW at HAT HRW
  generalize numZ s = Z at HOK HAT
  generalize signB s = g at HCUT HNK
  generalize Lib.trimS (unsign s) digitSet = tr at HNK HRW HTR2
  generalize unsign s = d at hul HCUT HNK HRW HTR2
  cases d with
  | nil =>
    have HF : Hid (NK = false) := by show _ = _; rw [HNK.out]; rfl
    clear HNK HAT HRW HTR2
    go_enter Tryz.func158, Tryz.ntmps158
    as_aux_lemma =>
      go_wp2_with fail
      refine HCUT.out.mono ?_
      rintro e w1 ⟨rfl, hw1⟩
      subst hw1
      as_aux_lemma =>
        go_wp2_with fail
        first | exact HOK.out 0 false w (by rw [HF.out]; rfl) HF.out (Below.refl _ _) | (go_ret2; exact HOK.out 0 false w (by rw [HF.out]; rfl) HF.out (Below.refl _ _))
  | cons x m =>
    simp only [List.length_cons] at hul
    by_cases hl : ((x :: m).length : Int) ≤ 12
    case neg =>
      have HF : Hid (NK = false) := by show _ = _; rw [HNK.out, decide_eq_false hl]; simp
      have hl2 : (12 : Int) < (m.length : Int) + 1 := by simp only [List.length_cons] at hl; omega
      clear HNK HAT HRW HTR2 hl
      go_enter Tryz.func158, Tryz.ntmps158
      as_aux_lemma =>
        go_wp2_with fail
        refine HCUT.out.mono ?_
        rintro e w1 ⟨rfl, hw1⟩
        subst hw1
        as_aux_lemma =>
          go_wp2_with fail
          first | exact HOK.out 0 false w (by rw [HF.out]; rfl) HF.out (Below.refl _ _) | (go_ret2; exact HOK.out 0 false w (by rw [HF.out]; rfl) HF.out (Below.refl _ _))
    have hl2 : ¬ (12 : Int) < (m.length : Int) + 1 := by simp only [List.length_cons] at hl; omega
    have h1 : (1 : Int) ≤ (((x :: m).length : Nat) : Int) := by simp only [List.length_cons]; omega
    rw [decide_eq_true hl, decide_eq_true h1] at HNK HRW
    cases tr with
    | cons y r =>
      have HF : Hid (NK = false) := by show _ = _; rw [HNK.out]; rfl
      clear HNK HAT HRW hl h1
      go_enter Tryz.func158, Tryz.ntmps158
      as_aux_lemma =>
        go_wp2_with fail
        refine HCUT.out.mono ?_
        rintro e w1 ⟨rfl, hw1⟩
        subst hw1
        as_aux_lemma =>
          go_wp2_with fail
          refine HTR2.out.mono ?_
          rintro e w2 ⟨rfl, hb2⟩
          have HB2 := Lib.hid hb2
          clear hb2
          as_aux_lemma =>
            go_wp2_with fail
            first | exact HOK.out 0 false w2 (by rw [HF.out]; rfl) HF.out HB2.out | (go_ret2; exact HOK.out 0 false w2 (by rw [HF.out]; rfl) HF.out HB2.out)
    | nil =>
      have HAT2 := Lib.hid (HAT.out HRW.out)
      have HNK2 : Hid (NK = (!(x == 48) || (decide (x :: m = [48]) && !g))) := HNK.out
      clear HNK HAT HRW hl h1
      by_cases hx : x = 48
      · subst hx
        cases m with
        | cons y m2 =>
          have HF : Hid (NK = false) := by show _ = _; rw [HNK2.out]; simp
          clear HNK2 HAT2
          go_enter Tryz.func158, Tryz.ntmps158
          as_aux_lemma =>
            go_wp2_with fail
            refine HCUT.out.mono ?_
            rintro e w1 ⟨rfl, hw1⟩
            subst hw1
            as_aux_lemma =>
              go_wp2_with fail
              refine HTR2.out.mono ?_
              rintro e w2 ⟨rfl, hb2⟩
              have HB2 := Lib.hid hb2
              clear hb2
              as_aux_lemma =>
                go_wp2_with fail
                first | exact HOK.out 0 false w2 (by rw [HF.out]; rfl) HF.out HB2.out | (go_ret2; exact HOK.out 0 false w2 (by rw [HF.out]; rfl) HF.out HB2.out)
        | nil =>
          cases g with
          | true =>
            have HF : Hid (NK = false) := by show _ = _; rw [HNK2.out]; rfl
            clear HNK2 HAT2
            go_enter Tryz.func158, Tryz.ntmps158
            as_aux_lemma =>
              go_wp2_with fail
              refine HCUT.out.mono ?_
              rintro e w1 ⟨rfl, hw1⟩
              subst hw1
              as_aux_lemma =>
                go_wp2_with fail
                refine HTR2.out.mono ?_
                rintro e w2 ⟨rfl, hb2⟩
                have HB2 := Lib.hid hb2
                clear hb2
                as_aux_lemma =>
                  go_wp2_with fail
                  first | exact HOK.out 0 false w2 (by rw [HF.out]; rfl) HF.out HB2.out | (go_ret2; exact HOK.out 0 false w2 (by rw [HF.out]; rfl) HF.out HB2.out)
          | false =>
            have HF : Hid (NK = true) := by show _ = _; rw [HNK2.out]; rfl
            clear HNK2
            go_enter Tryz.func158, Tryz.ntmps158
            as_aux_lemma =>
              go_wp2_with fail
              refine HCUT.out.mono ?_
              rintro e w1 ⟨rfl, hw1⟩
              subst hw1
              as_aux_lemma =>
                go_wp2_with fail
                refine HTR2.out.mono ?_
                rintro e w2 ⟨rfl, hb2⟩
                have HB2 := Lib.hid hb2
                clear hb2
                as_aux_lemma =>
                  go_wp2_with fail
                  refine (HAT2.out _).mono ?_
                  rintro e w3 ⟨rfl, hb3⟩
                  have HB3 := Lib.hid (ext_trans HB2.out hb3)
                  clear hb3 HB2
                  as_aux_lemma =>
                    go_wp2_with fail
                    go_quiet (fail)
                    go_wp2_with fail
                    go_simp
                    exact HOK.out Z true _ (by rw [HF.out]; rfl) HF.out (ext_drewN HB3.out)
      · have hxb : (x == 48) = false := beq_eq_false_iff_ne.2 hx
        have hxn : ¬ ((x.toNat : Int) = 48) := fun h => hx (UInt8.toNat_inj.1 (by have : x.toNat = 48 := by omega
                                                                                  exact this))
        have HF : Hid (NK = true) := by show _ = _; rw [HNK2.out, hxb]; rfl
        clear HNK2 hx hxb
        have hx0 : ((((⟨(x :: m).toArray⟩ : ByteArray)[0]'(by show 0 < (x :: m).toArray.size; simp)).toNat : Int) == 48) = false := beq_eq_false_iff_ne.2 hxn
        go_enter Tryz.func158, Tryz.ntmps158
        as_aux_lemma =>
          go_wp2_with fail
          refine HCUT.out.mono ?_
          rintro e w1 ⟨rfl, hw1⟩
          subst hw1
          as_aux_lemma =>
            go_wp2_with fail
            refine HTR2.out.mono ?_
            rintro e w2 ⟨rfl, hb2⟩
            have HB2 := Lib.hid hb2
            clear hb2
            as_aux_lemma =>
              go_wp2_with fail
              refine (HAT2.out _).mono ?_
              rintro e w3 ⟨rfl, hb3⟩
              have HB3 := Lib.hid (ext_trans HB2.out hb3)
              clear hb3 HB2
              as_aux_lemma =>
                go_wp2_with fail
                go_quiet (fail)
                go_wp2_with fail
                go_simp
                exact HOK.out Z true _ (by rw [HF.out]; rfl) HF.out (ext_drewN HB3.out)
/-- What Int answers. -/
def IntPostD (s : List UInt8) (w : World) (e : Ending) (w' : World) : Prop := ∃ z : Int, e = .returned (.tuple #[.int .i64 z, .bool (numOk s)]) ∧ (numOk s = true → z = numZ s) ∧ Below w.heap.size w w'
end Go.Proofs.YtleagenhnchjdaaGreatDoor

set_option linter.unusedVariables false
set_option linter.unusedSimpArgs false
namespace Go.Proofs.YtleagenhnchjdaaGreatDoor
open Go.RowKit

theorem Tryz.infoIntD : (Tryz.prog.info? 3).map (fun i => (i.zero, i.size, i.bytes)) = some (some (.int .i64 0), 1, 8) := by kernel_rfl
/-- What of the library lies ahead of block S. -/
structure LibsW (S : Nat) (w : World) : Prop where
  tab : TabW S w
  max_ : ∃ m : Int, w.cell? ⟨0, 0, none⟩ = some (.int .i64 m)
  lt : 0 < S
theorem LibsW.block {S : Nat} {w w' : World} (h : LibsW S w) (h1 : w'.heap[2]? = w.heap[2]?) (h2 : w'.heap[0]? = w.heap[0]?) : LibsW S w' := by
  obtain ⟨m, hm⟩ := h.max_
  refine ⟨tab_block h.tab h1, ⟨m, ?_⟩, h.lt⟩
  rw [← hm]
  unfold World.cell?
  rw [h2]
theorem LibsW.keeps {S : Nat} {w w' : World} (h : LibsW S w) (hk : Keeps S w w') (hS : S < w.heap.size) : LibsW S w' :=
  h.block (hk.block _ (Nat.lt_trans h.tab.2 hS) (Nat.ne_of_lt h.tab.2)) (hk.block _ (Nat.lt_trans h.lt hS) (Nat.ne_of_lt h.lt))
theorem LibsW.below {S B : Nat} {w w' : World} (h : LibsW S w) (hb : Below B w w') (hS : S ≤ B) : LibsW S w' :=
  h.block (hb.block _ (Nat.lt_of_lt_of_le h.tab.2 hS)) (hb.block _ (Nat.lt_of_lt_of_le h.lt hS))
/-- The words of a line. -/
def wordsL (s : List UInt8) : List (List UInt8) := (Lib.splitB ⟨#[32]⟩ 0 (Lib.countB ⟨s.toArray⟩ ⟨#[32]⟩) ⟨s.toArray⟩).map (·.data.toList)
theorem wordsL_len (s : List UInt8) : (wordsL s).length = Lib.countB ⟨s.toArray⟩ ⟨#[32]⟩ + 1 := by
  unfold wordsL
  rw [List.length_map]
  exact Lib.splitB_all ⟨#[32]⟩ (by decide) 0 _ ⟨s.toArray⟩ rfl
theorem wordsL_few (s : List UInt8) : (wordsL s).length ≤ s.length + 1 := by
  have hle := Lib.countB_le ⟨#[32]⟩ (by decide) (⟨s.toArray⟩ : ByteArray).size ⟨s.toArray⟩ (Nat.le_refl _)
  rw [size_l] at hle
  rw [wordsL_len]
  omega
theorem splitK_le (sep : List UInt8) : ∀ (k : Nat) (s : List UInt8), ∀ x ∈ Lib.splitK sep 0 k s, x.length ≤ s.length
  | 0, s, x, h => by
    unfold Lib.splitK at h
    rw [List.mem_singleton.1 h]
    exact Nat.le_refl _
  | k + 1, s, x, h => by
    unfold Lib.splitK at h
    split at h
    · rw [List.mem_singleton.1 h]
      exact Nat.le_refl _
    · rcases List.mem_cons.1 h with h | h
      · rw [h, List.length_take]; omega
      · have := splitK_le sep k _ x h
        rw [List.length_drop] at this
        omega
theorem wordsL_le (s : List UInt8) (i : Nat) : ((wordsL s).getD i []).length ≤ s.length := by
  by_cases hi : i < (wordsL s).length
  · have e : wordsL s = Lib.splitK [32] 0 (Lib.countB ⟨s.toArray⟩ ⟨#[32]⟩) s := Lib.splitB_data ⟨#[32]⟩ 0 _ ⟨s.toArray⟩
    have hm : (wordsL s).getD i [] ∈ wordsL s := mem_getD [] hi
    generalize (wordsL s).getD i [] = x at hm
    rw [e] at hm
    exact splitK_le [32] _ s x hm
  · rw [List.getD_eq_getElem?_getD, List.getElem?_eq_none (by omega)]
    simp
theorem words_cells (s : List UInt8) : (Lib.splitB ⟨#[32]⟩ 0 (Lib.countB ⟨s.toArray⟩ ⟨#[32]⟩) ⟨s.toArray⟩).map Value.string = (wordsL s).map encS := by
  unfold wordsL
  rw [List.map_map]
  refine List.map_congr_left fun b _ => ?_
  show Value.string b = .string ⟨b.data.toList.toArray⟩
  rw [Array.toArray_toList]
theorem splitBl_any (s : List UInt8) (hs : s.length ≤ 1000000) (S : Nat) (w : World) (hL : LibsW S w) : Calls Tryz.prog 157 #[.string ⟨s.toArray⟩, .string ⟨#[32]⟩] w fun e w' => e = .returned (.slice (some ⟨w.heap.size, 0, none⟩) (wordsL s).length (wordsL s).length) ∧ w'.ownsRow w.heap.size 9 1 (.slice (some ⟨w.heap.size, 0, none⟩) (wordsL s).length (wordsL s).length) (wordsL s).length ((wordsL s).map encS) ∧ Below w.heap.size w w' := by
  obtain ⟨m, hm⟩ := hL.max_
  refine (Tryz.strings_SplitT ⟨s.toArray⟩ ⟨#[32]⟩ m w (by rw [size_l]; omega) hm (by decide)).mono ?_
  rintro e w' ⟨rfl, rfl⟩
  rw [wordsL_len, words_cells]
  refine ⟨rfl, ?_, ext_alloc (Below.refl _ _)⟩
  have hle := Lib.countB_le ⟨#[32]⟩ (by decide) (⟨s.toArray⟩ : ByteArray).size ⟨s.toArray⟩ (Nat.le_refl _)
  rw [size_l] at hle
  have := World.ownsRow_lit (base := w.heap.size) (e := 9) (size := 1) w ((wordsL s).map encS).toArray (Lib.countB ⟨s.toArray⟩ ⟨#[32]⟩ + 1) (Nat.le_refl _) (by simp only [maxLen]; omega) (by rw [Nat.mul_one, List.size_toArray, List.length_map, wordsL_len])
  simpa using this
def fullW (xs : List (List UInt8)) : Bool := xs.all fun x => !x.isEmpty
theorem fullW_true {xs : List (List UInt8)} (h : ∀ i, i < xs.length → xs.getD i [] ≠ []) : fullW xs = true := by
  unfold fullW
  rw [List.all_eq_true]
  intro x hx
  obtain ⟨i, hi, rfl⟩ := List.getElem_of_mem hx
  have h1 := h i hi
  rw [List.getD_eq_getElem?_getD, List.getElem?_eq_getElem hi] at h1
  simpa using h1
theorem fullW_false {xs : List (List UInt8)} {i : Nat} (hi : i < xs.length) (h : xs.getD i [] = []) : fullW xs = false := by
  cases hf : fullW xs with
  | false => rfl
  | true =>
    unfold fullW at hf
    have h1 := List.all_eq_true.1 hf (xs.getD i []) (mem_getD [] hi)
    rw [h] at h1
    cases h1
/-- What Words answers. -/
def WordsPost (xs : List (List UInt8)) (w : World) (e : Ending) (w' : World) : Prop := (fullW xs = true → ∃ g : Nat, e = .returned (.tuple #[.slice (some ⟨g, 0, none⟩) xs.length xs.length, .bool true]) ∧ w'.ownsRow w.heap.size 9 1 (.slice (some ⟨g, 0, none⟩) xs.length xs.length) xs.length (xs.map encS)) ∧ (fullW xs = false → e = .returned (.tuple #[.slice none 0 0, .bool false])) ∧ Below w.heap.size w w'
set_option maxRecDepth 100000 in
set_option maxHeartbeats 4000000 in
theorem wordsBl_any (s : List UInt8) (hs : s.length ≤ 1000000) (S : Nat) (w : World) (hL : LibsW S w) : Calls Tryz.prog 107 #[.string ⟨s.toArray⟩] w (WordsPost (wordsL s) w) := by
  have HSP := Lib.hid (splitBl_any s hs S w hL)
  have hwl : ∀ i, ((wordsL s).getD i []).length ≤ 1000000 := fun i => Nat.le_trans (wordsL_le s i) hs
  have HWL := Lib.hid hwl
  have hxn := wordsL_few s
  clear hwl hL
  generalize wordsL s = xs at HSP HWL hxn ⊢
  go_enter Tryz.func107, Tryz.ntmps107
  as_aux_lemma =>
    go_wp2_with fail
    refine HSP.out.mono ?_
    rintro e w1 ⟨rfl, ho, hb⟩
    have HO := Lib.hid ho
    have HB := Lib.hid hb
    clear ho hb HSP
    have HWP : Hid (fullW xs = true → ∀ W, Below w1.heap.size w1 W → WordsPost xs w (.returned (.tuple #[.slice (some ⟨w.heap.size, 0, none⟩) xs.length xs.length, .bool true])) W) := fun h W hW => ⟨(fun _ => ⟨_, rfl, own_keep HO.out hW⟩), (fun h9 => (by rw [h] at h9; cases h9)), ext_trans HB.out hW⟩
    generalize w.heap.size = g at HO HWP ⊢
    as_aux_lemma =>
      go_wp2_with fail
      go_loopw [11] (fun it wr => ∃ i : Nat, i ≤ xs.length ∧ it = .int .i64 i ∧ Hid (∀ j, j < i → xs.getD j [] ≠ []) ∧ Hid (Below w1.heap.size w1 wr)) (fun it _ => xs.length - (intOf it).toNat)
      case atStart => exact ⟨0, Nat.zero_le _, rfl, (fun j h => by omega), Below.refl _ _⟩
      case round =>
        obtain ⟨i, hin, rfl, HN, HW⟩ := hrel
        by_cases hlt : i < xs.length
        case neg =>
          have hnn : ¬ (i : Int) < (xs.length : Int) := by omega
          have hf : fullW xs = true := fullW_true fun j hj => HN.out j (by omega)
          have HE : Hid (WordsPost xs w (.returned (.tuple #[.slice (some ⟨g, 0, none⟩) xs.length xs.length, .bool true])) wr) := HWP.out hf wr HW.out
          as_aux_lemma =>
            go_wp2_with fail
            go_ret2
            exact HE.out
        have hlti : (i : Int) < (xs.length : Int) := by omega
        have c0 : wr.cell? ⟨g, i, none⟩ = some (.string ⟨(xs.getD i []).toArray⟩) := by
          rw [(own_keep HO.out HW.out).cellAt i (by omega)]
          simp [encS, List.getD_eq_getElem?_getD, hlt]
        have hxl := HWL.out i
        have HFF : Hid (xs.getD i [] = [] → fullW xs = false) := fullW_false hlt
        have HNX : Hid (xs.getD i [] ≠ [] → ∀ j, j < i + 1 → xs.getD j [] ≠ []) := fun h j hj => by
          rcases Nat.lt_succ_iff_lt_or_eq.1 hj with h9 | rfl
          · exact HN.out j h9
          · exact h
        generalize xs.getD i [] = x at c0 hxl HFF HNX
        cases x with
        | nil =>
          have HE : Hid (WordsPost xs w (.returned (.tuple #[.slice none 0 0, .bool false])) wr) := ⟨(fun h => (by rw [HFF.out rfl] at h; cases h)), (fun _ => rfl), ext_trans HB.out HW.out⟩
          as_aux_lemma =>
            go_wp2_with fail
            go_ret2
            exact HE.out
        | cons y x =>
          have HN2 := Lib.hid (HNX.out (by simp))
          clear HNX HFF HN
          as_aux_lemma =>
            go_wp2_with fail
            go_roundw
            case rel => exact ⟨i + 1, by omega, by go_num, HN2.out, HW.out⟩
            case measure => simp [intOf]; omega
theorem bl_dkw0 (e : Operand → Value) (he : ∀ v, e (.const v) = v) (o : Oper) (w : World) (i0 : Nat) (z0 : Int) (ho : o.op = .buildSlice 22 1 #[(0, .tmp i0)]) (h0 : e (.tmp i0) = .int .i64 z0) :
   (execOp e o).run Tryz.prog w = .ok (.value (.slice (some ⟨w.heap.size, 0, none⟩) 1 1)) (w.alloc (.cells #[.int .i64 z0] 3)) := by
  unfold execOp
  rw [ho]
  simp only [List.map_toArray, List.map_cons, List.map_nil, h0]
  kernel_rfl
/-- Strings that lie in a row. -/
structure StrAt (w : World) (g o : Nat) (xs : List (List UInt8)) : Prop where
  lt : g < w.heap.size
  cell : ∀ i, i < xs.length → w.cell? ⟨g, o + i, none⟩ = some (.string ⟨(xs.getD i []).toArray⟩)
theorem StrAt.below {w w' : World} {g o : Nat} {xs : List (List UInt8)} (h : StrAt w g o xs) (hb : Below w.heap.size w w') : StrAt w' g o xs :=
  ⟨Nat.lt_of_lt_of_le h.lt hb.size, fun i hi => (hb.cell (p := ⟨g, o + i, none⟩) h.lt).trans (h.cell i hi)⟩
theorem StrAt.of_own {w : World} {base g c : Nat} {n : Nat} {xs : List (List UInt8)} (h : w.ownsRow base 9 1 (.slice (some ⟨g, 0, none⟩) n c) n (xs.map encS)) (o : Nat) : StrAt w g o (xs.drop o) ∨ xs.drop o = [] := by
  have hl : xs.length = n := by have := h.1; simpa using this
  by_cases ho : o < xs.length
  · left
    refine ⟨(h.lt g rfl).2, fun i hi => ?_⟩
    rw [List.length_drop] at hi
    rw [h.cellAt (o + i) (by omega)]
    simp [encS, List.getD_eq_getElem?_getD, List.getElem?_drop, show o + i < xs.length by omega]
  · exact Or.inr (List.drop_eq_nil_of_le (by omega))
def allNum (xs : List (List UInt8)) : Bool := xs.all numOk
theorem allNum_true {xs : List (List UInt8)} (h : ∀ i, i < xs.length → numOk (xs.getD i []) = true) : allNum xs = true := by
  unfold allNum
  rw [List.all_eq_true]
  intro x hx
  obtain ⟨i, hi, rfl⟩ := List.getElem_of_mem hx
  have h1 := h i hi
  rwa [List.getD_eq_getElem?_getD, List.getElem?_eq_getElem hi] at h1
theorem allNum_false {xs : List (List UInt8)} {i : Nat} (hi : i < xs.length) (h : numOk (xs.getD i []) = false) : allNum xs = false := by
  cases hf : allNum xs with
  | false => rfl
  | true =>
    unfold allNum at hf
    have h1 := List.all_eq_true.1 hf (xs.getD i []) (mem_getD [] hi)
    rw [h] at h1
    cases h1
def numsV (xs : List (List UInt8)) : List Value := xs.map fun x => .int .i64 (numZ x)
/-- What Numbers answers. -/
def NumsPost (xs : List (List UInt8)) (w : World) (e : Ending) (w' : World) : Prop := (allNum xs = true → ∃ v, e = .returned (.tuple #[v, .bool true]) ∧ w'.ownsRow w.heap.size 3 1 v xs.length (numsV xs)) ∧ (allNum xs = false → e = .returned (.tuple #[.slice none 0 0, .bool false])) ∧ Below w.heap.size w w'
set_option maxRecDepth 100000 in
set_option maxHeartbeats 4000000 in
theorem numbers12_any (xs : List (List UInt8)) (w : World) (g o c : Nat) (hn : xs.length ≤ 1000000) (hx : 0 < xs.length → StrAt w g o xs) (hl : ∀ i, (xs.getD i []).length ≤ 1000000) : Calls Tryz.prog 108 #[.slice (some ⟨g, o, none⟩) xs.length c, .int .i64 12] w (NumsPost xs w) := by
  obtain ⟨i0, hi, hz0, hz1, hz2⟩ := info_parts Tryz.infoIntD
  have HX := Lib.hid hx
  have HL := Lib.hid hl
  clear hx hl
  go_enter Tryz.func108, Tryz.ntmps108
  as_aux_lemma =>
    go_wp2_with fail
    go_loopw [6, 13] (fun vo it wr => ∃ i : Nat, i ≤ xs.length ∧ it = .int .i64 i ∧ Hid (∀ j, j < i → numOk (xs.getD j []) = true) ∧ Hid (wr.ownsRow w.heap.size 3 1 vo i (numsV (xs.take i))) ∧ Hid (Below w.heap.size w wr)) (fun _ it _ => xs.length - (intOf it).toNat)
    case atStart => exact ⟨0, Nat.zero_le _, rfl, (fun j h => by omega), World.ownsRow_nil _ _ _ _, Below.refl _ _⟩
    case round =>
      obtain ⟨i, hin, rfl, HN, HO, HB⟩ := hrel
      obtain ⟨vo, rfl⟩ : ∃ x : Value, x = u6 := ⟨_, rfl⟩
      by_cases hlt : i < xs.length
      case neg =>
        have hii : i = xs.length := by omega
        have hnn : ¬ (i : Int) < (xs.length : Int) := by omega
        have hf : allNum xs = true := allNum_true fun j hj => HN.out j (by omega)
        have HE : Hid (NumsPost xs w (.returned (.tuple #[vo, .bool true])) wr) := by
          have h9 := HO.out
          rw [hii, List.take_length] at h9
          exact ⟨(fun _ => ⟨vo, rfl, h9⟩), (fun h => (by rw [hf] at h; cases h)), HB.out⟩
        clear HN HO HB hf
        as_aux_lemma =>
          go_wp2_with fail
          go_ret2
          exact HE.out
      have hlti : (i : Int) < (xs.length : Int) := by omega
      have hxw := (HX.out (by omega)).below HB.out
      have c0 := hxw.cell i hlt
      have HNB := Lib.hid (fun W : World => number12_any (xs.getD i []) W (HL.out i))
      have HFF : Hid (numOk (xs.getD i []) = false → allNum xs = false) := allNum_false hlt
      have HNX : Hid (numOk (xs.getD i []) = true → ∀ j, j < i + 1 → numOk (xs.getD j []) = true) := fun h j hj => by
        rcases Nat.lt_succ_iff_lt_or_eq.1 hj with h9 | rfl
        · exact HN.out j h9
        · exact h
      have HST : Hid (numsV (xs.take (i + 1)) = numsV (xs.take i) ++ [.int .i64 (numZ (xs.getD i []))]) := by
        show _ = _
        unfold numsV
        rw [List.take_add_one, List.getElem?_eq_getElem hlt, List.map_append]
        simp [List.getD_eq_getElem?_getD, hlt]
      clear hxw HN
      generalize xs.getD i [] = x at c0 HNB HFF HNX HST
      have HNB2 : Hid (∀ W, Calls Tryz.prog 158 #[.string ⟨x.toArray⟩, .int .i64 12] W fun e w' => e = .returned (.tuple #[.int .i64 (if numOk x = true then numZ x else 0), .bool (numOk x)]) ∧ Below W.heap.size W w') := fun W => HNB.out W
      clear HNB
      generalize numZ x = z at HNB2 HST
      cases hnx : numOk x with
      | false =>
        rw [hnx] at HNB2
        have HNB3 : Hid (∀ W, Calls Tryz.prog 158 #[.string ⟨x.toArray⟩, .int .i64 12] W fun e w' => e = .returned (.tuple #[.int .i64 0, .bool false]) ∧ Below W.heap.size W w') := HNB2.out
        have HF := Lib.hid (HFF.out hnx)
        clear HFF HNX HST HNB2 hnx
        as_aux_lemma =>
          go_wp2_with fail
          refine (HNB3.out wr).mono ?_
          rintro e w2 ⟨rfl, hb2⟩
          have HE : Hid (NumsPost xs w (.returned (.tuple #[.slice none 0 0, .bool false])) w2) := ⟨(fun h => (by rw [HF.out] at h; cases h)), (fun _ => rfl), ext_trans HB.out hb2⟩
          clear hb2 HO HB HF
          as_aux_lemma =>
            go_wp2_with fail
            go_ret2
            exact HE.out
      | true =>
        rw [hnx] at HNB2
        have HNB3 : Hid (∀ W, Calls Tryz.prog 158 #[.string ⟨x.toArray⟩, .int .i64 12] W fun e w' => e = .returned (.tuple #[.int .i64 z, .bool true]) ∧ Below W.heap.size W w') := HNB2.out
        have HN2 := Lib.hid (HNX.out hnx)
        clear HFF HNX HNB2 hnx
        as_aux_lemma =>
          go_wp2_with fail
          refine (HNB3.out wr).mono ?_
          rintro e w2 ⟨rfl, hb2⟩
          have HB2 := Lib.hid (ext_trans HB.out hb2)
          have hoz := own_keep HO.out hb2
          obtain ⟨oa, oc, rfl⟩ := own_shape hoz
          have hrow : w.heap.size ≤ w2.heap.size := HB2.out.size
          have HOA : Hid (World.ownsRow (w2.alloc (.cells #[.int .i64 z] 3)) w.heap.size 3 1 (.slice oa i oc) i (numsV (xs.take i))) := World.ownsRow.alloc hoz (.cells #[.int .i64 z] 3)
          have HNA : Hid (Blk (w2.alloc (.cells #[.int .i64 z] 3)) w2.heap.size [.int .i64 z] 3) := Blk.new w2 [.int .i64 z] 3
          have hvw : ∀ b, (Value.slice oa i oc).ownBlock = some b → w.heap.size ≤ b := fun b e => (hoz.lt b e).1
          clear hoz hb2 HO HB HNB3
          as_aux_lemma =>
            go_wp2_with (first | (refine wpList_val rfl (bl_dkw0 _ (fun _ => rfl) _ _ 26 z rfl rfl) ?_) | (at_builtin; go_loud (refine wpList_append_own_at _ rfl (.tmp 25) (.tmp 27) 22 rfl w.heap.size 3 i0 _ 1 8 Tryz.underlying22 hi hz0 hz1 hz2 rfl (by omega) (.slice oa i oc) i _ rfl HOA.out ⟨w2.heap.size, 0, none⟩ 1 1 [.int .i64 z] rfl rfl (fun j u hj => by rw [add0]; exact HNA.out.cell j hj) (by simp [Value.oneCell']) (by simp only [maxLen]; omega) (by omega) (by simp; omega) ?_); intro v12 w12 hown12 hgr12 _ hat12; have HQ1 := Lib.hid hown12; have HQ2 := Lib.hid hgr12; clear hown12 hgr12 hat12 HOA HNA; refine Hid.out ?_))
            refine Lib.hid ?_
            have HO12 : Hid (w12.ownsRow w.heap.size 3 1 v12 (i + 1) (numsV (xs.take (i + 1)))) := by
              show World.ownsRow _ _ _ _ _ _ _
              rw [HST.out]
              exact HQ1.out
            have HB12 : Hid (Below w.heap.size w w12) := HB2.out.trans (upto_grown HQ2.out hrow hvw)
            clear HQ1 HQ2 HB2 HST
            as_aux_lemma =>
              go_wp2_with fail
              go_roundw
              case rel => exact ⟨i + 1, by omega, by go_num, HN2.out, HO12.out, HB12.out⟩
              case measure => simp [intOf]; omega
end Go.Proofs.YtleagenhnchjdaaGreatDoor

set_option linter.unusedVariables false
set_option linter.unusedSimpArgs false
namespace Go.Proofs.YtleagenhnchjdaaGreatDoor
open Go.RowKit Go.Lib

theorem ixB_app {c : UInt8} : ∀ {a : List UInt8} (r : List UInt8), c ∉ a → Lib.indexByte (a ++ c :: r) c = a.length
  | [], r, _ => by simp [Lib.indexByte]
  | b :: a, r, h => by
    have hb : ¬ b = c := fun e => h (by rw [e]; exact List.mem_cons_self)
    have ih := ixB_app (a := a) r (fun e => h (List.mem_cons_of_mem _ e))
    have h1 : (b == c) = false := by simpa using hb
    have h2 : ((a.length : Int) == -1) = false := by simp
    simp only [List.cons_append, Lib.indexByte, h1, ih, h2, List.length_cons]
    simp
theorem ixB_no {c : UInt8} : ∀ {a : List UInt8}, c ∉ a → Lib.indexByte a c = -1
  | [], _ => rfl
  | b :: a, h => by
    have hb : ¬ b = c := fun e => h (by rw [e]; exact List.mem_cons_self)
    have ih := ixB_no (a := a) (fun e => h (List.mem_cons_of_mem _ e))
    have h1 : (b == c) = false := by simpa using hb
    simp only [Lib.indexByte, h1, ih]
    simp
theorem wordsL_eq (s : List UInt8) : wordsL s = Lib.splitK [32] 0 (Lib.count s [32]) s := Lib.splitB_data ⟨#[32]⟩ 0 _ ⟨s.toArray⟩
theorem wordsL_one {a : List UInt8} (h : (32 : UInt8) ∉ a) : wordsL a = [a] := by
  have h1 : Lib.index a [32] = -1 := by rw [Lib.index_one]; exact ixB_no h
  rw [wordsL_eq, Lib.count_miss h1]
  rfl
theorem wordsL_app {a : List UInt8} (r : List UInt8) (h : (32 : UInt8) ∉ a) : wordsL (a ++ 32 :: r) = a :: wordsL r := by
  have h1 : Lib.index (a ++ 32 :: r) [32] = a.length := by rw [Lib.index_one]; exact ixB_app r h
  have hd : (a ++ 32 :: r).drop (a.length + 1) = r := by
    rw [← List.drop_drop, List.drop_left]
    rfl
  rw [wordsL_eq, Lib.count_hit (i := a.length) (by simp) h1, Nat.add_comm]
  show Lib.splitK [32] 0 (Lib.count ((a ++ 32 :: r).drop (a.length + 1)) [32] + 1) (a ++ 32 :: r) = _
  rw [hd]
  unfold Lib.splitK
  have hm : ((a.length : Int) == -1) = false := by simp
  have e2 : ((a.length : Int)).toNat = a.length := by omega
  rw [h1, hm, e2]
  have ht : (a ++ 32 :: r).take (a.length + 0) = a := by rw [Nat.add_zero, List.take_left]
  rw [if_neg (by simp), ht]
  show a :: Lib.splitK [32] 0 _ ((a ++ 32 :: r).drop (a.length + 1)) = _
  rw [hd, wordsL_eq]
/-- Words behind one another, with spaces between them. -/
def spaced : List (List UInt8) → List UInt8
  | [] => []
  | [a] => a
  | a :: b :: l => a ++ 32 :: spaced (b :: l)
theorem wordsL_spaced : ∀ (ws : List (List UInt8)), ws ≠ [] → (∀ x ∈ ws, (32 : UInt8) ∉ x) → wordsL (spaced ws) = ws
  | [], h, _ => absurd rfl h
  | [a], _, h => wordsL_one (h a List.mem_cons_self)
  | a :: b :: l, _, h => by
    show wordsL (a ++ 32 :: spaced (b :: l)) = _
    rw [wordsL_app _ (h a List.mem_cons_self), wordsL_spaced (b :: l) (by simp) (fun x hx => h x (List.mem_cons_of_mem _ hx))]
theorem join_spaced : ∀ (ws : List (List UInt8)), Lib.join ws [32] = spaced ws
  | [] => rfl
  | [a] => by simp [Lib.join, spaced, List.intercalate, List.intersperse]
  | a :: b :: l => by
    have ih := join_spaced (b :: l)
    unfold Lib.join List.intercalate at ih ⊢
    rw [List.intersperse_cons_cons]
    simp only [List.flatten_cons]
    rw [ih]
    rfl
theorem spaced_len : ∀ (ws : List (List UInt8)) (m : Nat), (∀ x ∈ ws, x.length ≤ m) → (spaced ws).length ≤ ws.length * (m + 1)
  | [], m, _ => by simp [spaced]
  | [a], m, h => by have := h a List.mem_cons_self; simp [spaced]; omega
  | a :: b :: l, m, h => by
    have h1 := h a List.mem_cons_self
    have h2 := spaced_len (b :: l) m (fun x hx => h x (List.mem_cons_of_mem _ hx))
    show (a ++ 32 :: spaced (b :: l)).length ≤ _
    rw [List.length_append, List.length_cons]
    simp only [List.length_cons] at h2 ⊢
    rw [Nat.add_mul (l.length + 1) 1 (m + 1)]
    omega
theorem spaced_nl : ∀ (ws : List (List UInt8)), (∀ x ∈ ws, (10 : UInt8) ∉ x) → (10 : UInt8) ∉ spaced ws
  | [], _, h => by cases h
  | [a], hx, h => hx a List.mem_cons_self h
  | a :: b :: l, hx, h => by
    have h' : (10 : UInt8) ∈ a ++ 32 :: spaced (b :: l) := h
    rcases List.mem_append.1 h' with h1 | h1
    · exact hx a List.mem_cons_self h1
    · rcases List.mem_cons.1 h1 with h2 | h2
      · exact absurd h2 (by decide)
      · exact spaced_nl (b :: l) (fun x hm => hx x (List.mem_cons_of_mem _ hm)) h2
/-- The line at the head of a text. -/
theorem cut_line {a : List UInt8} (r : List UInt8) (h : (10 : UInt8) ∉ a) : Lib.cut (a ++ 10 :: r) [10] = (a, r, true) := by
  have h1 : Lib.index (a ++ 10 :: r) [10] = a.length := by rw [Lib.index_one]; exact ixB_app r h
  have hd : (a ++ 10 :: r).drop (a.length + 1) = r := by rw [← List.drop_drop, List.drop_left]; rfl
  unfold Lib.cut
  rw [h1, if_pos (by omega)]
  have e2 : ((a.length : Int)).toNat = a.length := by omega
  rw [e2, List.take_left]
  show (a, (a ++ 10 :: r).drop (a.length + 1), true) = _
  rw [hd]
end Go.Proofs.YtleagenhnchjdaaGreatDoor

set_option linter.unusedVariables false
set_option linter.unusedSimpArgs false
namespace Go.Proofs.YtleagenhnchjdaaGreatDoor
open Go.RowKit

theorem jbl_write (B b : Nat) (bs : List Value) (s : ByteArray) (w : World) (h : Lib.IsBuilder 138 5 B b bs w) (hlen : bs.length + s.size ≤ 140737488355328) (hBw : B ≤ w.heap.size) :
    Calls Tryz.prog 58 #[.pointer (some ⟨b, 0, none⟩), .string s] w fun e w' => e = .returned (.tuple #[.int .i64 s.size, .nilIface]) ∧ (Lib.BuilderAt 138 5 B b (.pointer (some ⟨b, 0, none⟩)) (bs ++ Lib.strCells s) w' ∧ Below B w w') := Any.Builder_WriteString { Tryz.lays156 with } Tryz.extra156 B b bs s w h hlen hBw
theorem jbl_string (B b : Nat) (l : List UInt8) (w : World) (h : Lib.IsBuilder 138 5 B b (Lib.byteCells l) w) (hBw : B ≤ w.heap.size) :
    Calls Tryz.prog 63 #[.pointer (some ⟨b, 0, none⟩)] w fun e w' => e = .returned (.string ⟨l.toArray⟩) ∧ Below B w w' := Any.Builder_String_any { Tryz.lays156 with } Tryz.extra156 B b l w h hBw
theorem jbl_writeL (B b : Nat) (bs : List Value) (l : List UInt8) (w : World) (h : Lib.IsBuilder 138 5 B b bs w) (hlen : bs.length + l.length ≤ 140737488355328) (hBw : B ≤ w.heap.size) :
    Calls Tryz.prog 58 #[.pointer (some ⟨b, 0, none⟩), .string ⟨l.toArray⟩] w fun e w' => e = .returned (.tuple #[.int .i64 (l.length : Int), .nilIface]) ∧ (Lib.BuilderAt 138 5 B b (.pointer (some ⟨b, 0, none⟩)) (bs ++ Lib.strCells ⟨l.toArray⟩) w' ∧ Below B w w') := by
  have h9 := jbl_write B b bs ⟨l.toArray⟩ w h (by rw [size_l]; exact hlen) hBw
  rw [size_l] at h9
  exact h9
theorem joinW (xs : List (List UInt8)) (g c : Nat) (w : World) (hc : ∀ j, j < xs.length → w.cell? ⟨g, j, none⟩ = some (.string ⟨(xs.getD j []).toArray⟩)) (hg : g < w.heap.size) (hcap : xs.length ≤ c) (hlen : (spaced xs).length ≤ 100000) (hn : xs.length ≤ 1000) :
    Calls Tryz.prog 59 #[.slice (some ⟨g, 0, none⟩) xs.length c, .string ⟨#[32]⟩] w fun e w' => e = .returned (.string ⟨(spaced xs).toArray⟩) ∧ Below w.heap.size w w' := by
  have e1 : (xs.map (fun x => (⟨x.toArray⟩ : ByteArray))).map (·.data.toList) = xs := by simp [Function.comp_def]
  have e2 : Lib.join ((xs.map (fun x => (⟨x.toArray⟩ : ByteArray))).map (·.data.toList)) [32] = spaced xs := by rw [e1, join_spaced]
  have := Tryz.strings_Join g 0 c (xs.map (fun x => ⟨x.toArray⟩)) ⟨#[32]⟩ w (fun j x hx => by
    rw [List.getElem?_map] at hx
    cases hj : xs[j]? with
    | none => rw [hj] at hx; cases hx
    | some y =>
      rw [hj] at hx
      injection hx with hx
      have hjl : j < xs.length := (List.getElem?_eq_some_iff.1 hj).1
      rw [Nat.zero_add, hc j hjl, ← hx, List.getD_eq_getElem?_getD, hj]
      rfl) hg (by rw [List.length_map]; omega) (by rw [List.length_map]; exact hcap) (by
    show (Lib.join _ [32]).length ≤ _
    rw [e2]; omega)
  rw [List.length_map] at this
  refine this.mono fun e w' h => ⟨?_, h.2⟩
  rw [h.1]
  show Ending.returned (Value.string ⟨(Lib.join _ [32]).toArray⟩) = _
  rw [e2]
end Go.Proofs.YtleagenhnchjdaaGreatDoor

namespace Go.Proofs.YtleagenhnchjdaaGreatDoor

section
variable {P : Program} {Q : Exit → Act → World → Prop}
/-- **A region that draws, in a forced order, its last operation behind the others**: S need not hold behind that one. -/
theorem region_lastI {S : World → Prop} {id : Nat} {L : List Oper} {st : Oper} {a : Act} {w : World} (l : List (Bool × Nat)) (hm : P.follows .mixedOrders = true) (hst : L.getLast? = some st) (hg : st.guard = none) (hc : lastChk L.toArray (L.length - 1) = true)
    (hs : Region.noSelect L.dropLast.toArray = true) (hlen : l.length = L.length - 1) (hok : seqOkI L.dropLast.toArray l (Array.replicate (L.length - 1) false) = true)
    (hS : S w.drew) (h : wpSeqI P L.dropLast.toArray (lastQ P st Q) S (seqOps L.dropLast l) a w.drew) : (Code.region id L.toArray true).wp P Q a w := by
  have hd : L.dropLast.toArray.size = L.length - 1 := by simp
  refine region_last_held (S := S) (ops' := L.dropLast.toArray) (st := st) hm ?_ hg (by rw [hd]; exact hc) hS fun hS => ?_
  · obtain ⟨hne, he⟩ : ∃ hne : L ≠ [], L.getLast hne = st := by
      cases L with
      | nil => simp at hst
      | cons x xs => exact ⟨by simp, by rw [List.getLast?_eq_some_getLast (by simp)] at hst; exact Option.some.inj hst⟩
    have := List.dropLast_concat_getLast hne
    rw [he] at this
    conv => lhs; rw [← this]
    simp
  · have hok' : seqOkI L.dropLast.toArray l (Array.replicate L.dropLast.toArray.size false) = true := by rw [hd]; exact hok
    have hl : L.dropLast.toArray.size = l.length := by rw [hd, hlen]
    have := seqI_held (Q := lastQ P st Q) hs l _ a _ hok' hS h
    rw [← hl] at this
    exact this
end
end Go.Proofs.YtleagenhnchjdaaGreatDoor

set_option linter.unusedVariables false
set_option linter.unusedSimpArgs false
namespace Go.Proofs.YtleagenhnchjdaaGreatDoor
open Go.RowKit Go.Sort Go.Lib

theorem wp_callZ {P : Program} {o : Oper} {a : Act} {w : World} {R : Ending → World → Prop} {K : Act → World → Prop} {Q : Exit → Act → World → Prop} (f : Nat) (vs : Array Value) (h : (execOp a.eval o).run P w = .ok (.enter f vs) w) (hc : Calls P f vs w R) (hR : ∀ e w', R e w' → ∃ v, e = .returned v ∧ K (a.put o.dst v) w') : Oper.wp P o a w K Q := by
  unfold Oper.wp; rw [h]
  refine Calls.mono hc fun e w' he => ?_
  obtain ⟨v, rfl, hk⟩ := hR e w' he
  exact hk
def wordsR : List (List UInt8) := [[116, 97, 108, 107, 101, 100], [109, 105, 115, 115, 101, 100], [98, 117, 115, 121], [102, 97, 105, 108, 101, 100]]
def howW (k : Int) : List UInt8 := wordsR.getD (k - 1).toNat []
theorem wordsR_at {k : Int} (h1 : 1 ≤ k) (h5 : k ≤ 4) : wordsR[(k - 1).toNat]? = some (howW k) := by
  have : k = 1 ∨ k = 2 ∨ k = 3 ∨ k = 4 := by omega
  rcases this with rfl | rfl | rfl | rfl <;> rfl
theorem howW_len {k : Int} (h1 : 1 ≤ k) (h5 : k ≤ 4) : (howW k).length ≤ 7 := by
  have : k = 1 ∨ k = 2 ∨ k = 3 ∨ k = 4 := by omega
  rcases this with rfl | rfl | rfl | rfl <;> decide
def carW (c : List UInt8) : List UInt8 := if c = [] then [45] else c
/-- The words of a record's line. -/
def recW (a : Vrec) : List (List UInt8) := [a.id, a.frm, a.to_, Lib.itoa a.at_, Lib.itoa a.ring, Lib.itoa a.talk, howW a.how, carW a.car]
def recT (a : Vrec) : List UInt8 := spaced (recW a) ++ [10]
def recsT (l : List Vrec) : List UInt8 := (l.map recT).flatten
def TextR (t : List UInt8) (w : World) (e : Ending) (w' : World) : Prop := e = .returned (.tuple #[.string ⟨t.toArray⟩, .int .i64 0]) ∧ Below w.heap.size w w'
theorem recsT_step (l : List Vrec) (i : Nat) (hi : i < l.length) : recsT (l.take (i + 1)) = recsT (l.take i) ++ recT (l.getD i default) := by
  unfold recsT
  rw [rtake_succ l hi, List.map_append, List.flatten_append]
  simp
theorem itoa_lenR (n : Int) (h0 : 0 ≤ n) (h1 : n ≤ 4398046511104) : (Lib.itoa n).length ≤ 21 := Lib.itoa_length_le n (by omega) (by omega)
theorem recW_len {a : Vrec} (h : RecGood a) (hb : RecB a) : ∀ x ∈ recW a, x.length ≤ 40 := fun x hx => by
  have hm := h.mom
  unfold isMomB at hm
  simp only [Bool.and_eq_true, decide_eq_true_eq] at hm
  unfold recW at hx
  simp only [List.mem_cons, List.not_mem_nil, or_false] at hx
  rcases hx with rfl | rfl | rfl | rfl | rfl | rfl | rfl | rfl
  · have := hb.id; omega
  · have := hb.frm; omega
  · have := hb.to_; omega
  · have := itoa_lenR a.at_ hm.1 (by omega); omega
  · have := itoa_lenR a.ring h.ring0 (by have := h.ring1; omega); omega
  · have := itoa_lenR a.talk h.talk0 (by have := h.talk1; omega); omega
  · have := howW_len h.how0 h.how1; omega
  · have := carsB_len _ hb.car
    unfold carW
    split
    · decide
    · omega
theorem recT_len {a : Vrec} (h : RecGood a) (hb : RecB a) : (spaced (recW a)).length ≤ 328 ∧ (recT a).length ≤ 329 := by
  have h1 := spaced_len (recW a) 40 (recW_len h hb)
  have h2 : (recW a).length = 8 := rfl
  rw [h2] at h1
  unfold recT
  rw [List.length_append]
  simp only [List.length_cons, List.length_nil]
  omega
theorem recsT_len {l : List Vrec} (h : RecsOk l) (hb : ∀ a ∈ l, RecB a) : ∀ i, i ≤ l.length → (recsT (l.take i)).length ≤ 329 * i
  | 0, _ => by simp [recsT]
  | i + 1, hi => by
    have ih := recsT_len h hb i (by omega)
    rw [recsT_step l i (by omega), List.length_append]
    have := (recT_len (h.good _ (rget_mem (show i < l.length by omega))) (hb _ (rget_mem (show i < l.length by omega)))).2
    omega
theorem bl_rtx0 (e : Operand → Value) (he : ∀ v, e (.const v) = v) (o : Oper) (w : World)  (p0 : ByteArray) (p1 : ByteArray) (p2 : ByteArray) (p3 : ByteArray) (ho : o.op = .buildSlice 27 4 #[(0, .const (.string p0)), (1, .const (.string p1)), (2, .const (.string p2)), (3, .const (.string p3))])  :
   (execOp e o).run Tryz.prog w = .ok (.value (.slice (some ⟨w.heap.size, 0, none⟩) 4 4)) (w.alloc (.cells #[.string p0, .string p1, .string p2, .string p3] 9)) := by
  unfold execOp
  rw [ho]
  simp only [List.map_toArray, List.map_cons, List.map_nil, he]
  kernel_rfl
theorem bl_rtx1 (e : Operand → Value) (he : ∀ v, e (.const v) = v) (o : Oper) (w : World) (i0 : Nat) (i1 : Nat) (i2 : Nat) (i3 : Nat) (i4 : Nat) (i5 : Nat) (i6 : Nat) (i7 : Nat) (p0 : ByteArray) (p1 : ByteArray) (p2 : ByteArray) (p3 : ByteArray) (p4 : ByteArray) (p5 : ByteArray) (p6 : ByteArray) (p7 : ByteArray) (ho : o.op = .buildSlice 27 8 #[(0, .tmp i0), (1, .tmp i1), (2, .tmp i2), (3, .tmp i3), (4, .tmp i4), (5, .tmp i5), (6, .tmp i6), (7, .tmp i7)]) (h0 : e (.tmp i0) = .string p0) (h1 : e (.tmp i1) = .string p1) (h2 : e (.tmp i2) = .string p2) (h3 : e (.tmp i3) = .string p3) (h4 : e (.tmp i4) = .string p4) (h5 : e (.tmp i5) = .string p5) (h6 : e (.tmp i6) = .string p6) (h7 : e (.tmp i7) = .string p7) :
   (execOp e o).run Tryz.prog w = .ok (.value (.slice (some ⟨w.heap.size, 0, none⟩) 8 8)) (w.alloc (.cells #[.string p0, .string p1, .string p2, .string p3, .string p4, .string p5, .string p6, .string p7] 9)) := by
  unfold execOp
  rw [ho]
  simp only [List.map_toArray, List.map_cons, List.map_nil, h0, h1, h2, h3, h4, h5, h6, h7]
  kernel_rfl
set_option maxRecDepth 100000 in
theorem wordsR_any (w : World) : Calls Tryz.prog 61 #[] w fun e w' => e = .returned (.slice (some ⟨w.heap.size, 0, none⟩) 4 4) ∧ w' = w.alloc (.cells #[.string ⟨#[116, 97, 108, 107, 101, 100]⟩, .string ⟨#[109, 105, 115, 115, 101, 100]⟩, .string ⟨#[98, 117, 115, 121]⟩, .string ⟨#[102, 97, 105, 108, 101, 100]⟩] 9) := by
  go_enter Tryz.func61, Tryz.ntmps61
  go_wp2_with ((refine wpList_val rfl (bl_rtx0 _ (fun _ => rfl) _ _  ⟨#[116, 97, 108, 107, 101, 100]⟩ ⟨#[109, 105, 115, 115, 101, 100]⟩ ⟨#[98, 117, 115, 121]⟩ ⟨#[102, 97, 105, 108, 101, 100]⟩ rfl) ?_))
  go_ret
  exact ⟨rfl, rfl⟩
set_option maxRecDepth 100000 in
set_option maxHeartbeats 16000000 in
theorem textR_any (w : World) (base : Nat) (v : Value) (l : List Vrec) (h : VrecRow w base v l) (hl : l.length ≤ 50) (hok : RecsOk l) (hb : ∀ a ∈ l, RecB a) (S : Nat) (hT : TabW S w) (hS : S ≤ w.heap.size) :
    Calls Tryz.prog 26 #[v] w (TextR (recsT l) w) := by
  have HCK := Lib.hid (checkRecs_any w base v l h (by omega) hok hb)
  have HO : Hid (w.ownsRow base 50 8 v l.length ((l.map Vrec.cells).flatten)) := h
  unfold VrecRow at h
  obtain ⟨a, cap, rfl⟩ := own_shape h
  have HST := Lib.hid (recsT_step l)
  have HTL := Lib.hid (recsT_len hok hb)
  have HTW : Hid (∀ W, Below w.heap.size w W → TabW S W) := fun W hW => tab_below hT hW hS
  have HIT : Hid (∀ z W, 0 ≤ z → z ≤ 4398046511104 → Below w.heap.size w W → Calls Tryz.prog 60 #[.int .i64 z] W fun e w' => e = .returned (.string ⟨(Lib.itoa z).toArray⟩) ∧ Below W.heap.size W w') := fun z W h0 h1 hW => itoa_any z (by omega) (by omega) S W (HTW.out W hW)
  have HOK := Lib.hid hok
  have HAB := Lib.hid hb
  clear HTW hT
  obtain ⟨n, hn⟩ : ∃ n, n = l.length := ⟨_, rfl⟩
  have HN := Lib.hid hn
  rw [← hn] at HO HCK hl ⊢
  clear hn h hok hb
  go_enter Tryz.func26, Tryz.ntmps26
  go_wp2_with fail
  refine HCK.out.mono ?_
  rintro e w2 ⟨rfl, hb⟩
  have HB2 := Lib.hid hb
  have hw2 : w.heap.size ≤ w2.heap.size := hb.size
  clear hb HCK
  have HBD : Hid (Lib.IsBuilder 138 5 w2.heap.size w2.heap.size [] (w2.alloc (.cells #[.pointer none, .slice none 0 0] 138))) := Lib.fresh_isBuilder _ _ w2
  have HB1 : Hid (Below w.heap.size w (w2.alloc (.cells #[.pointer none, .slice none 0 0] 138))) := ext_trans HB2.out (ext_alloc (Below.refl _ _))
  as_aux_lemma =>
    go_upto_region 5 with (fail)
    generalize w2.alloc (.cells #[.pointer none, .slice none 0 0] 138) = w1 at HBD HB1 ⊢
    obtain ⟨B, hB⟩ : ∃ B, B = w2.heap.size := ⟨_, rfl⟩
    rw [← hB] at HBD hw2
    simp only [← hB]
    clear hB HB2
    have HBZ : Hid (Lib.IsBuilder 138 5 B B (Lib.byteCells (recsT (l.take 0))) w1) := HBD.out
    clear HBD
    as_aux_lemma =>
      go_wp2_with fail
      go_loopw [16] (fun it wr => ∃ i : Nat, i ≤ n ∧ it = .int .i64 i ∧ Hid (Lib.IsBuilder 138 5 B B (Lib.byteCells (recsT (l.take i))) wr) ∧ Hid (Below B w1 wr)) (fun it _ => n - (intOf it).toNat)
      case atStart => exact ⟨0, Nat.zero_le _, rfl, HBZ.out, Below.refl _ _⟩
      case round =>
        clear HBZ
        obtain ⟨i, hi, rfl, HL, HBq⟩ := hrel
        by_cases hlt : i < n
        case neg =>
          obtain rfl : i = n := by omega
          have hin : ¬ ((i : Int) < (i : Int)) := by omega
          have hlen9 := HTL.out i (by have := HN.out; omega)
          have HAL : Hid (recsT (l.take i) = recsT l) := by show _ = _; rw [List.take_of_length_le (by have := HN.out; omega)]
          rw [HAL.out] at HL hlen9
          obtain ⟨DT, hDT⟩ : ∃ D, D = recsT l := ⟨_, rfl⟩
          rw [← hDT] at HL hlen9
          have HDT := Lib.hid hDT
          clear HAL HST HTL HIT hDT
          as_aux_lemma =>
            go_wp2_with fail
            refine (Tryz.builder_LenT B B _ wr HL.out).mono ?_
            rintro e w9 ⟨rfl, hw9⟩
            replace hw9 := hw9.symm
            subst hw9
            have hlen : ¬ (200000 : Int) < ((Lib.byteCells DT).length : Int) := by rw [cells_len]; omega
            as_aux_lemma =>
              go_wp2_with fail
              refine (jbl_string B B DT wr HL.out (Nat.le_of_lt (bld_lt HL.out))).mono ?_
              rintro e w9 ⟨rfl, hb9⟩
              have HB9 : Hid (Below w.heap.size w w9) := HB1.out.trans ((HBq.out.trans hb9).mono hw2)
              clear hb9 HL
              as_aux_lemma =>
                go_wp2_with fail
                go_ret2
                exact ⟨by rw [← HDT.out]; rfl, HB9.out⟩
        have hin : (i : Int) < (n : Int) := by omega
        have hil : i < l.length := by have := HN.out; omega
        have HBW : Hid (Below w.heap.size w wr) := HB1.out.trans (HBq.out.mono hw2)
        have hO := own_keep HO.out HBW.out
        obtain ⟨g, rfl, hg0, hgw⟩ := own_pos hO (by have := HN.out; omega)
        have d0 := own_field Vrec.cells (fun _ => rfl) hO i 0 default hil (by omega) rfl
        have d1 := own_field Vrec.cells (fun _ => rfl) hO i 1 default hil (by omega) rfl
        have d2 := own_field Vrec.cells (fun _ => rfl) hO i 2 default hil (by omega) rfl
        have d3 := own_field Vrec.cells (fun _ => rfl) hO i 3 default hil (by omega) rfl
        have d4 := own_field Vrec.cells (fun _ => rfl) hO i 4 default hil (by omega) rfl
        have d5 := own_field Vrec.cells (fun _ => rfl) hO i 5 default hil (by omega) rfl
        have d6 := own_field Vrec.cells (fun _ => rfl) hO i 6 default hil (by omega) rfl
        have d7 := own_field Vrec.cells (fun _ => rfl) hO i 7 default hil (by omega) rfl
        have hgd := HOK.out.good _ (rget_mem hil)
        have hab := HAB.out _ (rget_mem hil)
        have HAT := Lib.hid (HST.out i hil)
        have htl := HTL.out i (by omega)
        rw [Nat.add_zero] at d0
        obtain ⟨x, hx⟩ : ∃ x, x = l.getD i default := ⟨_, rfl⟩
        rw [← hx] at d0 d1 d2 d3 d4 d5 d6 d7 hgd hab HAT
        clear hx hO
        have hmom := hgd.mom
        unfold isMomB at hmom
        simp only [Bool.and_eq_true, decide_eq_true_eq] at hmom
        have hr0 := hgd.ring0
        have hr1 := hgd.ring1
        have ht0 := hgd.talk0
        have ht1 := hgd.talk1
        have hk1 := hgd.how0
        have hk5 := hgd.how1
        have hlens := recT_len hgd hab
        have hTT : recT x = spaced (recW x) ++ [10] := rfl
        have HAW : Hid (recW x = [x.id, x.frm, x.to_, Lib.itoa x.at_, Lib.itoa x.ring, Lib.itoa x.talk, howW x.how, carW x.car]) := rfl
        rw [hTT, HAW.out] at HAT
        have hsp := hlens.1
        rw [HAW.out] at hsp
        clear hgd hab hlens hTT HAW
        obtain ⟨xi, x1, x2, x3, x4, x5, x6, x7⟩ := x
        simp only at d0 d1 d2 d3 d4 d5 d6 d7 hmom hr0 hr1 ht0 ht1 hk1 hk5 HAT hsp
        obtain ⟨A3, hA3⟩ : ∃ A, A = Lib.itoa x3 := ⟨_, rfl⟩
        obtain ⟨A4, hA4⟩ : ∃ A, A = Lib.itoa x4 := ⟨_, rfl⟩
        obtain ⟨A5, hA5⟩ : ∃ A, A = Lib.itoa x5 := ⟨_, rfl⟩
        have HI3 : Hid (∀ W, Below w.heap.size w W → Calls Tryz.prog 60 #[.int .i64 x3] W fun e w' => e = .returned (.string ⟨A3.toArray⟩) ∧ Below W.heap.size W w') := fun W hW => by rw [hA3]; exact HIT.out x3 W hmom.1 (by omega) hW
        have HI4 : Hid (∀ W, Below w.heap.size w W → Calls Tryz.prog 60 #[.int .i64 x4] W fun e w' => e = .returned (.string ⟨A4.toArray⟩) ∧ Below W.heap.size W w') := fun W hW => by rw [hA4]; exact HIT.out x4 W hr0 (by omega) hW
        have HI5 : Hid (∀ W, Below w.heap.size w W → Calls Tryz.prog 60 #[.int .i64 x5] W fun e w' => e = .returned (.string ⟨A5.toArray⟩) ∧ Below W.heap.size W w') := fun W hW => by rw [hA5]; exact HIT.out x5 W ht0 (by omega) hW
        obtain ⟨kW, hkW⟩ : ∃ k, k = howW x6 := ⟨_, rfl⟩
        obtain ⟨cW, hcW⟩ : ∃ k, k = carW x7 := ⟨_, rfl⟩
        rw [← hA3, ← hA4, ← hA5, ← hkW, ← hcW] at HAT hsp
        have HKW : Hid (wordsR[(x6 - 1).toNat]? = some kW) := by rw [hkW]; exact wordsR_at hk1 hk5
        obtain ⟨kn, hkn⟩ : ∃ kn : Nat, x6 - 1 = (kn : Int) := ⟨(x6 - 1).toNat, by omega⟩
        rw [show (x6 - 1).toNat = kn by omega] at HKW
        have hkn5 : kn < 4 := by omega
        have hwk : IntKind.i64.wrap (x6 - 1) = (kn : Int) := by rw [hkn]; exact IntWalk.i64_in _ (by omega)
        have hkni : (kn : Int) < 4 := by omega
        have hkn0 : ¬ ((kn : Int) < 0) := by omega
        have HCW := Lib.hid hcW
        clear hA3 hA4 hA5 hkW hkn hmom hcW
        have X1 : Hid (Blk (wr.alloc (.cells #[.string ⟨xi.toArray⟩, .string ⟨x1.toArray⟩, .string ⟨x2.toArray⟩, .int .i64 x3, .int .i64 x4, .int .i64 x5, .int .i64 x6, .string ⟨x7.toArray⟩] 50)) wr.heap.size [.string ⟨xi.toArray⟩, .string ⟨x1.toArray⟩, .string ⟨x2.toArray⟩, .int .i64 x3, .int .i64 x4, .int .i64 x5, .int .i64 x6, .string ⟨x7.toArray⟩] 50) := Blk.new _ _ _
        have hA : Below wr.heap.size wr (wr.alloc (.cells #[.string ⟨xi.toArray⟩, .string ⟨x1.toArray⟩, .string ⟨x2.toArray⟩, .int .i64 x3, .int .i64 x4, .int .i64 x5, .int .i64 x6, .string ⟨x7.toArray⟩] 50)) := ext_alloc (Below.refl _ _)
        have HB3 := Lib.hid (ext_trans HBW.out hA)
        have HL3 := Lib.hid (bld_keep HL.out hA)
        have HQ3 : Hid (Below B w1 (wr.alloc (.cells #[.string ⟨xi.toArray⟩, .string ⟨x1.toArray⟩, .string ⟨x2.toArray⟩, .int .i64 x3, .int .i64 x4, .int .i64 x5, .int .i64 x6, .string ⟨x7.toArray⟩] 50))) := HBq.out.trans (hA.mono (Nat.le_of_lt (bld_lt HL.out)))
        clear hA HBW HL HBq
        as_aux_lemma =>
          go_upto_region 8 with (fail)
          clear d0 d1 d2 d3 d4 d5 d6 d7 hgw
          generalize (wr.alloc (.cells #[.string ⟨xi.toArray⟩, .string ⟨x1.toArray⟩, .string ⟨x2.toArray⟩, .int .i64 x3, .int .i64 x4, .int .i64 x5, .int .i64 x6, .string ⟨x7.toArray⟩] 50)) = w3 at X1 HB3 HL3 HQ3 ⊢
          generalize wr.heap.size = XB at X1 ⊢
          have c7 := X1.out.cell 7 rfl
          as_aux_lemma =>
            go_upto_if 23 with (fail)
            clear c7
            go_cut [8] (fun v wx => v = .string ⟨cW.toArray⟩ ∧ wx = w3)
            case first =>
              cases x7 with
              | nil =>
                have HCV : Hid (cW = [45]) := by show _ = _; rw [HCW.out]; rfl
                as_aux_lemma =>
                  go_wp2_with fail
                  go_meet
                  exact ⟨by rw [HCV.out], rfl⟩
              | cons c cs =>
                have HCV : Hid (cW = c :: cs) := by show _ = _; rw [HCW.out]; rfl
                have hcb : (c :: cs == []) = false := rfl
                as_aux_lemma =>
                  go_wp2_with fail
                  go_meet
                  exact ⟨by rw [HCV.out], rfl⟩
            case rest =>
              obtain ⟨rfl, rfl⟩ := hcut
              obtain ⟨w3, rfl⟩ : ∃ z : World, z = wc := ⟨_, rfl⟩
              clear HCW
              as_aux_lemma =>
                go_upto_region 11 with (fail)
                have hd : Below w3.heap.size w3 w3.drew := ext_drew (Below.refl _ _)
                have XD := Lib.hid (X1.out.below hd)
                have HBD := Lib.hid (ext_trans HB3.out hd)
                have HLD := Lib.hid (bld_keep HL3.out hd)
                have HQD : Hid (Below B w1 w3.drew) := HQ3.out.trans (hd.mono (Nat.le_of_lt (bld_lt HL3.out)))
                clear hd X1 HB3 HL3 HQ3
                have HCE : Hid (∀ W9, Below w3.drew.heap.size w3.drew W9 → W9.cell? ⟨XB, 0, none⟩ = some (.string ⟨xi.toArray⟩) ∧ W9.cell? ⟨XB, 1, none⟩ = some (.string ⟨x1.toArray⟩) ∧ W9.cell? ⟨XB, 2, none⟩ = some (.string ⟨x2.toArray⟩) ∧ W9.cell? ⟨XB, 3, none⟩ = some (.int .i64 x3) ∧ W9.cell? ⟨XB, 4, none⟩ = some (.int .i64 x4) ∧ W9.cell? ⟨XB, 5, none⟩ = some (.int .i64 x5) ∧ W9.cell? ⟨XB, 6, none⟩ = some (.int .i64 x6)) := fun W9 hW => ⟨(XD.out.below hW).cell 0 rfl, (XD.out.below hW).cell 1 rfl, (XD.out.below hW).cell 2 rfl, (XD.out.below hW).cell 3 rfl, (XD.out.below hW).cell 4 rfl, (XD.out.below hW).cell 5 rfl, (XD.out.below hW).cell 6 rfl⟩
                refine region_lastI (S := fun W9 => Below w3.drew.heap.size w3.drew W9) [(true, 0), (true, 1), (true, 2), (true, 3), (true, 4), (true, 5), (true, 6), (true, 7), (true, 9), (true, 10), (true, 12), (true, 13), (true, 16), (true, 17), (true, 18), (true, 21), (false, 8), (false, 11), (false, 14), (false, 15), (false, 19), (false, 20), (false, 22), (false, 23), (true, 24)] (by kernel_rfl) rfl rfl (by kernel_rfl) (by kernel_rfl) rfl (by kernel_rfl) (Below.refl _ _) ?_
                generalize w3.drew = wd at XD HBD HLD HQD HCE ⊢
                simp only [seqOps, List.dropLast, List.getD_cons_zero, List.getD_cons_succ]
                refine seqI_take (v := .pointer (some ⟨XB, 0, none⟩)) rfl (fun W9 hW => by clear hW; go_simp) (fun _ _ _ h => h) ?_
                simp only [Act.put, List.setIfInBounds_toArray, List.set_cons_zero, List.set_cons_succ]
                refine seqI_take (v := .string ⟨xi.toArray⟩) rfl (fun W9 hW => by obtain ⟨p0, p1, p2, p3, p4, p5, p6⟩ := HCE.out W9 hW; clear hW; go_simp) (fun _ _ _ h => h) ?_
                simp only [Act.put, List.setIfInBounds_toArray, List.set_cons_zero, List.set_cons_succ]
                refine seqI_take (v := .pointer (some ⟨XB, 1, none⟩)) rfl (fun W9 hW => by clear hW; go_simp) (fun _ _ _ h => h) ?_
                simp only [Act.put, List.setIfInBounds_toArray, List.set_cons_zero, List.set_cons_succ]
                refine seqI_take (v := .string ⟨x1.toArray⟩) rfl (fun W9 hW => by obtain ⟨p0, p1, p2, p3, p4, p5, p6⟩ := HCE.out W9 hW; clear hW; go_simp) (fun _ _ _ h => h) ?_
                simp only [Act.put, List.setIfInBounds_toArray, List.set_cons_zero, List.set_cons_succ]
                refine seqI_take (v := .pointer (some ⟨XB, 2, none⟩)) rfl (fun W9 hW => by clear hW; go_simp) (fun _ _ _ h => h) ?_
                simp only [Act.put, List.setIfInBounds_toArray, List.set_cons_zero, List.set_cons_succ]
                refine seqI_take (v := .string ⟨x2.toArray⟩) rfl (fun W9 hW => by obtain ⟨p0, p1, p2, p3, p4, p5, p6⟩ := HCE.out W9 hW; clear hW; go_simp) (fun _ _ _ h => h) ?_
                simp only [Act.put, List.setIfInBounds_toArray, List.set_cons_zero, List.set_cons_succ]
                refine seqI_take (v := .pointer (some ⟨XB, 3, none⟩)) rfl (fun W9 hW => by clear hW; go_simp) (fun _ _ _ h => h) ?_
                simp only [Act.put, List.setIfInBounds_toArray, List.set_cons_zero, List.set_cons_succ]
                refine seqI_take (v := .int .i64 x3) rfl (fun W9 hW => by obtain ⟨p0, p1, p2, p3, p4, p5, p6⟩ := HCE.out W9 hW; clear hW; go_simp) (fun _ _ _ h => h) ?_
                simp only [Act.put, List.setIfInBounds_toArray, List.set_cons_zero, List.set_cons_succ]
                refine seqI_take (v := .pointer (some ⟨XB, 4, none⟩)) rfl (fun W9 hW => by clear hW; go_simp) (fun _ _ _ h => h) ?_
                simp only [Act.put, List.setIfInBounds_toArray, List.set_cons_zero, List.set_cons_succ]
                refine seqI_take (v := .int .i64 x4) rfl (fun W9 hW => by obtain ⟨p0, p1, p2, p3, p4, p5, p6⟩ := HCE.out W9 hW; clear hW; go_simp) (fun _ _ _ h => h) ?_
                simp only [Act.put, List.setIfInBounds_toArray, List.set_cons_zero, List.set_cons_succ]
                refine seqI_take (v := .pointer (some ⟨XB, 5, none⟩)) rfl (fun W9 hW => by clear hW; go_simp) (fun _ _ _ h => h) ?_
                simp only [Act.put, List.setIfInBounds_toArray, List.set_cons_zero, List.set_cons_succ]
                refine seqI_take (v := .int .i64 x5) rfl (fun W9 hW => by obtain ⟨p0, p1, p2, p3, p4, p5, p6⟩ := HCE.out W9 hW; clear hW; go_simp) (fun _ _ _ h => h) ?_
                simp only [Act.put, List.setIfInBounds_toArray, List.set_cons_zero, List.set_cons_succ]
                refine seqI_take (v := .pointer (some ⟨XB, 6, none⟩)) rfl (fun W9 hW => by clear hW; go_simp) (fun _ _ _ h => h) ?_
                simp only [Act.put, List.setIfInBounds_toArray, List.set_cons_zero, List.set_cons_succ]
                refine seqI_take (v := .int .i64 x6) rfl (fun W9 hW => by obtain ⟨p0, p1, p2, p3, p4, p5, p6⟩ := HCE.out W9 hW; clear hW; go_simp) (fun _ _ _ h => h) ?_
                simp only [Act.put, List.setIfInBounds_toArray, List.set_cons_zero, List.set_cons_succ]
                refine seqI_take (v := .int .i64 kn) rfl (fun W9 hW => by clear hW; go_simp) (fun _ _ _ h => h) ?_
                simp only [Act.put, List.setIfInBounds_toArray, List.set_cons_zero, List.set_cons_succ]
                refine seqI_take (v := .string ⟨cW.toArray⟩) rfl (fun W9 hW => by clear hW; go_simp) (fun _ _ _ h => h) ?_
                simp only [Act.put, List.setIfInBounds_toArray, List.set_cons_zero, List.set_cons_succ]
                refine seqI_call _ _ rfl (by go_simp) (HI3.out wd HBD.out) ?_
                rintro e wa ⟨rfl, hbi⟩
                have hba := hbi
                clear hbi
                refine ⟨_, rfl, hba, ?_⟩
                simp only [Act.put, List.setIfInBounds_toArray, List.set_cons_zero, List.set_cons_succ]
                refine seqI_call _ _ rfl (by go_simp) (HI4.out wa (ext_trans HBD.out hba)) ?_
                rintro e wb ⟨rfl, hbi⟩
                have hbb := (ext_trans hba hbi)
                clear hbi
                refine ⟨_, rfl, hbb, ?_⟩
                simp only [Act.put, List.setIfInBounds_toArray, List.set_cons_zero, List.set_cons_succ]
                refine seqI_call _ _ rfl (by go_simp) (HI5.out wb (ext_trans HBD.out hbb)) ?_
                rintro e w6 ⟨rfl, hbi⟩
                have hb6 := (ext_trans hbb hbi)
                clear hbi
                refine ⟨_, rfl, hb6, ?_⟩
                simp only [Act.put, List.setIfInBounds_toArray, List.set_cons_zero, List.set_cons_succ]
                refine seqI_call _ _ rfl (by go_simp) (wordsR_any w6) ?_
                rintro e w7 ⟨rfl, hw7⟩
                have hb7 : Below w6.heap.size w6 w7 := by rw [hw7]; exact ext_alloc (Below.refl _ _)
                have hbd7 := ext_trans hb6 hb7
                have kc : w7.cell? ⟨w6.heap.size, kn, none⟩ = some (.string ⟨kW.toArray⟩) := by
                  have hbk : Blk w7 w6.heap.size (wordsR.map encS) 9 := by rw [hw7]; exact Blk.new _ _ _
                  refine hbk.cell kn ?_
                  rw [List.getElem?_map, HKW.out]
                  rfl
                clear hw7
                refine ⟨_, rfl, hbd7, ?_⟩
                simp only [Act.put, List.setIfInBounds_toArray, List.set_cons_zero, List.set_cons_succ]
                refine seqI_do rfl (wp_valA (w' := w7) (v := .pointer (some ⟨w6.heap.size, kn, none⟩)) (by go_simp) ⟨hbd7, ?_⟩)
                simp only [Act.put, List.setIfInBounds_toArray, List.set_cons_zero, List.set_cons_succ]
                refine seqI_do rfl (wp_valA (w' := w7) (v := .string ⟨kW.toArray⟩) (by go_simp) ⟨hbd7, ?_⟩)
                simp only [Act.put, List.setIfInBounds_toArray, List.set_cons_zero, List.set_cons_succ]
                have hb8 : Below w7.heap.size w7 (w7.alloc (.cells #[.string ⟨xi.toArray⟩, .string ⟨x1.toArray⟩, .string ⟨x2.toArray⟩, .string ⟨A3.toArray⟩, .string ⟨A4.toArray⟩, .string ⟨A5.toArray⟩, .string ⟨kW.toArray⟩, .string ⟨cW.toArray⟩] 9)) := ext_alloc (Below.refl _ _)
                have hbd8 := ext_trans hbd7 hb8
                refine seqI_do rfl (wp_valA (bl_rtx1 _ (fun _ => rfl) _ _ 25 27 29 32 35 38 44 45 ⟨xi.toArray⟩ ⟨x1.toArray⟩ ⟨x2.toArray⟩ ⟨A3.toArray⟩ ⟨A4.toArray⟩ ⟨A5.toArray⟩ ⟨kW.toArray⟩ ⟨cW.toArray⟩ rfl rfl rfl rfl rfl rfl rfl rfl rfl) ⟨hbd8, ?_⟩)
                simp only [Act.put, List.setIfInBounds_toArray, List.set_cons_zero, List.set_cons_succ]
                have B8 : Blk (w7.alloc (.cells #[.string ⟨xi.toArray⟩, .string ⟨x1.toArray⟩, .string ⟨x2.toArray⟩, .string ⟨A3.toArray⟩, .string ⟨A4.toArray⟩, .string ⟨A5.toArray⟩, .string ⟨kW.toArray⟩, .string ⟨cW.toArray⟩] 9)) w7.heap.size [.string ⟨xi.toArray⟩, .string ⟨x1.toArray⟩, .string ⟨x2.toArray⟩, .string ⟨A3.toArray⟩, .string ⟨A4.toArray⟩, .string ⟨A5.toArray⟩, .string ⟨kW.toArray⟩, .string ⟨cW.toArray⟩] 9 := Blk.new _ _ _
                refine seqI_call _ _ rfl (by go_simp) (joinW [xi, x1, x2, A3, A4, A5, kW, cW] w7.heap.size 8 (w7.alloc (.cells #[.string ⟨xi.toArray⟩, .string ⟨x1.toArray⟩, .string ⟨x2.toArray⟩, .string ⟨A3.toArray⟩, .string ⟨A4.toArray⟩, .string ⟨A5.toArray⟩, .string ⟨kW.toArray⟩, .string ⟨cW.toArray⟩] 9)) (fun j hj => by
                    match j, hj with
                    | 0, _ => exact B8.cell 0 rfl
                    | 1, _ => exact B8.cell 1 rfl
                    | 2, _ => exact B8.cell 2 rfl
                    | 3, _ => exact B8.cell 3 rfl
                    | 4, _ => exact B8.cell 4 rfl
                    | 5, _ => exact B8.cell 5 rfl
                    | 6, _ => exact B8.cell 6 rfl
                    | 7, _ => exact B8.cell 7 rfl) B8.lt (by show (8 : Nat) ≤ 8; omega) (by omega) (by show (8 : Nat) ≤ 1000; omega)) ?_
                rintro e w10 ⟨rfl, hb10⟩
                have hbd10 := ext_trans hbd8 hb10
                refine ⟨_, rfl, hbd10, ?_⟩
                simp only [Act.put, List.setIfInBounds_toArray, List.set_cons_zero, List.set_cons_succ]
                generalize spaced [xi, x1, x2, A3, A4, A5, kW, cW] = SP at HAT hsp ⊢
                obtain ⟨LT, hLT⟩ : ∃ LT, LT = SP ++ [10] := ⟨_, rfl⟩
                rw [← hLT] at HAT
                have HLT := Lib.hid hLT
                have hll : LT.length ≤ 329 := by rw [hLT, List.length_append]; simp only [List.length_cons, List.length_nil]; omega
                clear hLT
                refine seqI_take (v := .string ⟨LT.toArray⟩) rfl (fun W9 hW => by rw [HLT.out]; exact add_str _ _ _ _ _ SP [10] rfl rfl rfl (by simp only [List.length_cons, List.length_nil]; omega)) (fun _ _ _ h => h) ?_
                simp only [Act.put, List.setIfInBounds_toArray, List.set_cons_zero, List.set_cons_succ]
                have HL10 := Lib.hid (bld_keep HLD.out hbd10)
                have HQ10 : Hid (Below B w1 w10) := HQD.out.trans (hbd10.mono (Nat.le_of_lt (bld_lt HLD.out)))
                clear hba hbb hb6 hb7 hb8 hbd7 hbd8 hb10 kc B8 HCE XD HBD
                refine seqI_nil (Or.inl ?_)
                refine wp_callZ _ _ (by go_simp) (jbl_writeL B B (Lib.byteCells (recsT (l.take i))) LT w10 HL10.out (by rw [cells_len]; omega) (Nat.le_of_lt (bld_lt HL10.out))) ?_
                rintro e w11 ⟨rfl, hb2, hbb⟩
                refine ⟨_, rfl, ?_⟩
                simp only [Act.put, List.setIfInBounds_toArray, List.set_cons_zero, List.set_cons_succ]
                have HLX : Hid (Lib.IsBuilder 138 5 B B (Lib.byteCells (recsT (l.take (i + 1)))) w11) := by
                  show Lib.IsBuilder _ _ _ _ _ _
                  rw [HAT.out, ← cells_app]
                  exact Or.inr hb2
                have HQX := Lib.hid (HQ10.out.trans hbb)
                clear hb2 hbb HL10 HQ10 HLT HAT HLD HQD hbd10
                as_aux_lemma =>
                  go_wp2_with fail
                  go_roundw
                  case rel => exact ⟨i + 1, by omega, by go_num, HLX.out, HQX.out⟩
                  case measure => simp [intOf]; omega
end Go.Proofs.YtleagenhnchjdaaGreatDoor

set_option linter.unusedVariables false
set_option linter.unusedSimpArgs false
namespace Go.Proofs.YtleagenhnchjdaaGreatDoor
open Go.RowKit

def numOk15 (s : List UInt8) : Bool := rawB s 15 && canonB s
def NumPost15 (s : List UInt8) (w : World) (e : Ending) (w' : World) : Prop := e = .returned (.tuple #[.int .i64 (if numOk15 s = true then numZ s else 0), .bool (numOk15 s)]) ∧ Below w.heap.size w w'
theorem dec_bound15 {s : List UInt8} (h : rawB s 15 = true) : decT 0 (unsign s) < 1000000000000000 := by
  obtain ⟨h1, h2, h3⟩ := raw_parts h
  have h4 := dec_lt (unsign s) 0 h3
  have h5 : (10 : Nat) ^ (unsign s).length ≤ 10 ^ 15 := Nat.pow_le_pow_right (by omega) (by omega)
  omega
theorem numZ_raw15 {s : List UInt8} (h : rawB s 15 = true) : Lib.atoi s = some (numZ s) ∧ -1000000000000000 ≤ numZ s ∧ numZ s ≤ 1000000000000000 := by
  have h1 := atoi_raw h
  have h2 := dec_bound15 h
  have e : numZ s = if signB s = true then -(decT 0 (unsign s) : Int) else (decT 0 (unsign s) : Int) := by unfold numZ; rw [h1]; rfl
  rw [e]
  refine ⟨h1, ?_⟩
  split <;> omega
set_option maxRecDepth 100000 in
set_option maxHeartbeats 4000000 in
theorem number15_any (s : List UInt8) (w : World) (hs : s.length ≤ 1000000) : Calls Tryz.prog 158 #[.string ⟨s.toArray⟩, .int .i64 15] w (NumPost15 s w) := by
  have HOK : Hid (∀ z b W, (if numOk15 s = true then numZ s else 0) = z → numOk15 s = b → Below w.heap.size w W → NumPost15 s w (.returned (.tuple #[.int .i64 z, .bool b])) W) := fun z b W h1 h2 h3 => by unfold NumPost15; rw [h1, h2]; exact ⟨rfl, h3⟩
  have hul := unsign_len s
  have HCUT := Lib.hid (cutSign s w)
  have HTR := Lib.hid (trim_digits ⟨(unsign s).toArray⟩ w (by show (unsign s).toArray.size ≤ _; simp; omega))
  have HNK : Hid (numOk15 s = ((decide (1 ≤ ((unsign s).length : Int)) && (decide (((unsign s).length : Int) ≤ 15) && (Lib.trimS (unsign s) digitSet).isEmpty)) && (!((unsign s).headD 0 == 48) || (decide (unsign s = [48]) && !signB s)))) := rfl
  have HAT : Hid (rawB s 15 = true → ∀ W, Calls Tryz.prog 188 #[.string ⟨s.toArray⟩] W fun e w' => e = .returned (.tuple #[.int .i64 (numZ s), .nilIface]) ∧ Below W.heap.size W w') := fun h W => by
    obtain ⟨h1, h2, _⟩ := raw_parts h
    have h3 : s.length ≤ 18 := by
      rcases sign_cases s with ⟨_, q⟩ | ⟨_, q, _⟩ | q
      · rw [q, List.length_cons]; omega
      · rw [← q]; omega
      · rw [q]; decide
    exact atoi_l s (numZ s) h3 (numZ_raw15 h).1 W
  have HRW : Hid (rawB s 15 = (decide (1 ≤ ((unsign s).length : Int)) && (decide (((unsign s).length : Int) ≤ 15) && (Lib.trimS (unsign s) digitSet).isEmpty))) := rfl
  have HTR2 : Hid (Calls Tryz.prog 95 #[.string ⟨(unsign s).toArray⟩, .string ⟨#[48, 49, 50, 51, 52, 53, 54, 55, 56, 57]⟩] w fun e w' => e = .returned (.string ⟨(Lib.trimS (unsign s) digitSet).toArray⟩) ∧ Below w.heap.size w w') := HTR.out
  clear HTR
  generalize NumPost15 s w = PP at HOK ⊢
  generalize numOk15 s = NK at HOK HNK
  generalize rawB s 15 = RW at HAT HRW
  generalize numZ s = Z at HOK HAT
  generalize signB s = g at HCUT HNK
  generalize Lib.trimS (unsign s) digitSet = tr at HNK HRW HTR2
  generalize unsign s = d at hul HCUT HNK HRW HTR2
  cases d with
  | nil =>
    have HF : Hid (NK = false) := by show _ = _; rw [HNK.out]; rfl
    clear HNK HAT HRW HTR2
    go_enter Tryz.func158, Tryz.ntmps158
    as_aux_lemma =>
      go_wp2_with fail
      refine HCUT.out.mono ?_
      rintro e w1 ⟨rfl, hw1⟩
      subst hw1
      as_aux_lemma =>
        go_wp2_with fail
        first | exact HOK.out 0 false w (by rw [HF.out]; rfl) HF.out (Below.refl _ _) | (go_ret2; exact HOK.out 0 false w (by rw [HF.out]; rfl) HF.out (Below.refl _ _))
  | cons x m =>
    simp only [List.length_cons] at hul
    by_cases hl : ((x :: m).length : Int) ≤ 15
    case neg =>
      have HF : Hid (NK = false) := by show _ = _; rw [HNK.out, decide_eq_false hl]; simp
      have hl2 : (15 : Int) < (m.length : Int) + 1 := by simp only [List.length_cons] at hl; omega
      clear HNK HAT HRW HTR2 hl
      go_enter Tryz.func158, Tryz.ntmps158
      as_aux_lemma =>
        go_wp2_with fail
        refine HCUT.out.mono ?_
        rintro e w1 ⟨rfl, hw1⟩
        subst hw1
        as_aux_lemma =>
          go_wp2_with fail
          first | exact HOK.out 0 false w (by rw [HF.out]; rfl) HF.out (Below.refl _ _) | (go_ret2; exact HOK.out 0 false w (by rw [HF.out]; rfl) HF.out (Below.refl _ _))
    have hl2 : ¬ (15 : Int) < (m.length : Int) + 1 := by simp only [List.length_cons] at hl; omega
    have h1 : (1 : Int) ≤ (((x :: m).length : Nat) : Int) := by simp only [List.length_cons]; omega
    rw [decide_eq_true hl, decide_eq_true h1] at HNK HRW
    cases tr with
    | cons y r =>
      have HF : Hid (NK = false) := by show _ = _; rw [HNK.out]; rfl
      clear HNK HAT HRW hl h1
      go_enter Tryz.func158, Tryz.ntmps158
      as_aux_lemma =>
        go_wp2_with fail
        refine HCUT.out.mono ?_
        rintro e w1 ⟨rfl, hw1⟩
        subst hw1
        as_aux_lemma =>
          go_wp2_with fail
          refine HTR2.out.mono ?_
          rintro e w2 ⟨rfl, hb2⟩
          have HB2 := Lib.hid hb2
          clear hb2
          as_aux_lemma =>
            go_wp2_with fail
            first | exact HOK.out 0 false w2 (by rw [HF.out]; rfl) HF.out HB2.out | (go_ret2; exact HOK.out 0 false w2 (by rw [HF.out]; rfl) HF.out HB2.out)
    | nil =>
      have HAT2 := Lib.hid (HAT.out HRW.out)
      have HNK2 : Hid (NK = (!(x == 48) || (decide (x :: m = [48]) && !g))) := HNK.out
      clear HNK HAT HRW hl h1
      by_cases hx : x = 48
      · subst hx
        cases m with
        | cons y m2 =>
          have HF : Hid (NK = false) := by show _ = _; rw [HNK2.out]; simp
          clear HNK2 HAT2
          go_enter Tryz.func158, Tryz.ntmps158
          as_aux_lemma =>
            go_wp2_with fail
            refine HCUT.out.mono ?_
            rintro e w1 ⟨rfl, hw1⟩
            subst hw1
            as_aux_lemma =>
              go_wp2_with fail
              refine HTR2.out.mono ?_
              rintro e w2 ⟨rfl, hb2⟩
              have HB2 := Lib.hid hb2
              clear hb2
              as_aux_lemma =>
                go_wp2_with fail
                first | exact HOK.out 0 false w2 (by rw [HF.out]; rfl) HF.out HB2.out | (go_ret2; exact HOK.out 0 false w2 (by rw [HF.out]; rfl) HF.out HB2.out)
        | nil =>
          cases g with
          | true =>
            have HF : Hid (NK = false) := by show _ = _; rw [HNK2.out]; rfl
            clear HNK2 HAT2
            go_enter Tryz.func158, Tryz.ntmps158
            as_aux_lemma =>
              go_wp2_with fail
              refine HCUT.out.mono ?_
              rintro e w1 ⟨rfl, hw1⟩
              subst hw1
              as_aux_lemma =>
                go_wp2_with fail
                refine HTR2.out.mono ?_
                rintro e w2 ⟨rfl, hb2⟩
                have HB2 := Lib.hid hb2
                clear hb2
                as_aux_lemma =>
                  go_wp2_with fail
                  first | exact HOK.out 0 false w2 (by rw [HF.out]; rfl) HF.out HB2.out | (go_ret2; exact HOK.out 0 false w2 (by rw [HF.out]; rfl) HF.out HB2.out)
          | false =>
            have HF : Hid (NK = true) := by show _ = _; rw [HNK2.out]; rfl
            clear HNK2
            go_enter Tryz.func158, Tryz.ntmps158
            as_aux_lemma =>
              go_wp2_with fail
              refine HCUT.out.mono ?_
              rintro e w1 ⟨rfl, hw1⟩
              subst hw1
              as_aux_lemma =>
                go_wp2_with fail
                refine HTR2.out.mono ?_
                rintro e w2 ⟨rfl, hb2⟩
                have HB2 := Lib.hid hb2
                clear hb2
                as_aux_lemma =>
                  go_wp2_with fail
                  refine (HAT2.out _).mono ?_
                  rintro e w3 ⟨rfl, hb3⟩
                  have HB3 := Lib.hid (ext_trans HB2.out hb3)
                  clear hb3 HB2
                  as_aux_lemma =>
                    go_wp2_with fail
                    go_quiet (fail)
                    go_wp2_with fail
                    go_simp
                    exact HOK.out Z true _ (by rw [HF.out]; rfl) HF.out (ext_drewN HB3.out)
      · have hxb : (x == 48) = false := beq_eq_false_iff_ne.2 hx
        have hxn : ¬ ((x.toNat : Int) = 48) := fun h => hx (UInt8.toNat_inj.1 (by have : x.toNat = 48 := by omega
                                                                                  exact this))
        have HF : Hid (NK = true) := by show _ = _; rw [HNK2.out, hxb]; rfl
        clear HNK2 hx hxb
        have hx0 : ((((⟨(x :: m).toArray⟩ : ByteArray)[0]'(by show 0 < (x :: m).toArray.size; simp)).toNat : Int) == 48) = false := beq_eq_false_iff_ne.2 hxn
        go_enter Tryz.func158, Tryz.ntmps158
        as_aux_lemma =>
          go_wp2_with fail
          refine HCUT.out.mono ?_
          rintro e w1 ⟨rfl, hw1⟩
          subst hw1
          as_aux_lemma =>
            go_wp2_with fail
            refine HTR2.out.mono ?_
            rintro e w2 ⟨rfl, hb2⟩
            have HB2 := Lib.hid hb2
            clear hb2
            as_aux_lemma =>
              go_wp2_with fail
              refine (HAT2.out _).mono ?_
              rintro e w3 ⟨rfl, hb3⟩
              have HB3 := Lib.hid (ext_trans HB2.out hb3)
              clear hb3 HB2
              as_aux_lemma =>
                go_wp2_with fail
                go_quiet (fail)
                go_wp2_with fail
                go_simp
                exact HOK.out Z true _ (by rw [HF.out]; rfl) HF.out (ext_drewN HB3.out)
/-- What Int answers. -/
theorem decT_back : ∀ (u : Nat), decT 0 (Lib.decDigits u) = u ∧ digs (Lib.decDigits u) = true ∧ (∀ k, 1 ≤ k → u < 10 ^ k → (Lib.decDigits u).length ≤ k) ∧ 1 ≤ (Lib.decDigits u).length := by
  intro u
  induction u using Nat.strongRecOn with
  | _ u ih =>
    by_cases h : u < 10
    · rw [Lib.decDigits_one h]
      have : u = 0 ∨ u = 1 ∨ u = 2 ∨ u = 3 ∨ u = 4 ∨ u = 5 ∨ u = 6 ∨ u = 7 ∨ u = 8 ∨ u = 9 := by omega
      refine ⟨?_, ?_, fun k hk _ => hk, by simp⟩
      · rcases this with rfl | rfl | rfl | rfl | rfl | rfl | rfl | rfl | rfl | rfl <;> rfl
      · rcases this with rfl | rfl | rfl | rfl | rfl | rfl | rfl | rfl | rfl | rfl <;> rfl
    · have e : Lib.decDigits u = Lib.decDigits (u / 10) ++ [UInt8.ofNat (48 + u % 10)] := by rw [Lib.decDigits, dif_neg h]
      obtain ⟨h1, h2, h3, h4⟩ := ih (u / 10) (by omega)
      have hb : (UInt8.ofNat (48 + u % 10)).toNat = 48 + u % 10 := by simp; omega
      rw [e]
      refine ⟨?_, ?_, fun k hk hu => ?_, by simp⟩
      · rw [decT_snoc, h1, hb]; omega
      · rw [digs_app, h2]
        simp only [digs, List.all_cons, List.all_nil, hb, Bool.true_and, Bool.and_true, Bool.and_eq_true, decide_eq_true_eq]
        omega
      · rw [List.length_append, List.length_singleton]
        obtain ⟨k', rfl⟩ : ∃ k', k = k' + 1 := ⟨k - 1, by omega⟩
        rw [Nat.pow_succ] at hu
        by_cases hk' : k' = 0
        · subst hk'; simp at hu; omega
        · have := h3 k' (by omega) (by omega); omega
theorem num_itoa {n : Int} (h0 : 0 ≤ n) (h1 : n < 1000000000000000) : numOk15 (Lib.itoa n) = true ∧ numZ (Lib.itoa n) = n := by
  obtain ⟨u, rfl⟩ := Int.eq_ofNat_of_zero_le h0
  rw [Lib.itoa_nonneg]
  obtain ⟨a1, a2, a3, a4⟩ := decT_back u
  have hl := a3 15 (by omega) (by omega)
  have hs : signB (Lib.decDigits u) = false ∧ unsign (Lib.decDigits u) = Lib.decDigits u := by
    rcases sign_cases (Lib.decDigits u) with ⟨q1, q2⟩ | ⟨q1, q2, -⟩ | q
    · have := digs_mem a2 (b := 45) (by rw [q2]; simp)
      exact absurd this.1 (by decide)
    · exact ⟨q1, q2⟩
    · rw [q] at a4; simp at a4
  have hr : rawB (Lib.decDigits u) 15 = true := by
    unfold rawB digitsB
    rw [hs.2, digs_in, a2]
    simp only [Bool.and_eq_true, decide_eq_true_eq]
    exact ⟨by omega, by omega, trivial⟩
  have hc : canonB (Lib.decDigits u) = true := by
    unfold canonB
    rw [hs.1, hs.2]
    by_cases hu : u = 0
    · subst hu
      rw [show Lib.decDigits 0 = [48] from Lib.decDigits_one (by omega)]
      decide
    · have := decDigits_head u (by omega)
      have h9 : ((Lib.decDigits u).headD 0 == 48) = false := beq_eq_false_iff_ne.2 this
      rw [h9]; rfl
  refine ⟨by unfold numOk15; rw [hr, hc]; rfl, ?_⟩
  unfold numZ
  rw [atoi_raw hr, hs.1, hs.2, a1]
  rfl
theorem num15_itoa {n : Int} (h0 : 0 ≤ n) (h1 : n < 1000000000000000) (w : World) : Calls Tryz.prog 158 #[.string ⟨(Lib.itoa n).toArray⟩, .int .i64 15] w fun e w' => e = .returned (.tuple #[.int .i64 n, .bool true]) ∧ Below w.heap.size w w' := by
  have h := num_itoa h0 h1
  refine (number15_any (Lib.itoa n) w (by have := Lib.itoa_length_le n (by omega) (by omega); omega)).mono fun e w' q => ⟨?_, q.2⟩
  rw [q.1, h.1, h.2, if_pos rfl]
theorem itoa_bytes {n : Int} (h0 : 0 ≤ n) {b : UInt8} (hb : b ∈ Lib.itoa n) : 48 ≤ b.toNat ∧ b.toNat ≤ 57 := by
  obtain ⟨u, rfl⟩ := Int.eq_ofNat_of_zero_le h0
  rw [Lib.itoa_nonneg] at hb
  exact digs_mem (decT_back u).2.1 hb
end Go.Proofs.YtleagenhnchjdaaGreatDoor

set_option linter.unusedVariables false
set_option linter.unusedSimpArgs false
namespace Go.Proofs.YtleagenhnchjdaaGreatDoor
open Go.RowKit Go.Sort Go.Lib

def allNum15 (xs : List (List UInt8)) : Bool := xs.all numOk15
theorem allNum15_true {xs : List (List UInt8)} (h : ∀ i, i < xs.length → numOk15 (xs.getD i []) = true) : allNum15 xs = true := by
  unfold allNum15
  rw [List.all_eq_true]
  intro x hx
  obtain ⟨i, hi, rfl⟩ := List.getElem_of_mem hx
  have h1 := h i hi
  rwa [List.getD_eq_getElem?_getD, List.getElem?_eq_getElem hi] at h1
theorem allNum15_false {xs : List (List UInt8)} {i : Nat} (hi : i < xs.length) (h : numOk15 (xs.getD i []) = false) : allNum15 xs = false := by
  cases hf : allNum15 xs with
  | false => rfl
  | true =>
    unfold allNum15 at hf
    have h1 := List.all_eq_true.1 hf (xs.getD i []) (mem_getD [] hi)
    rw [h] at h1
    cases h1
/-- What Numbers answers. -/
def NumsPost15 (xs : List (List UInt8)) (w : World) (e : Ending) (w' : World) : Prop := (allNum15 xs = true → ∃ v, e = .returned (.tuple #[v, .bool true]) ∧ w'.ownsRow w.heap.size 3 1 v xs.length (numsV xs)) ∧ (allNum15 xs = false → e = .returned (.tuple #[.slice none 0 0, .bool false])) ∧ Below w.heap.size w w'
set_option maxRecDepth 100000 in
set_option maxHeartbeats 4000000 in
theorem numbers15_any (xs : List (List UInt8)) (w : World) (g o c : Nat) (hn : xs.length ≤ 1000000) (hx : 0 < xs.length → StrAt w g o xs) (hl : ∀ i, (xs.getD i []).length ≤ 1000000) : Calls Tryz.prog 108 #[.slice (some ⟨g, o, none⟩) xs.length c, .int .i64 15] w (NumsPost15 xs w) := by
  obtain ⟨i0, hi, hz0, hz1, hz2⟩ := info_parts Tryz.infoIntD
  have HX := Lib.hid hx
  have HL := Lib.hid hl
  clear hx hl
  go_enter Tryz.func108, Tryz.ntmps108
  as_aux_lemma =>
    go_wp2_with fail
    go_loopw [6, 13] (fun vo it wr => ∃ i : Nat, i ≤ xs.length ∧ it = .int .i64 i ∧ Hid (∀ j, j < i → numOk15 (xs.getD j []) = true) ∧ Hid (wr.ownsRow w.heap.size 3 1 vo i (numsV (xs.take i))) ∧ Hid (Below w.heap.size w wr)) (fun _ it _ => xs.length - (intOf it).toNat)
    case atStart => exact ⟨0, Nat.zero_le _, rfl, (fun j h => by omega), World.ownsRow_nil _ _ _ _, Below.refl _ _⟩
    case round =>
      obtain ⟨i, hin, rfl, HN, HO, HB⟩ := hrel
      obtain ⟨vo, rfl⟩ : ∃ x : Value, x = u6 := ⟨_, rfl⟩
      by_cases hlt : i < xs.length
      case neg =>
        have hii : i = xs.length := by omega
        have hnn : ¬ (i : Int) < (xs.length : Int) := by omega
        have hf : allNum15 xs = true := allNum15_true fun j hj => HN.out j (by omega)
        have HE : Hid (NumsPost15 xs w (.returned (.tuple #[vo, .bool true])) wr) := by
          have h9 := HO.out
          rw [hii, List.take_length] at h9
          exact ⟨(fun _ => ⟨vo, rfl, h9⟩), (fun h => (by rw [hf] at h; cases h)), HB.out⟩
        clear HN HO HB hf
        as_aux_lemma =>
          go_wp2_with fail
          go_ret2
          exact HE.out
      have hlti : (i : Int) < (xs.length : Int) := by omega
      have hxw := (HX.out (by omega)).below HB.out
      have c0 := hxw.cell i hlt
      have HNB := Lib.hid (fun W : World => number15_any (xs.getD i []) W (HL.out i))
      have HFF : Hid (numOk15 (xs.getD i []) = false → allNum15 xs = false) := allNum15_false hlt
      have HNX : Hid (numOk15 (xs.getD i []) = true → ∀ j, j < i + 1 → numOk15 (xs.getD j []) = true) := fun h j hj => by
        rcases Nat.lt_succ_iff_lt_or_eq.1 hj with h9 | rfl
        · exact HN.out j h9
        · exact h
      have HST : Hid (numsV (xs.take (i + 1)) = numsV (xs.take i) ++ [.int .i64 (numZ (xs.getD i []))]) := by
        show _ = _
        unfold numsV
        rw [List.take_add_one, List.getElem?_eq_getElem hlt, List.map_append]
        simp [List.getD_eq_getElem?_getD, hlt]
      clear hxw HN
      generalize xs.getD i [] = x at c0 HNB HFF HNX HST
      have HNB2 : Hid (∀ W, Calls Tryz.prog 158 #[.string ⟨x.toArray⟩, .int .i64 15] W fun e w' => e = .returned (.tuple #[.int .i64 (if numOk15 x = true then numZ x else 0), .bool (numOk15 x)]) ∧ Below W.heap.size W w') := fun W => HNB.out W
      clear HNB
      generalize numZ x = z at HNB2 HST
      cases hnx : numOk15 x with
      | false =>
        rw [hnx] at HNB2
        have HNB3 : Hid (∀ W, Calls Tryz.prog 158 #[.string ⟨x.toArray⟩, .int .i64 15] W fun e w' => e = .returned (.tuple #[.int .i64 0, .bool false]) ∧ Below W.heap.size W w') := HNB2.out
        have HF := Lib.hid (HFF.out hnx)
        clear HFF HNX HST HNB2 hnx
        as_aux_lemma =>
          go_wp2_with fail
          refine (HNB3.out wr).mono ?_
          rintro e w2 ⟨rfl, hb2⟩
          have HE : Hid (NumsPost15 xs w (.returned (.tuple #[.slice none 0 0, .bool false])) w2) := ⟨(fun h => (by rw [HF.out] at h; cases h)), (fun _ => rfl), ext_trans HB.out hb2⟩
          clear hb2 HO HB HF
          as_aux_lemma =>
            go_wp2_with fail
            go_ret2
            exact HE.out
      | true =>
        rw [hnx] at HNB2
        have HNB3 : Hid (∀ W, Calls Tryz.prog 158 #[.string ⟨x.toArray⟩, .int .i64 15] W fun e w' => e = .returned (.tuple #[.int .i64 z, .bool true]) ∧ Below W.heap.size W w') := HNB2.out
        have HN2 := Lib.hid (HNX.out hnx)
        clear HFF HNX HNB2 hnx
        as_aux_lemma =>
          go_wp2_with fail
          refine (HNB3.out wr).mono ?_
          rintro e w2 ⟨rfl, hb2⟩
          have HB2 := Lib.hid (ext_trans HB.out hb2)
          have hoz := own_keep HO.out hb2
          obtain ⟨oa, oc, rfl⟩ := own_shape hoz
          have hrow : w.heap.size ≤ w2.heap.size := HB2.out.size
          have HOA : Hid (World.ownsRow (w2.alloc (.cells #[.int .i64 z] 3)) w.heap.size 3 1 (.slice oa i oc) i (numsV (xs.take i))) := World.ownsRow.alloc hoz (.cells #[.int .i64 z] 3)
          have HNA : Hid (Blk (w2.alloc (.cells #[.int .i64 z] 3)) w2.heap.size [.int .i64 z] 3) := Blk.new w2 [.int .i64 z] 3
          have hvw : ∀ b, (Value.slice oa i oc).ownBlock = some b → w.heap.size ≤ b := fun b e => (hoz.lt b e).1
          clear hoz hb2 HO HB HNB3
          as_aux_lemma =>
            go_wp2_with (first | (refine wpList_val rfl (bl_dkw0 _ (fun _ => rfl) _ _ 26 z rfl rfl) ?_) | (at_builtin; go_loud (refine wpList_append_own_at _ rfl (.tmp 25) (.tmp 27) 22 rfl w.heap.size 3 i0 _ 1 8 Tryz.underlying22 hi hz0 hz1 hz2 rfl (by omega) (.slice oa i oc) i _ rfl HOA.out ⟨w2.heap.size, 0, none⟩ 1 1 [.int .i64 z] rfl rfl (fun j u hj => by rw [add0]; exact HNA.out.cell j hj) (by simp [Value.oneCell']) (by simp only [maxLen]; omega) (by omega) (by simp; omega) ?_); intro v12 w12 hown12 hgr12 _ hat12; have HQ1 := Lib.hid hown12; have HQ2 := Lib.hid hgr12; clear hown12 hgr12 hat12 HOA HNA; refine Hid.out ?_))
            refine Lib.hid ?_
            have HO12 : Hid (w12.ownsRow w.heap.size 3 1 v12 (i + 1) (numsV (xs.take (i + 1)))) := by
              show World.ownsRow _ _ _ _ _ _ _
              rw [HST.out]
              exact HQ1.out
            have HB12 : Hid (Below w.heap.size w w12) := HB2.out.trans (upto_grown HQ2.out hrow hvw)
            clear HQ1 HQ2 HB2 HST
            as_aux_lemma =>
              go_wp2_with fail
              go_roundw
              case rel => exact ⟨i + 1, by omega, by go_num, HN2.out, HO12.out, HB12.out⟩
              case measure => simp [intOf]; omega
end Go.Proofs.YtleagenhnchjdaaGreatDoor

set_option linter.unusedVariables false
set_option linter.unusedSimpArgs false
namespace Go.Proofs.YtleagenhnchjdaaGreatDoor
open Go.RowKit Go.Sort Go.Lib

theorem getD_memW {l : List (List UInt8)} {i : Nat} (h : i < l.length) : l.getD i [] ∈ l := by
  rw [List.getD_eq_getElem?_getD, List.getElem?_eq_getElem h]
  exact List.getElem_mem h
theorem wordsR_few {k : Int} (h1 : 1 ≤ k) (h5 : k ≤ 4) : (∀ m, m < (k - 1).toNat → wordsR.getD m [] ≠ howW k) ∧ wordsR.getD (k - 1).toNat [] = howW k := by
  have : k = 1 ∨ k = 2 ∨ k = 3 ∨ k = 4  := by omega
  rcases this with rfl | rfl | rfl | rfl | rfl
  all_goals decide
theorem idxWR_any (w : World) (g : Nat) (k : Int) (h1 : 1 ≤ k) (h5 : k ≤ 4) (hc : ∀ j, j < 4 → w.cell? ⟨g, j, none⟩ = some (.string ⟨(wordsR.getD j []).toArray⟩)) :
    Calls Tryz.prog 109 #[.slice (some ⟨g, 0, none⟩) 4 4, .string ⟨(howW k).toArray⟩] w fun e w' => e = .returned (.int .i64 (k - 1)) ∧ w = w' := by
  have HC := Lib.hid hc
  obtain ⟨hw1, hw2⟩ := wordsR_few h1 h5
  obtain ⟨kn, hkn⟩ : ∃ kn : Nat, kn = (k - 1).toNat := ⟨_, rfl⟩
  rw [← hkn] at hw1 hw2
  have hkn4 : kn < 4 := by omega
  have HKN : Hid (((kn : Nat) : Int) = k - 1) := by show _ = _; omega
  have HW := Lib.hid hw1
  have HW2 := Lib.hid hw2
  generalize howW k = kW at HW HW2 ⊢
  clear hw1 hw2 hc hkn
  go_enter Tryz.func109, Tryz.ntmps109
  go_wp2_with fail
  go_loopw [8] (fun it wr => ∃ m : Nat, m ≤ kn ∧ it = .int .i64 m ∧ Hid (w = wr)) (fun it _ => 4 - (intOf it).toNat)
  case atStart => exact ⟨0, Nat.zero_le _, rfl, rfl⟩
  case round =>
    obtain ⟨m, hm, rfl, HE⟩ := hrel
    obtain rfl : w = wr := HE.out
    have hm5 : (m : Int) < 4 := by omega
    have hm0 : ¬ ((m : Int) < 0) := by omega
    have c0 := HC.out m (by omega)
    by_cases hlt : m < kn
    · have HN := Lib.hid (HW.out m hlt)
      generalize wordsR.getD m [] = x at c0 HN
      have hne : (kW == x) = false := beq_eq_false_iff_ne.2 (Ne.symm HN.out)
      have hne2 : (x == kW) = false := beq_eq_false_iff_ne.2 HN.out
      go_wp2_with fail
      go_roundw
      case rel => exact ⟨m + 1, by omega, by go_num, (by first | exact rfl | exact True.intro)⟩
      case measure => simp [intOf]; omega
    · obtain rfl : m = kn := by omega
      rw [HW2.out] at c0
      go_wp2_with fail
      go_ret
      exact ⟨by rw [← HKN.out]; rfl, rfl⟩
/-- A word: it is not empty, no space and no line's end stands in it. -/
def WordOk (x : List UInt8) : Prop := x ≠ [] ∧ (32 : UInt8) ∉ x ∧ (10 : UInt8) ∉ x
theorem itoa_word {n : Int} (h0 : 0 ≤ n) : WordOk (Lib.itoa n) := by
  refine ⟨fun e => ?_, fun h => ?_, fun h => ?_⟩
  · obtain ⟨u, rfl⟩ := Int.eq_ofNat_of_zero_le h0
    rw [Lib.itoa_nonneg] at e
    have := (decT_back u).2.2.2
    rw [e] at this
    simp at this
  · have := itoa_bytes h0 h; exact absurd this.1 (by decide)
  · have := itoa_bytes h0 h; exact absurd this.1 (by decide)
theorem key_word {s : List UInt8} (h : isKeyB s = true) : WordOk s := by
  unfold isKeyB at h
  simp only [Bool.and_eq_true, decide_eq_true_eq] at h
  have ha := h.2.2.2.2
  rw [allIn_all, List.all_eq_true] at ha
  refine ⟨fun e => by rw [e] at h; exact absurd h.1 (by decide), fun hm => ?_, fun hm => ?_⟩
  · exact absurd (ha _ hm) (by decide)
  · exact absurd (ha _ hm) (by decide)
theorem num_word {s : List UInt8} (h : isNumB s = true) : WordOk s := by
  unfold isNumB at h
  simp only [Bool.and_eq_true] at h
  have hp := h.1
  have hd := h.2.1
  unfold digitsB at hd
  simp only [Bool.and_eq_true, decide_eq_true_eq] at hd
  have ha := hd.2.2
  rw [allIn_all, List.all_eq_true] at ha
  unfold Lib.trimPrefix at ha
  rw [hp, if_pos rfl] at ha
  cases s with
  | nil => exact absurd hp (by decide)
  | cons c s =>
    have hc : c = 43 := by
      have : ((43 : UInt8) == c && List.isPrefixOf [] s) = true := hp
      simp at this
      exact this.symm
    subst hc
    have ha' : ∀ x ∈ s, digitSet.contains x = true := ha
    refine ⟨by simp, fun hm => ?_, fun hm => ?_⟩
    · rcases List.mem_cons.1 hm with hm | hm
      · exact absurd hm (by decide)
      · exact absurd (ha' _ hm) (by decide)
    · rcases List.mem_cons.1 hm with hm | hm
      · exact absurd hm (by decide)
      · exact absurd (ha' _ hm) (by decide)
theorem how_word {k : Int} (h1 : 1 ≤ k) (h5 : k ≤ 4) : WordOk (howW k) := by
  have : k = 1 ∨ k = 2 ∨ k = 3 ∨ k = 4 := by omega
  unfold WordOk
  rcases this with rfl | rfl | rfl | rfl <;> decide
theorem car_word {s : List UInt8} (h : s ∈ carsB) : WordOk (carW s) := by
  unfold carsB at h
  simp only [List.mem_cons, List.not_mem_nil, or_false] at h
  unfold WordOk
  rcases h with rfl | rfl | rfl <;> decide
theorem recW_ok {a : Vrec} (h : RecGood a) (hb : RecB a) : ∀ x ∈ recW a, WordOk x := fun x hx => by
  have hm := h.mom
  unfold isMomB at hm
  simp only [Bool.and_eq_true, decide_eq_true_eq] at hm
  unfold recW at hx
  simp only [List.mem_cons, List.not_mem_nil, or_false] at hx
  rcases hx with rfl | rfl | rfl | rfl | rfl | rfl | rfl | rfl
  · exact key_word h.id
  · exact num_word h.frm
  · exact num_word h.to_
  · exact itoa_word hm.1
  · exact itoa_word h.ring0
  · exact itoa_word h.talk0
  · exact how_word h.how0 h.how1
  · exact car_word hb.car
theorem line_wordsR {a : Vrec} (h : RecGood a) (hb : RecB a) : wordsL (spaced (recW a)) = recW a ∧ fullW (recW a) = true ∧ (10 : UInt8) ∉ spaced (recW a) := by
  have h1 := recW_ok h hb
  refine ⟨wordsL_spaced _ (by unfold recW; simp) (fun x hx => (h1 x hx).2.1), fullW_true (fun i hi => (h1 _ (getD_memW hi)).1), spaced_nl _ (fun x hx => (h1 x hx).2.2)⟩
theorem nums_rec {a : Vrec} (h : RecGood a) : allNum15 [Lib.itoa a.at_, Lib.itoa a.ring, Lib.itoa a.talk] = true ∧ numsV [Lib.itoa a.at_, Lib.itoa a.ring, Lib.itoa a.talk] = [.int .i64 a.at_, .int .i64 a.ring, .int .i64 a.talk] := by
  have hm := h.mom
  unfold isMomB at hm
  simp only [Bool.and_eq_true, decide_eq_true_eq] at hm
  have n1 := num_itoa hm.1 (show a.at_ < 1000000000000000 by omega)
  have n2 := num_itoa h.ring0 (show a.ring < 1000000000000000 by have := h.ring1; omega)
  have n3 := num_itoa h.talk0 (show a.talk < 1000000000000000 by have := h.talk1; omega)
  constructor
  · unfold allNum15
    simp [n1.1, n2.1, n3.1]
  · unfold numsV
    simp [n1.2, n2.2, n3.2]
theorem RecsOk.sub {l x : List Vrec} (h : RecsOk x) (hs : l.Sublist x) : RecsOk l := ⟨fun a ha => h.good a (hs.subset ha), h.asc.sublist hs, h.ids.sublist hs⟩
end Go.Proofs.YtleagenhnchjdaaGreatDoor
