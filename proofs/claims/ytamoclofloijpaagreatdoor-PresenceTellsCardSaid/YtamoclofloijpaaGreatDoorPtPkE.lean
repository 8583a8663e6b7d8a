/- What is proved here: lemmas and contracts for the statement, put together out of smaller texts (BcnPln, BcnLaw, ActSml, ActChk, InsMem, ActSort, ActCpt). No condition beyond those stated. -/
import Derived.Test.YtamoclofloijpaaGreatDoorPtPkD
import Derived.Test.YtamoclofloijpaaGreatDoorPtPkB
import Derived.Test.YtamoclofloijpaaGreatDoorPtPkC
import Derived.Test.YtamoclofloijpaaGreatDoorShelfNum
import Derived.LoopN
import Derived.IntWalk
import Derived.Test.YtamoclofloijpaaGreatDoorPtPkA
import Derived.Test.YtamoclofloijpaaGreatDoorShelfAct
import Derived.Sort.LotA
set_option linter.unusedVariables false
set_option linter.unusedSimpArgs false
namespace Go.Proofs.YtamoclofloijpaaGreatDoor
open Go.RowKit Go.Lib

/-- A rune that no plain string holds. -/
def ctlR (r : Nat) : Bool := decide (r < 32) || decide (r = 127)
theorem ctl_pred (w : World) : PredAt Tryz.prog 104 #[] encR ctlR w := fun W r _ => by
  unfold FnGives
  show Calls Tryz.prog 104 #[.int .i32 r] W _
  unfold ctlR
  by_cases h : r < 32
  · have h1 : (r : Int) < 32 := by omega
    rw [decide_eq_true h]
    go_enter Tryz.func104, Tryz.ntmps104
    go_wp2_with fail
    go_ret
    exact ⟨rfl, 0, rfl⟩
  · have h1 : ¬ (r : Int) < 32 := by omega
    rw [decide_eq_false h]
    by_cases h2 : r = 127
    · have h3 : ((r : Int) == 127) = true := by rw [h2]; rfl
      rw [decide_eq_true h2]
      go_enter Tryz.func104, Tryz.ntmps104
      go_wp2_with fail
      go_ret
      exact ⟨rfl, 0, rfl⟩
    · have h3 : ((r : Int) == 127) = false := beq_eq_false_iff_ne.2 (by omega)
      rw [decide_eq_false h2]
      go_enter Tryz.func104, Tryz.ntmps104
      go_wp2_with fail
      go_ret
      exact ⟨rfl, 0, rfl⟩
def plainB (s : List UInt8) : Bool := Lib.validD s && (!decide (0 ≤ Lib.idxFunc ctlR true ⟨s.toArray⟩) && (((⟨(Lib.trimS s [32]).toArray⟩ : ByteArray).toList == (⟨s.toArray⟩ : ByteArray).toList) && !Lib.contains s [32, 32]))
set_option maxRecDepth 100000 in
theorem plain2_any (S : Nat) (s : List UInt8) (w : World) (h : U8W S w) (hS : S ≤ w.heap.size) (hs : s.length ≤ 1000) : Calls Tryz.prog 61 #[.string ⟨s.toArray⟩] w (BoolP (plainB s) w) := by
  have HV : Hid (∀ W, Below w.heap.size w W → Calls Tryz.prog 102 #[.string ⟨s.toArray⟩] W (BoolP (Lib.validD s) W)) := fun W hW => Tryz.utf8_ValidString ⟨s.toArray⟩ W (by show s.length ≤ _; omega) (h.below hW hS).tabs
  have HC : Hid (∀ W, Calls Tryz.prog 103 #[.string ⟨s.toArray⟩, .func (.func 104) #[] #[]] W (BoolP (decide (0 ≤ Lib.idxFunc ctlR true ⟨s.toArray⟩)) W)) := fun W => Tryz.strings_ContainsFunc 104 #[] (by intro args w; rfl) ctlR ⟨s.toArray⟩ W (ctl_pred W)
  have HT : Hid (∀ W, Calls Tryz.prog 65 #[.string ⟨s.toArray⟩, .string ⟨#[32]⟩] W fun e w' => e = .returned (.string ⟨(Lib.trimS s [32]).toArray⟩) ∧ Below W.heap.size W w') := fun W => Tryz.strings_Trim_set ⟨s.toArray⟩ ⟨#[32]⟩ W (by show s.length ≤ _; omega) (by decide) (Go.Proofs.ascii_of_all (by decide))
  have HN : Hid (∀ W, Below w.heap.size w W → Calls Tryz.prog 105 #[.string ⟨s.toArray⟩, .string ⟨#[32, 32]⟩] W (BoolP (Lib.contains s [32, 32]) W)) := fun W hW => by
    obtain ⟨m, hm⟩ := (h.below hW hS).max_
    exact (Tryz.strings_Contains ⟨s.toArray⟩ ⟨#[32, 32]⟩ m W (by show s.length < _; omega) hm).mono fun e w' q => ⟨q.1, by rw [q.2]; exact Below.refl _ _⟩
  unfold plainB
  generalize Lib.validD s = v1 at HV ⊢
  generalize decide (0 ≤ Lib.idxFunc ctlR true ⟨s.toArray⟩) = v2 at HC ⊢
  generalize (⟨(Lib.trimS s [32]).toArray⟩ : ByteArray) = tr at HT ⊢
  generalize Lib.contains s [32, 32] = v4 at HN ⊢
  generalize (⟨s.toArray⟩ : ByteArray) = sb at HV HC HT HN ⊢
  obtain ⟨v3, hv3⟩ : ∃ b, b = (tr.toList == sb.toList) := ⟨_, rfl⟩
  rw [← hv3]
  replace hv3 := hv3.symm
  go_enter Tryz.func61, Tryz.ntmps61
  as_aux_lemma =>
    go_wp2_with fail
    refine (HV.out _ (Below.refl _ _)).mono ?_
    rintro e w1 ⟨rfl, hb⟩
    have B1 := Lib.hid hb
    clear hb
    cases v1
    case false =>
      as_aux_lemma =>
        go_wp2_with fail
        go_ret
        exact ⟨rfl, B1.out⟩
    as_aux_lemma =>
      go_wp2_with fail
      refine (HC.out _).mono ?_
      rintro e w2 ⟨rfl, hb⟩
      have B2 := Lib.hid (ext_trans B1.out hb)
      clear hb B1
      cases v2
      case true =>
        as_aux_lemma =>
          go_wp2_with fail
          go_ret
          exact ⟨rfl, B2.out⟩
      as_aux_lemma =>
        go_wp2_with fail
        refine (HT.out _).mono ?_
        rintro e w3 ⟨rfl, hb⟩
        have B3 := Lib.hid (ext_trans B2.out hb)
        clear hb B2
        cases v3
        case false =>
          as_aux_lemma =>
            go_wp2_with fail
            go_ret
            exact ⟨rfl, B3.out⟩
        as_aux_lemma =>
          go_wp2_with fail
          refine (HN.out _ B3.out).mono ?_
          rintro e w4 ⟨rfl, hb⟩
          have B4 := Lib.hid (ext_trans B3.out hb)
          clear hb B3
          cases v4
          case false =>
            as_aux_lemma =>
              go_wp2_with fail
              go_ret
              exact ⟨rfl, B4.out⟩
          as_aux_lemma =>
            go_wp2_with fail
            go_ret
            exact ⟨rfl, B4.out⟩
theorem plainB_notes : plainB [32, 120] = false ∧ plainB [97, 32, 32, 98] = false ∧ plainB [10] = false := by decide +kernel
/-- Where a string is plain. -/
structure PlainV (s : List UInt8) : Prop where
  u : Lib.validD s = true
  p : Lib.hasPrefix s [32] = false
  q : Lib.hasSuffix s [32] = false
  c : Lib.contains s [32, 32] = false
  b : ∀ i, i < s.length → 32 ≤ (s.getD i 0).toNat ∧ (s.getD i 0).toNat ≠ 127
theorem plainV_notes : PlainV [] ∧ PlainV [98, 97, 99, 107, 32, 97, 116, 32, 51] := ⟨⟨by decide +kernel, by decide +kernel, by decide +kernel, by decide +kernel, by decide +kernel⟩, ⟨by decide +kernel, by decide +kernel, by decide +kernel, by decide +kernel, by decide +kernel⟩⟩
set_option maxRecDepth 100000 in
theorem isPlain_any (S : Nat) (s : List UInt8) (w : World) (h : U8W S w) (hS : S ≤ w.heap.size) (hs : s.length ≤ 1000) (hp : PlainV s) : Calls Tryz.prog 63 #[.string ⟨s.toArray⟩] w (BoolP true w) := by
  have HV : Hid (∀ W, Below w.heap.size w W → Calls Tryz.prog 102 #[.string ⟨s.toArray⟩] W (BoolP true W)) := fun W hW => by
    rw [← hp.u]
    exact Tryz.utf8_ValidString ⟨s.toArray⟩ W (by show s.length ≤ _; omega) (h.below hW hS).tabs
  have HP : Hid (∀ W, Calls Tryz.prog 97 #[.string ⟨s.toArray⟩, .string ⟨#[32]⟩] W (BoolP false W)) := fun W => by
    rw [← hp.p]
    exact (Tryz.strings_HasPrefix ⟨s.toArray⟩ ⟨#[32]⟩ W).mono fun e w' q => ⟨q.1, by rw [q.2]; exact Below.refl _ _⟩
  have HQ : Hid (∀ W, Calls Tryz.prog 106 #[.string ⟨s.toArray⟩, .string ⟨#[32]⟩] W (BoolP false W)) := fun W => by
    rw [← hp.q]
    exact (Tryz.strings_HasSuffix ⟨s.toArray⟩ ⟨#[32]⟩ W (by show s.length ≤ _; omega)).mono fun e w' q => ⟨q.1, by rw [q.2]; exact Below.refl _ _⟩
  have HN : Hid (∀ W, Below w.heap.size w W → Calls Tryz.prog 105 #[.string ⟨s.toArray⟩, .string ⟨#[32, 32]⟩] W (BoolP false W)) := fun W hW => by
    obtain ⟨m, hm⟩ := (h.below hW hS).max_
    rw [← hp.c]
    exact (Tryz.strings_Contains ⟨s.toArray⟩ ⟨#[32, 32]⟩ m W (by show s.length < _; omega) hm).mono fun e w' q => ⟨q.1, by rw [q.2]; exact Below.refl _ _⟩
  have HPB := Lib.hid hp.b
  clear hp h hS
  obtain ⟨n, hn⟩ : ∃ n, n = s.length := ⟨_, rfl⟩
  have HB : Hid (∀ i (h : i < n) (h' : i < (⟨s.toArray⟩ : ByteArray).size), (⟨s.toArray⟩ : ByteArray)[i] = s.getD i 0) := fun i h h' => byte_at s i (by omega) h'
  have hsz : (⟨s.toArray⟩ : ByteArray).size = n := by rw [hn]; show s.toArray.size = _; simp
  rw [← hn] at HPB hs
  generalize hf : (⟨s.toArray⟩ : ByteArray) = f at HB hsz HV HP HQ HN ⊢
  clear hn hf
  go_enter Tryz.func63, Tryz.ntmps63
  as_aux_lemma =>
    go_wp2_with fail
    refine (HV.out _ (Below.refl _ _)).mono ?_
    rintro e w1 ⟨rfl, hb⟩
    have B1 := Lib.hid hb
    clear hb
    as_aux_lemma =>
      go_wp2_with fail
      refine (HP.out _).mono ?_
      rintro e w2 ⟨rfl, hb⟩
      have B2 := Lib.hid (ext_trans B1.out hb)
      clear hb B1
      as_aux_lemma =>
        go_wp2_with fail
        refine (HQ.out _).mono ?_
        rintro e w3 ⟨rfl, hb⟩
        have B3 := Lib.hid (ext_trans B2.out hb)
        clear hb B2
        as_aux_lemma =>
          go_wp2_with fail
          refine (HN.out _ B3.out).mono ?_
          rintro e w4 ⟨rfl, hb⟩
          have B4 := Lib.hid (ext_trans B3.out hb)
          clear hb B3
          clear HV HP HQ HN
          as_aux_lemma =>
            go_wp2_with fail
            go_loopw [21] (fun it wr => ∃ i : Nat, i ≤ n ∧ it = .int .i64 i ∧ Hid (Below w.heap.size w wr)) (fun it _ => n - (intOf it).toNat)
            case atStart => exact ⟨0, Nat.zero_le _, rfl, B4.out⟩
            case round =>
              clear B4
              obtain ⟨i, hi, rfl, HW⟩ := hrel
              by_cases hlt : i < n
              case neg =>
                obtain rfl : i = n := by omega
                have hin : ¬ ((i : Int) < (i : Int)) := by omega
                go_wp2_with fail
                go_ret
                exact ⟨rfl, HW.out⟩
              have hsi : i < f.size := by omega
              have hbi := HB.out i hlt hsi
              have hin : (i : Int) < (n : Int) := by omega
              have hc := HPB.out i hlt
              obtain ⟨c, hcc⟩ : ∃ c, c = s.getD i 0 := ⟨_, rfl⟩
              rw [← hcc] at hbi hc
              clear hcc
              have hc1 : ¬ ((c.toNat : Int) < 32) := by omega
              have hc2 : ((c.toNat : Int) == 127) = false := beq_eq_false_iff_ne.2 (by omega)
              clear hc
              go_wp2_with fail
              go_roundw
              case rel => exact ⟨i + 1, by omega, by go_num, HW.out⟩
              case measure => simp [intOf]; omega
end Go.Proofs.YtamoclofloijpaaGreatDoor

set_option linter.unusedVariables false
set_option linter.unusedSimpArgs false
namespace Go.Proofs.YtamoclofloijpaaGreatDoor
open Go.RowKit Go.Sort Go.Lib

/-- The notes that the maker hands out. -/
def notesB : List (List UInt8) := [[], [98, 97, 99, 107, 32, 97, 116, 32, 51], [32, 120], [97, 32, 32, 98], [10], List.replicate 101 110]
theorem notesB_len : ∀ s ∈ notesB, s.length ≤ 101 := by decide
theorem notesB_plain {s : List UInt8} (h : s ∈ notesB) (hp : plainB s = true) (hl : s.length ≤ 100) : PlainV s := by
  simp only [notesB, List.mem_cons, List.not_mem_nil, or_false] at h
  rcases h with rfl | rfl | rfl | rfl | rfl | rfl
  · exact plainV_notes.1
  · exact plainV_notes.2
  · rw [plainB_notes.1] at hp; cases hp
  · rw [plainB_notes.2.1] at hp; cases hp
  · rw [plainB_notes.2.2] at hp; cases hp
  · rw [List.length_replicate] at hl; omega
/-- What the maker's beacons are bound to. -/
structure BcnB (a : Vbcn) : Prop where
  at0 : -4398046511104 ≤ a.at_
  at1 : a.at_ ≤ 4398046511104
  st0 : -4398046511104 ≤ a.st
  st1 : a.st ≤ 4398046511104
  til0 : -4398046511104 ≤ a.til
  til1 : a.til ≤ 4398046511104
  per : a.per.length ≤ 10
  dev : a.dev.length ≤ 10
  note : a.note ∈ notesB
structure BcnGood (a : Vbcn) : Prop where
  per : isKeyB a.per = true
  dev : isKeyB a.dev = true
  st0 : 0 ≤ a.st
  st1 : a.st ≤ 4
  mom : isMomB a.at_ = true
  til0 : a.at_ ≤ a.til
  til1 : a.til ≤ 345686400000
  plain : PlainV a.note
  len : a.note.length ≤ 100
structure BcnsOk (l : List Vbcn) : Prop where
  good : ∀ a ∈ l, BcnGood a
  asc : ∀ i, i + 1 < l.length → bcnCmp (l.getD i default) (l.getD (i + 1) default) < 0
theorem BcnsOk.nil : BcnsOk [] := ⟨fun a h => (by cases h), fun i h => absurd h (by simp)⟩
theorem BcnsOk.of_steps {l : List Vbcn} (h1 : ∀ i, i < l.length → BcnGood (l.getD i default)) (h2 : ∀ i, i + 1 < l.length → bcnCmp (l.getD i default) (l.getD (i + 1) default) < 0) : BcnsOk l := ⟨fun a ha => by
  obtain ⟨i, hi, rfl⟩ := List.getElem_of_mem ha
  have := h1 i hi
  rw [List.getD_eq_getElem?_getD, List.getElem?_eq_getElem hi] at this
  exact this, h2⟩
end Go.Proofs.YtamoclofloijpaaGreatDoor

set_option linter.unusedVariables false
set_option linter.unusedSimpArgs false
namespace Go.Proofs.YtamoclofloijpaaGreatDoor
open Go.RowKit Go.Sort Go.Lib

theorem fromDigs (s : List UInt8) : fromB s = (decide (s = []) || (Lib.hasPrefix s [43] && ((decide ((4 : Int) ≤ ((Lib.trimPrefix s [43]).length : Int)) && decide (((Lib.trimPrefix s [43]).length : Int) ≤ 15)) && onlyB (Lib.trimPrefix s [43]) [48, 49, 50, 51, 52, 53, 54, 55, 56, 57]))) := by
  unfold fromB
  rw [show allIn (Lib.trimPrefix s [43]) [48, 49, 50, 51, 52, 53, 54, 55, 56, 57] = onlyB (Lib.trimPrefix s [43]) [48, 49, 50, 51, 52, 53, 54, 55, 56, 57] from allIn_all _ _,
    show decide ((4 : Int) ≤ ((Lib.trimPrefix s [43]).length : Int)) = decide (4 ≤ (Lib.trimPrefix s [43]).length) from decide_eq_decide.2 (by omega), show decide (((Lib.trimPrefix s [43]).length : Int) ≤ 15) = decide ((Lib.trimPrefix s [43]).length ≤ 15) from decide_eq_decide.2 (by omega), Bool.and_assoc]
theorem trimP_len (s p : List UInt8) : (Lib.trimPrefix s p).length ≤ s.length := by
  unfold Lib.trimPrefix
  split
  · rw [List.length_drop]; omega
  · exact Nat.le_refl _
theorem within_voi (n lo hi : Int) (w : World) : Calls Tryz.prog 62 #[.int .i64 n, .int .i64 lo, .int .i64 hi] w fun e w' => e = .returned (.bool (decide (lo ≤ n) && decide (n ≤ hi))) ∧ w = w' := by
  by_cases h : lo ≤ n
  · rw [decide_eq_true h]
    go_enter Tryz.func62, Tryz.ntmps62
    go_wp2_with fail
    go_ret
    exact ⟨rfl, rfl⟩
  · rw [decide_eq_false h]
    go_enter Tryz.func62, Tryz.ntmps62
    go_wp2_with fail
    go_ret
    exact ⟨rfl, rfl⟩
set_option maxRecDepth 100000 in
set_option maxHeartbeats 2000000 in
theorem callerId_any (s : List UInt8) (w : World) (hs : s.length ≤ 1000) : Calls Tryz.prog 85 #[.string ⟨s.toArray⟩] w (BoolP (fromB s) w) := by
  have HC : Hid (∀ W, Calls Tryz.prog 134 #[.string ⟨s.toArray⟩, .string ⟨#[43]⟩] W fun e w' => e = .returned (.tuple #[.string ⟨(Lib.trimPrefix s [43]).toArray⟩, .bool (Lib.hasPrefix s [43])]) ∧ w' = W) := fun W => Tryz.strings_CutPrefix ⟨s.toArray⟩ ⟨#[43]⟩ W
  have HL := trimP_len s [43]
  have HT : Hid (∀ W, Calls Tryz.prog 101 #[.string ⟨(Lib.trimPrefix s [43]).toArray⟩, .string ⟨#[48, 49, 50, 51, 52, 53, 54, 55, 56, 57]⟩] W fun e w' => e = .returned (.bool (onlyB (Lib.trimPrefix s [43]) [48, 49, 50, 51, 52, 53, 54, 55, 56, 57])) ∧ W = w') := fun W => only2_any _ [48, 49, 50, 51, 52, 53, 54, 55, 56, 57] W (by omega)
  have HD := Lib.hid (fromDigs s)
  have hsz : (⟨(Lib.trimPrefix s [43]).toArray⟩ : ByteArray).size = (Lib.trimPrefix s [43]).length := by show (Lib.trimPrefix s [43]).toArray.size = _; simp
  generalize Lib.trimPrefix s [43] = d at HC HT HD hsz
  generalize Lib.hasPrefix s [43] = p at HC HD
  clear HL
  clear hsz
  generalize onlyB d [48, 49, 50, 51, 52, 53, 54, 55, 56, 57] = ob at HT HD
  generalize fromB s = R at HD ⊢
  by_cases hs0 : s = []
  case pos =>
    subst hs0
    go_enter Tryz.func85, Tryz.ntmps85
    go_wp2_with fail
    refine (HC.out _).mono ?_
    rintro e w' ⟨rfl, hw⟩
    replace hw := hw.symm
    subst hw
    go_wp2_with fail
    go_ret
    exact ⟨by rw [HD.out]; rfl, Below.refl _ _⟩
  have HS0 : Hid (decide (s = []) = false) := decide_eq_false hs0
  have hse : (s == []) = false := beq_eq_false_iff_ne.2 hs0
  have hse2 : s.isEmpty = false := by cases s with | nil => exact absurd rfl hs0 | cons => rfl
  clear hs0
  go_enter Tryz.func85, Tryz.ntmps85
  go_wp2_with fail
  refine (HC.out _).mono ?_
  rintro e w' ⟨rfl, hw⟩
  replace hw := hw.symm
  subst hw
  rw [HS0.out, Bool.false_or] at HD
  clear HS0
  cases p
  · go_wp2_with fail
    go_ret
    exact ⟨by rw [HD.out]; rfl, Below.refl _ _⟩
  rw [Bool.true_and] at HD
  obtain ⟨bi, hbi⟩ : ∃ b, b = (decide ((4 : Int) ≤ (d.length : Int)) && decide ((d.length : Int) ≤ 15)) := ⟨_, rfl⟩
  rw [← hbi] at HD
  have HBI := Lib.hid hbi
  clear hbi
  go_wp2_with fail
  refine (in2_any _ _ _ _).mono ?_
  rintro e w' ⟨rfl, hw⟩
  subst hw
  rw [← HBI.out]
  clear HBI
  cases bi
  · go_wp2_with fail
    go_ret
    exact ⟨by rw [HD.out]; rfl, Below.refl _ _⟩
  rw [Bool.true_and] at HD
  go_wp2_with fail
  refine (HT.out _).mono ?_
  rintro e w' ⟨rfl, hw⟩
  subst hw
  go_wp2_with fail
  go_ret
  exact ⟨by rw [HD.out]; rfl, Below.refl _ _⟩
set_option maxRecDepth 100000 in
set_option maxHeartbeats 2000000 in
theorem isFrom_any (s : List UInt8) (w : World) (hs : s.length ≤ 1000) : Calls Tryz.prog 86 #[.string ⟨s.toArray⟩] w (BoolP (fromB s) w) := by
  have HC : Hid (∀ W, Calls Tryz.prog 134 #[.string ⟨s.toArray⟩, .string ⟨#[43]⟩] W fun e w' => e = .returned (.tuple #[.string ⟨(Lib.trimPrefix s [43]).toArray⟩, .bool (Lib.hasPrefix s [43])]) ∧ w' = W) := fun W => Tryz.strings_CutPrefix ⟨s.toArray⟩ ⟨#[43]⟩ W
  have HL := trimP_len s [43]
  have HT : Hid (∀ W, Calls Tryz.prog 65 #[.string ⟨(Lib.trimPrefix s [43]).toArray⟩, .string ⟨#[48, 49, 50, 51, 52, 53, 54, 55, 56, 57]⟩] W fun e w' => e = .returned (.string ⟨(Lib.trimS (Lib.trimPrefix s [43]) digitSet).toArray⟩) ∧ Below W.heap.size W w') := fun W => trim_digits ⟨(Lib.trimPrefix s [43]).toArray⟩ W (by show (Lib.trimPrefix s [43]).toArray.size ≤ _; simp; omega)
  have HE : Hid (onlyB (Lib.trimPrefix s [43]) [48, 49, 50, 51, 52, 53, 54, 55, 56, 57] = (Lib.trimS (Lib.trimPrefix s [43]) digitSet).isEmpty) := (allIn_all _ _).symm
  have HD := Lib.hid (fromDigs s)
  have hsz : (⟨(Lib.trimPrefix s [43]).toArray⟩ : ByteArray).size = (Lib.trimPrefix s [43]).length := by show (Lib.trimPrefix s [43]).toArray.size = _; simp
  generalize Lib.trimPrefix s [43] = d at HC HT HD hsz HE
  generalize Lib.hasPrefix s [43] = p at HC HD
  clear HL
  clear hsz
  generalize Lib.trimS d digitSet = td at HT HE
  generalize onlyB d [48, 49, 50, 51, 52, 53, 54, 55, 56, 57] = ob at HE HD
  generalize fromB s = R at HD ⊢
  by_cases hs0 : s = []
  case pos =>
    subst hs0
    go_enter Tryz.func86, Tryz.ntmps86
    go_wp2_with fail
    refine (HC.out _).mono ?_
    rintro e w' ⟨rfl, hw⟩
    replace hw := hw.symm
    subst hw
    go_wp2_with fail
    go_ret
    exact ⟨by rw [HD.out]; rfl, Below.refl _ _⟩
  have HS0 : Hid (decide (s = []) = false) := decide_eq_false hs0
  have hse : (s == []) = false := beq_eq_false_iff_ne.2 hs0
  have hse2 : s.isEmpty = false := by cases s with | nil => exact absurd rfl hs0 | cons => rfl
  clear hs0
  go_enter Tryz.func86, Tryz.ntmps86
  go_wp2_with fail
  refine (HC.out _).mono ?_
  rintro e w' ⟨rfl, hw⟩
  replace hw := hw.symm
  subst hw
  rw [HS0.out, Bool.false_or] at HD
  clear HS0
  cases p
  · go_wp2_with fail
    go_ret
    exact ⟨by rw [HD.out]; rfl, Below.refl _ _⟩
  rw [Bool.true_and] at HD
  obtain ⟨bi, hbi⟩ : ∃ b, b = (decide ((4 : Int) ≤ (d.length : Int)) && decide ((d.length : Int) ≤ 15)) := ⟨_, rfl⟩
  rw [← hbi] at HD
  have HBI := Lib.hid hbi
  clear hbi
  go_wp2_with fail
  refine (within_voi _ _ _ _).mono ?_
  rintro e w' ⟨rfl, hw⟩
  subst hw
  rw [← HBI.out]
  clear HBI
  cases bi
  · go_wp2_with fail
    go_ret
    exact ⟨by rw [HD.out]; rfl, Below.refl _ _⟩
  rw [Bool.true_and] at HD
  go_wp2_with fail
  refine (HT.out _).mono ?_
  rintro e w' ⟨rfl, hw⟩
  have HBW := Lib.hid hw
  clear hw
  cases td with
  | nil =>
    go_wp2_with fail
    go_ret
    exact ⟨by rw [HD.out, HE.out]; rfl, HBW.out⟩
  | cons t0 td =>
    go_wp2_with fail
    go_ret
    exact ⟨by rw [HD.out, HE.out]; rfl, HBW.out⟩
end Go.Proofs.YtamoclofloijpaaGreatDoor

set_option linter.unusedVariables false
set_option linter.unusedSimpArgs false
namespace Go.Proofs.YtamoclofloijpaaGreatDoor
open Go.RowKit Go.Sort Go.Lib

set_option maxRecDepth 100000 in
set_option maxHeartbeats 16000000 in
theorem checkActs_any (w : World) (base : Nat) (v : Value) (l : List Vact) (h : VactRow w base v l) (hl : l.length ≤ 1000) (hok : ActsOk l) (hb : ∀ a ∈ l, a.frm.length ≤ 1000 ∧ a.box.length ≤ 1000 ∧ a.id.length ≤ 1000) :
    Calls Tryz.prog 35 #[v] w ((IntP 0 w)) := by
  unfold VactRow at h
  obtain ⟨a, cap, rfl⟩ := own_shape h
  have HO := Lib.hid h
  have HB := Lib.hid hb
  have HOK := Lib.hid hok
  obtain ⟨n, hn⟩ : ∃ n, n = l.length := ⟨_, rfl⟩
  have HN := Lib.hid hn
  rw [← hn] at HO hl ⊢
  clear hn h hb hok
  have hl0 : ¬ (1000 : Int) < (n : Int) := by omega
  go_enter Tryz.func35, Tryz.ntmps35
  go_wp2_with fail
  clear hl0
  go_loopw [11] (fun it wr => ∃ i : Nat, i ≤ n ∧ it = .int .i64 i ∧ Hid (Below w.heap.size w wr)) (fun it _ => n - (intOf it).toNat)
  case atStart => exact ⟨0, Nat.zero_le _, rfl, Below.refl _ _⟩
  case round =>
    obtain ⟨i, hi, rfl, HBW⟩ := hrel
    by_cases hlt : i < n
    case neg =>
      obtain rfl : i = n := by omega
      have hin : ¬ ((i : Int) < (i : Int)) := by omega
      as_aux_lemma =>
        go_wp2_with fail
        go_ret
        exact ⟨rfl, HBW.out⟩
    have hin : (i : Int) < (n : Int) := by omega
    have hil : i < l.length := by have := HN.out; omega
    have hO := own_keep HO.out HBW.out
    obtain ⟨g, rfl, hg0, hgw⟩ := own_pos hO (by omega)
    have HBX := Lib.hid (HB.out _ (getD_mem hil))
    have HPREV : Hid (∀ i1, i = i1 + 1 → ∀ W9, Below w.heap.size w W9 → W9.cell? ⟨g, i1 * 6, none⟩ = some (.int .i64 (l.getD i1 default).at_) ∧ W9.cell? ⟨g, i1 * 6 + 1, none⟩ = some (.string ⟨(l.getD i1 default).box.toArray⟩) ∧ W9.cell? ⟨g, i1 * 6 + 2, none⟩ = some (.string ⟨(l.getD i1 default).id.toArray⟩) ∧ W9.cell? ⟨g, i1 * 6 + 3, none⟩ = some (.int .i64 (l.getD i1 default).kind) ∧ W9.cell? ⟨g, i1 * 6 + 4, none⟩ = some (.int .i64 (l.getD i1 default).long) ∧ W9.cell? ⟨g, i1 * 6 + 5, none⟩ = some (.string ⟨(l.getD i1 default).frm.toArray⟩)) := fun i1 e W9 hW => ⟨own_field Vact.cells (fun _ => rfl) (own_keep HO.out hW) i1 0 default (by omega) (by omega) rfl, own_field Vact.cells (fun _ => rfl) (own_keep HO.out hW) i1 1 default (by omega) (by omega) rfl, own_field Vact.cells (fun _ => rfl) (own_keep HO.out hW) i1 2 default (by omega) (by omega) rfl, own_field Vact.cells (fun _ => rfl) (own_keep HO.out hW) i1 3 default (by omega) (by omega) rfl, own_field Vact.cells (fun _ => rfl) (own_keep HO.out hW) i1 4 default (by omega) (by omega) rfl, own_field Vact.cells (fun _ => rfl) (own_keep HO.out hW) i1 5 default (by omega) (by omega) rfl⟩
    have HCM : Hid (∀ i1, i = i1 + 1 → ∀ W, Calls Tryz.prog 38 #[(l.getD i1 default).val, (l.getD i default).val] W fun e w' => e = .returned (.int .i64 (actCmp (l.getD i1 default) (l.getD i default))) ∧ Below W.heap.size W w') := fun i1 _ W => (cmpActs_any _ _ W).mono fun e w' h => ⟨h.1, Grown.below h.2⟩
    have d0 := own_field Vact.cells (fun _ => rfl) hO i 0 default hil (by omega) rfl
    have d1 := own_field Vact.cells (fun _ => rfl) hO i 1 default hil (by omega) rfl
    have d2 := own_field Vact.cells (fun _ => rfl) hO i 2 default hil (by omega) rfl
    have d3 := own_field Vact.cells (fun _ => rfl) hO i 3 default hil (by omega) rfl
    have d4 := own_field Vact.cells (fun _ => rfl) hO i 4 default hil (by omega) rfl
    have d5 := own_field Vact.cells (fun _ => rfl) hO i 5 default hil (by omega) rfl
    have hXV : (l.getD i default).val = .agg #[.int .i64 (l.getD i default).at_, .string ⟨(l.getD i default).box.toArray⟩, .string ⟨(l.getD i default).id.toArray⟩, .int .i64 (l.getD i default).kind, .int .i64 (l.getD i default).long, .string ⟨(l.getD i default).frm.toArray⟩] := rfl
    rw [hXV] at HCM
    clear hXV hO
    have HGD := Lib.hid (HOK.out.good _ (getD_mem hil))
    obtain ⟨x, hx⟩ : ∃ x, x = l.getD i default := ⟨_, rfl⟩
    rw [← hx] at d0 d1 d2 d3 d4 d5 HCM HBX HGD
    have HX := Lib.hid hx
    clear hx
    have HMO : Hid (∀ W, Calls Tryz.prog 26 #[.int .i64 x.at_] W (BoolP true W)) := fun W => by rw [← HGD.out.mom]; exact ((isMoment_any _ W).mono (fun e w2 h => ⟨h.1, by rw [← h.2]; exact Below.refl _ _⟩))
    have HK1 : Hid (∀ W, Calls Tryz.prog 22 #[.string ⟨x.box.toArray⟩] W (BoolP true W)) := fun W => by rw [← HGD.out.box]; exact isKey_any _ W (by have := HBX.out.2.1; omega)
    have HK2 : Hid (∀ W, Calls Tryz.prog 22 #[.string ⟨x.id.toArray⟩] W (BoolP true W)) := fun W => by rw [← HGD.out.id]; exact isKey_any _ W (by have := HBX.out.2.2; omega)
    have HIN : Hid (∀ z lo hi W, Calls Tryz.prog 62 #[.int .i64 z, .int .i64 lo, .int .i64 hi] W (BoolP (decide (lo ≤ z) && decide (z ≤ hi)) W)) := fun z lo hi W => ((within_voi z lo hi W).mono (fun e w2 h => ⟨h.1, by rw [← h.2]; exact Below.refl _ _⟩))
    have HFR : Hid (∀ W, Calls Tryz.prog 86 #[.string ⟨x.frm.toArray⟩] W (BoolP (fromB x.frm) W)) := fun W => isFrom_any _ W (by have := HBX.out.1; omega)
    have HINK := HIN.out x.kind 1 5
    rw [decide_eq_true HGD.out.kind0, decide_eq_true HGD.out.kind1] at HINK
    have HINK := Lib.hid HINK
    have HINL := Lib.hid (HIN.out x.long 1 86400000)
    clear HIN
    obtain ⟨f5, hf5⟩ : ∃ f, f = x.frm := ⟨_, rfl⟩
    have HF5 := Lib.hid hf5
    clear hf5
    have HKD : Hid (x.kind = x.kind) := rfl
    obtain ⟨x0, hx0⟩ : ∃ z, z = x.at_ := ⟨_, rfl⟩
    obtain ⟨x3, hx3⟩ : ∃ z, z = x.kind := ⟨_, rfl⟩
    obtain ⟨x4, hx4⟩ : ∃ z, z = x.long := ⟨_, rfl⟩
    obtain ⟨b1, hb1⟩ : ∃ z : ByteArray, z = ⟨x.box.toArray⟩ := ⟨_, rfl⟩
    obtain ⟨b2, hb2⟩ : ∃ z : ByteArray, z = ⟨x.id.toArray⟩ := ⟨_, rfl⟩
    rw [← HF5.out] at d5 HFR HCM
    rw [← hx0] at d0 HMO HCM
    rw [← hx3] at d3 HINK HCM
    rw [← hx4] at d4 HINL HCM
    rw [← hb1] at d1 HK1 HCM
    rw [← hb2] at d2 HK2 HCM
    have HX3 := Lib.hid hx3
    have HX4 := Lib.hid hx4
    rw [Nat.add_zero] at d0
    clear hx0 hx3 hx4 hb1 hb2 HKD
    have X1 : Hid (Blk (wr.alloc (.cells #[.int .i64 x0, .string b1, .string b2, .int .i64 x3, .int .i64 x4, .string ⟨f5.toArray⟩] 45)) wr.heap.size [.int .i64 x0, .string b1, .string b2, .int .i64 x3, .int .i64 x4, .string ⟨f5.toArray⟩] 45) := Blk.new _ _ _
    have HB1 : Hid (Below w.heap.size w (wr.alloc (.cells #[.int .i64 x0, .string b1, .string b2, .int .i64 x3, .int .i64 x4, .string ⟨f5.toArray⟩] 45))) := ext_alloc HBW.out
    as_aux_lemma =>
      go_upto_region 6 with (fail)
      clear d0 d1 d2 d3 d4 d5 HBW
      generalize (wr.alloc (.cells #[.int .i64 x0, .string b1, .string b2, .int .i64 x3, .int .i64 x4, .string ⟨f5.toArray⟩] 45)) = w1 at X1 HB1 ⊢
      generalize wr.heap.size = B at X1 ⊢
      by_cases hk3 : x3 = 1
      case neg =>
        have hk3b : (x3 == 1) = false := beq_eq_false_iff_ne.2 hk3
        have HK3 : Hid (x.kind ≠ 1) := by show _ ≠ _; rw [← HX3.out]; exact hk3
        clear hk3
        have c0 := X1.out.cell 0 rfl
        have c1 := X1.out.cell 1 rfl
        have c2 := X1.out.cell 2 rfl
        have c3 := X1.out.cell 3 rfl
        have c4 := X1.out.cell 4 rfl
        have c5 := X1.out.cell 5 rfl
        as_aux_lemma =>
          go_wp2_with fail
          refine (HMO.out _).mono ?_
          rintro e w2 ⟨rfl, hb⟩
          have X2 := Lib.hid (X1.out.below hb)
          have HB2 := Lib.hid (ext_trans HB1.out hb)
          clear hb c0 c1 c2 c3 c4 c5 X1 HB1
          have c0 := X2.out.cell 0 rfl
          have c1 := X2.out.cell 1 rfl
          have c2 := X2.out.cell 2 rfl
          have c3 := X2.out.cell 3 rfl
          have c4 := X2.out.cell 4 rfl
          have c5 := X2.out.cell 5 rfl
          as_aux_lemma =>
            go_wp2_with fail
            refine (HK1.out _).mono ?_
            rintro e w3 ⟨rfl, hb⟩
            have X3 := Lib.hid (X2.out.below hb)
            have HB3 := Lib.hid (ext_trans HB2.out hb)
            clear hb c0 c1 c2 c3 c4 c5 X2 HB2
            have c0 := X3.out.cell 0 rfl
            have c1 := X3.out.cell 1 rfl
            have c2 := X3.out.cell 2 rfl
            have c3 := X3.out.cell 3 rfl
            have c4 := X3.out.cell 4 rfl
            have c5 := X3.out.cell 5 rfl
            as_aux_lemma =>
              go_wp2_with fail
              refine (HK2.out _).mono ?_
              rintro e w4 ⟨rfl, hb⟩
              have X4 := Lib.hid (X3.out.below hb)
              have HB4 := Lib.hid (ext_trans HB3.out hb)
              clear hb c0 c1 c2 c3 c4 c5 X3 HB3
              have c0 := X4.out.cell 0 rfl
              have c1 := X4.out.cell 1 rfl
              have c2 := X4.out.cell 2 rfl
              have c3 := X4.out.cell 3 rfl
              have c4 := X4.out.cell 4 rfl
              have c5 := X4.out.cell 5 rfl
              as_aux_lemma =>
                go_wp2_with fail
                refine (HINK.out _).mono ?_
                rintro e w5 ⟨rfl, hb⟩
                have X5 := Lib.hid (X4.out.below hb)
                have HB5 := Lib.hid (ext_trans HB4.out hb)
                clear hb c0 c1 c2 c3 c4 c5 X4 HB4
                have c0 := X5.out.cell 0 rfl
                have c1 := X5.out.cell 1 rfl
                have c2 := X5.out.cell 2 rfl
                have c3 := X5.out.cell 3 rfl
                have c4 := X5.out.cell 4 rfl
                have c5 := X5.out.cell 5 rfl
                have HLG := HGD.out.other HK3.out
                have hx4b : (x4 != 0) = false := by rw [HX4.out, HLG.1]; rfl
                have hf5b : (f5 == []) = true := by rw [HF5.out, HLG.2]; rfl
                clear HLG
                as_aux_lemma =>
                  go_upto_region 19 with (fail)
                  have hd : Below w5.heap.size w5 w5.drew := ext_drew (Below.refl _ _)
                  have XD := Lib.hid (X5.out.below hd)
                  have HBD := Lib.hid (ext_trans HB5.out hd)
                  clear hd X5 HB5 c0 c1 c2 c3 c4 c5
                  by_cases hiz : i = 0
                  case pos =>
                    have HIZ := Lib.hid hiz
                    clear hiz HCM HPREV
                    as_aux_lemma =>
                      refine region_seqI (S := fun W9 => Below w5.drew.heap.size w5.drew W9) [(true, 0), (true, 1), (true, 2), (true, 3), (true, 4), (true, 5), (true, 6), (true, 7), (true, 8), (true, 9), (true, 10), (true, 11), (true, 12)] (by kernel_rfl) (by kernel_rfl) rfl (by kernel_rfl) (Below.refl _ _) ?_
                      generalize w5.drew = wd at XD HBD ⊢
                      simp only [seqOps, List.getD_cons_zero, List.getD_cons_succ]
                      refine seqI_take (v := .int .i64 i) rfl (fun W9 hW => by clear hW; go_simp) (fun _ _ _ h => h) ?_
                      simp only [Act.put, List.setIfInBounds_toArray, List.set_cons_zero, List.set_cons_succ]
                      refine seqI_take (v := .bool false) rfl (fun W9 hW => by clear hW; go_simp; exact HIZ.out) (fun _ _ _ h => h) ?_
                      simp only [Act.put, List.setIfInBounds_toArray, List.set_cons_zero, List.set_cons_succ]
                      refine seqI_take (v := .bool false) rfl (fun W9 hW => by clear hW; go_simp) (fun _ _ _ h => h) ?_
                      simp only [Act.put, List.setIfInBounds_toArray, List.set_cons_zero, List.set_cons_succ]
                      refine seqI_skip rfl (fun _ _ _ h => h) ?_
                      simp only [Act.put, List.setIfInBounds_toArray, List.set_cons_zero, List.set_cons_succ]
                      refine seqI_skip rfl (fun _ _ _ h => h) ?_
                      simp only [Act.put, List.setIfInBounds_toArray, List.set_cons_zero, List.set_cons_succ]
                      refine seqI_skip rfl (fun _ _ _ h => h) ?_
                      simp only [Act.put, List.setIfInBounds_toArray, List.set_cons_zero, List.set_cons_succ]
                      refine seqI_skip rfl (fun _ _ _ h => h) ?_
                      simp only [Act.put, List.setIfInBounds_toArray, List.set_cons_zero, List.set_cons_succ]
                      refine seqI_skip rfl (fun _ _ _ h => h) ?_
                      simp only [Act.put, List.setIfInBounds_toArray, List.set_cons_zero, List.set_cons_succ]
                      refine seqI_skip rfl (fun _ _ _ h => h) ?_
                      simp only [Act.put, List.setIfInBounds_toArray, List.set_cons_zero, List.set_cons_succ]
                      refine seqI_skip rfl (fun _ _ _ h => h) ?_
                      simp only [Act.put, List.setIfInBounds_toArray, List.set_cons_zero, List.set_cons_succ]
                      refine seqI_skip rfl (fun _ _ _ h => h) ?_
                      simp only [Act.put, List.setIfInBounds_toArray, List.set_cons_zero, List.set_cons_succ]
                      refine seqI_take (v := .bool false) rfl (fun W9 hW => by clear hW; go_simp) (fun _ _ _ h => h) ?_
                      simp only [Act.put, List.setIfInBounds_toArray, List.set_cons_zero, List.set_cons_succ]
                      refine seqI_take (v := .bool false) rfl (fun W9 hW => by clear hW; go_simp) (fun _ _ _ h => h) ?_
                      simp only [Act.put, List.setIfInBounds_toArray, List.set_cons_zero, List.set_cons_succ]
                      refine seqI_nil ?_
                      as_aux_lemma =>
                        go_wp2_with fail
                        go_roundw
                        case rel => exact ⟨i + 1, by omega, by go_num, HBD.out⟩
                        case measure => simp [intOf]; omega
                  obtain ⟨i1, hi1⟩ : ∃ i1, i = i1 + 1 := ⟨i - 1, by omega⟩
                  have HI1 := Lib.hid hi1
                  have hip : 0 < i := by omega
                  have HIP := Lib.hid hip
                  have hw1 : IntKind.i64.wrap ((i : Int) - 1) = (i1 : Int) := by rw [show (i : Int) - 1 = (i1 : Int) by omega]; exact IntWalk.i64_in _ (by omega)
                  have h1n : (i1 : Int) < (n : Int) := by omega
                  have h10 : ¬ ((i1 : Int) < 0) := by omega
                  have HC1 := Lib.hid (HCM.out i1 hi1)
                  have HP1 := Lib.hid (HPREV.out i1 hi1)
                  clear hiz hi1 hip HCM HPREV
                  obtain ⟨r, hr⟩ : ∃ r, r = actCmp (l.getD i1 default) x := ⟨_, rfl⟩
                  have HR := Lib.hid hr
                  rw [← hr] at HC1
                  have HC2 : Hid (∀ W, Calls Tryz.prog 38 #[.agg #[.int .i64 (l.getD i1 default).at_, .string ⟨(l.getD i1 default).box.toArray⟩, .string ⟨(l.getD i1 default).id.toArray⟩, .int .i64 (l.getD i1 default).kind, .int .i64 (l.getD i1 default).long, .string ⟨(l.getD i1 default).frm.toArray⟩], .agg #[.int .i64 x0, .string b1, .string b2, .int .i64 x3, .int .i64 x4, .string ⟨f5.toArray⟩]] W fun e w' => e = .returned (.int .i64 r) ∧ Below W.heap.size W w') := HC1.out
                  clear hr HC1
                  generalize (l.getD i1 default).at_ = z0 at HP1 HC2
                  generalize (⟨(l.getD i1 default).box.toArray⟩ : ByteArray) = z1 at HP1 HC2
                  generalize (⟨(l.getD i1 default).id.toArray⟩ : ByteArray) = z2 at HP1 HC2
                  generalize (l.getD i1 default).kind = z3 at HP1 HC2
                  generalize (l.getD i1 default).long = z4 at HP1 HC2
                  generalize (⟨(l.getD i1 default).frm.toArray⟩ : ByteArray) = z5 at HP1 HC2
                  have HCE : Hid (∀ W9, Below w5.drew.heap.size w5.drew W9 → (W9.cell? ⟨g, i1 * 6, none⟩ = some (.int .i64 z0) ∧ W9.cell? ⟨g, i1 * 6 + 1, none⟩ = some (.string z1) ∧ W9.cell? ⟨g, i1 * 6 + 2, none⟩ = some (.string z2) ∧ W9.cell? ⟨g, i1 * 6 + 3, none⟩ = some (.int .i64 z3) ∧ W9.cell? ⟨g, i1 * 6 + 4, none⟩ = some (.int .i64 z4) ∧ W9.cell? ⟨g, i1 * 6 + 5, none⟩ = some (.string z5)) ∧ (W9.cell? ⟨B, 0, none⟩ = some (.int .i64 x0) ∧ W9.cell? ⟨B, 1, none⟩ = some (.string b1) ∧ W9.cell? ⟨B, 2, none⟩ = some (.string b2) ∧ W9.cell? ⟨B, 3, none⟩ = some (.int .i64 x3) ∧ W9.cell? ⟨B, 4, none⟩ = some (.int .i64 x4) ∧ W9.cell? ⟨B, 5, none⟩ = some (.string ⟨f5.toArray⟩))) := fun W9 hW => ⟨HP1.out W9 (ext_trans HBD.out hW), ⟨(XD.out.below hW).cell 0 rfl, (XD.out.below hW).cell 1 rfl, (XD.out.below hW).cell 2 rfl, (XD.out.below hW).cell 3 rfl, (XD.out.below hW).cell 4 rfl, (XD.out.below hW).cell 5 rfl⟩⟩
                  clear HP1
                  as_aux_lemma =>
                    refine region_seqI (S := fun W9 => Below w5.drew.heap.size w5.drew W9) [(true, 0), (true, 1), (true, 2), (true, 3), (true, 4), (true, 5), (true, 6), (true, 7), (true, 8), (false, 9), (true, 10), (true, 11), (true, 12)] (by kernel_rfl) (by kernel_rfl) rfl (by kernel_rfl) (Below.refl _ _) ?_
                    generalize w5.drew = wd at XD HBD HCE ⊢
                    simp only [seqOps, List.getD_cons_zero, List.getD_cons_succ]
                    refine seqI_take (v := .int .i64 i) rfl (fun W9 hW => by clear hW; go_simp) (fun _ _ _ h => h) ?_
                    simp only [Act.put, List.setIfInBounds_toArray, List.set_cons_zero, List.set_cons_succ]
                    refine seqI_take (v := .bool true) rfl (fun W9 hW => by clear hW; go_simp; exact HIP.out) (fun _ _ _ h => h) ?_
                    simp only [Act.put, List.setIfInBounds_toArray, List.set_cons_zero, List.set_cons_succ]
                    refine seqI_take (v := .bool true) rfl (fun W9 hW => by clear hW; go_simp) (fun _ _ _ h => h) ?_
                    simp only [Act.put, List.setIfInBounds_toArray, List.set_cons_zero, List.set_cons_succ]
                    refine seqI_take (v := .slice (some ⟨g, 0, none⟩) n cap) rfl (fun W9 hW => by clear hW; go_simp) (fun _ _ _ h => h) ?_
                    simp only [Act.put, List.setIfInBounds_toArray, List.set_cons_zero, List.set_cons_succ]
                    refine seqI_take (v := .int .i64 i) rfl (fun W9 hW => by clear hW; go_simp) (fun _ _ _ h => h) ?_
                    simp only [Act.put, List.setIfInBounds_toArray, List.set_cons_zero, List.set_cons_succ]
                    refine seqI_take (v := .int .i64 i1) rfl (fun W9 hW => by clear hW; go_simp) (fun _ _ _ h => h) ?_
                    simp only [Act.put, List.setIfInBounds_toArray, List.set_cons_zero, List.set_cons_succ]
                    refine seqI_take (v := .pointer (some ⟨g, i1 * 6, none⟩)) rfl (fun W9 hW => by clear hW; go_simp) (fun _ _ _ h => h) ?_
                    simp only [Act.put, List.setIfInBounds_toArray, List.set_cons_zero, List.set_cons_succ]
                    refine seqI_take (v := .agg #[.int .i64 z0, .string z1, .string z2, .int .i64 z3, .int .i64 z4, .string z5]) rfl (fun W9 hW => by obtain ⟨⟨p0, p1, p2, p3, p4, p5⟩, ⟨q0, q1, q2, q3, q4, q5⟩⟩ := HCE.out W9 hW; clear hW; go_simp) (fun _ _ _ h => h) ?_
                    simp only [Act.put, List.setIfInBounds_toArray, List.set_cons_zero, List.set_cons_succ]
                    refine seqI_take (v := .agg #[.int .i64 x0, .string b1, .string b2, .int .i64 x3, .int .i64 x4, .string ⟨f5.toArray⟩]) rfl (fun W9 hW => by obtain ⟨⟨p0, p1, p2, p3, p4, p5⟩, ⟨q0, q1, q2, q3, q4, q5⟩⟩ := HCE.out W9 hW; clear hW; go_simp) (fun _ _ _ h => h) ?_
                    simp only [Act.put, List.setIfInBounds_toArray, List.set_cons_zero, List.set_cons_succ]
                    refine seqI_call _ _ rfl (by go_simp) (HC2.out wd) ?_
                    rintro e w9 ⟨rfl, hb⟩
                    have HB9 := Lib.hid (ext_trans HBD.out hb)
                    refine ⟨_, rfl, hb, ?_⟩
                    simp only [Act.put, List.setIfInBounds_toArray, List.set_cons_zero, List.set_cons_succ]
                    clear hb HCE XD HBD HC2
                    have hr0 : r < 0 := by
                      rw [HR.out, actCmp_neg, HX.out, HI1.out]
                      exact HOK.out.asc.at_ (by omega) (by have := HN.out; have := HI1.out; omega)
                    have hr1 : ¬ (0 ≤ r) := by omega
                    refine seqI_take (v := .bool false) rfl (fun W9 hW => by clear hW; go_simp) (fun _ _ _ h => h) ?_
                    simp only [Act.put, List.setIfInBounds_toArray, List.set_cons_zero, List.set_cons_succ]
                    refine seqI_take (v := .bool false) rfl (fun W9 hW => by clear hW; go_simp) (fun _ _ _ h => h) ?_
                    simp only [Act.put, List.setIfInBounds_toArray, List.set_cons_zero, List.set_cons_succ]
                    refine seqI_take (v := .bool false) rfl (fun W9 hW => by clear hW; go_simp) (fun _ _ _ h => h) ?_
                    simp only [Act.put, List.setIfInBounds_toArray, List.set_cons_zero, List.set_cons_succ]
                    refine seqI_nil ?_
                    as_aux_lemma =>
                      go_wp2_with fail
                      go_roundw
                      case rel => exact ⟨i + 1, by omega, by go_num, HB9.out⟩
                      case measure => simp [intOf]; omega
      subst hk3
      have c0 := X1.out.cell 0 rfl
      have c1 := X1.out.cell 1 rfl
      have c2 := X1.out.cell 2 rfl
      have c3 := X1.out.cell 3 rfl
      have c4 := X1.out.cell 4 rfl
      have c5 := X1.out.cell 5 rfl
      as_aux_lemma =>
        go_wp2_with fail
        refine (HMO.out _).mono ?_
        rintro e w2 ⟨rfl, hb⟩
        have X2 := Lib.hid (X1.out.below hb)
        have HB2 := Lib.hid (ext_trans HB1.out hb)
        clear hb c0 c1 c2 c3 c4 c5 X1 HB1
        have c0 := X2.out.cell 0 rfl
        have c1 := X2.out.cell 1 rfl
        have c2 := X2.out.cell 2 rfl
        have c3 := X2.out.cell 3 rfl
        have c4 := X2.out.cell 4 rfl
        have c5 := X2.out.cell 5 rfl
        as_aux_lemma =>
          go_wp2_with fail
          refine (HK1.out _).mono ?_
          rintro e w3 ⟨rfl, hb⟩
          have X3 := Lib.hid (X2.out.below hb)
          have HB3 := Lib.hid (ext_trans HB2.out hb)
          clear hb c0 c1 c2 c3 c4 c5 X2 HB2
          have c0 := X3.out.cell 0 rfl
          have c1 := X3.out.cell 1 rfl
          have c2 := X3.out.cell 2 rfl
          have c3 := X3.out.cell 3 rfl
          have c4 := X3.out.cell 4 rfl
          have c5 := X3.out.cell 5 rfl
          as_aux_lemma =>
            go_wp2_with fail
            refine (HK2.out _).mono ?_
            rintro e w4 ⟨rfl, hb⟩
            have X4 := Lib.hid (X3.out.below hb)
            have HB4 := Lib.hid (ext_trans HB3.out hb)
            clear hb c0 c1 c2 c3 c4 c5 X3 HB3
            have c0 := X4.out.cell 0 rfl
            have c1 := X4.out.cell 1 rfl
            have c2 := X4.out.cell 2 rfl
            have c3 := X4.out.cell 3 rfl
            have c4 := X4.out.cell 4 rfl
            have c5 := X4.out.cell 5 rfl
            as_aux_lemma =>
              go_wp2_with fail
              refine (HINK.out _).mono ?_
              rintro e w5 ⟨rfl, hb⟩
              have X5 := Lib.hid (X4.out.below hb)
              have HB5 := Lib.hid (ext_trans HB4.out hb)
              clear hb c0 c1 c2 c3 c4 c5 X4 HB4
              have c0 := X5.out.cell 0 rfl
              have c1 := X5.out.cell 1 rfl
              have c2 := X5.out.cell 2 rfl
              have c3 := X5.out.cell 3 rfl
              have c4 := X5.out.cell 4 rfl
              have c5 := X5.out.cell 5 rfl
              have HLG := HGD.out.left (by rw [← HX3.out])
              have HINL2 := HINL.out
              rw [HX4.out, decide_eq_true HLG.1, decide_eq_true HLG.2.1] at HINL2
              have HINL3 := Lib.hid HINL2
              have HFR2 := HFR.out
              rw [HF5.out, HLG.2.2] at HFR2
              rw [← HF5.out] at HFR2
              rw [← HX4.out] at HINL3
              have HFR3 := Lib.hid HFR2
              clear HINL2 HFR2 HLG
              as_aux_lemma =>
                go_wp2_with fail
                refine (HINL3.out _).mono ?_
                rintro e w6 ⟨rfl, hb⟩
                have X6 := Lib.hid (X5.out.below hb)
                have HB6 := Lib.hid (ext_trans HB5.out hb)
                clear hb c0 c1 c2 c3 c4 c5 X5 HB5
                have c0 := X6.out.cell 0 rfl
                have c1 := X6.out.cell 1 rfl
                have c2 := X6.out.cell 2 rfl
                have c3 := X6.out.cell 3 rfl
                have c4 := X6.out.cell 4 rfl
                have c5 := X6.out.cell 5 rfl
                as_aux_lemma =>
                  go_wp2_with fail
                  refine (HFR3.out _).mono ?_
                  rintro e w7 ⟨rfl, hb⟩
                  have X7 := Lib.hid (X6.out.below hb)
                  have HB7 := Lib.hid (ext_trans HB6.out hb)
                  clear hb c0 c1 c2 c3 c4 c5 X6 HB6
                  have c0 := X7.out.cell 0 rfl
                  have c1 := X7.out.cell 1 rfl
                  have c2 := X7.out.cell 2 rfl
                  have c3 := X7.out.cell 3 rfl
                  have c4 := X7.out.cell 4 rfl
                  have c5 := X7.out.cell 5 rfl
                  as_aux_lemma =>
                    go_upto_region 19 with (fail)
                    have hd : Below w7.heap.size w7 w7.drew := ext_drew (Below.refl _ _)
                    have XD := Lib.hid (X7.out.below hd)
                    have HBD := Lib.hid (ext_trans HB7.out hd)
                    clear hd X7 HB7 c0 c1 c2 c3 c4 c5
                    by_cases hiz : i = 0
                    case pos =>
                      have HIZ := Lib.hid hiz
                      clear hiz HCM HPREV
                      as_aux_lemma =>
                        refine region_seqI (S := fun W9 => Below w7.drew.heap.size w7.drew W9) [(true, 0), (true, 1), (true, 2), (true, 3), (true, 4), (true, 5), (true, 6), (true, 7), (true, 8), (true, 9), (true, 10), (true, 11), (true, 12)] (by kernel_rfl) (by kernel_rfl) rfl (by kernel_rfl) (Below.refl _ _) ?_
                        generalize w7.drew = wd at XD HBD ⊢
                        simp only [seqOps, List.getD_cons_zero, List.getD_cons_succ]
                        refine seqI_take (v := .int .i64 i) rfl (fun W9 hW => by clear hW; go_simp) (fun _ _ _ h => h) ?_
                        simp only [Act.put, List.setIfInBounds_toArray, List.set_cons_zero, List.set_cons_succ]
                        refine seqI_take (v := .bool false) rfl (fun W9 hW => by clear hW; go_simp; exact HIZ.out) (fun _ _ _ h => h) ?_
                        simp only [Act.put, List.setIfInBounds_toArray, List.set_cons_zero, List.set_cons_succ]
                        refine seqI_take (v := .bool false) rfl (fun W9 hW => by clear hW; go_simp) (fun _ _ _ h => h) ?_
                        simp only [Act.put, List.setIfInBounds_toArray, List.set_cons_zero, List.set_cons_succ]
                        refine seqI_skip rfl (fun _ _ _ h => h) ?_
                        simp only [Act.put, List.setIfInBounds_toArray, List.set_cons_zero, List.set_cons_succ]
                        refine seqI_skip rfl (fun _ _ _ h => h) ?_
                        simp only [Act.put, List.setIfInBounds_toArray, List.set_cons_zero, List.set_cons_succ]
                        refine seqI_skip rfl (fun _ _ _ h => h) ?_
                        simp only [Act.put, List.setIfInBounds_toArray, List.set_cons_zero, List.set_cons_succ]
                        refine seqI_skip rfl (fun _ _ _ h => h) ?_
                        simp only [Act.put, List.setIfInBounds_toArray, List.set_cons_zero, List.set_cons_succ]
                        refine seqI_skip rfl (fun _ _ _ h => h) ?_
                        simp only [Act.put, List.setIfInBounds_toArray, List.set_cons_zero, List.set_cons_succ]
                        refine seqI_skip rfl (fun _ _ _ h => h) ?_
                        simp only [Act.put, List.setIfInBounds_toArray, List.set_cons_zero, List.set_cons_succ]
                        refine seqI_skip rfl (fun _ _ _ h => h) ?_
                        simp only [Act.put, List.setIfInBounds_toArray, List.set_cons_zero, List.set_cons_succ]
                        refine seqI_skip rfl (fun _ _ _ h => h) ?_
                        simp only [Act.put, List.setIfInBounds_toArray, List.set_cons_zero, List.set_cons_succ]
                        refine seqI_take (v := .bool false) rfl (fun W9 hW => by clear hW; go_simp) (fun _ _ _ h => h) ?_
                        simp only [Act.put, List.setIfInBounds_toArray, List.set_cons_zero, List.set_cons_succ]
                        refine seqI_take (v := .bool false) rfl (fun W9 hW => by clear hW; go_simp) (fun _ _ _ h => h) ?_
                        simp only [Act.put, List.setIfInBounds_toArray, List.set_cons_zero, List.set_cons_succ]
                        refine seqI_nil ?_
                        as_aux_lemma =>
                          go_wp2_with fail
                          go_roundw
                          case rel => exact ⟨i + 1, by omega, by go_num, HBD.out⟩
                          case measure => simp [intOf]; omega
                    obtain ⟨i1, hi1⟩ : ∃ i1, i = i1 + 1 := ⟨i - 1, by omega⟩
                    have HI1 := Lib.hid hi1
                    have hip : 0 < i := by omega
                    have HIP := Lib.hid hip
                    have hw1 : IntKind.i64.wrap ((i : Int) - 1) = (i1 : Int) := by rw [show (i : Int) - 1 = (i1 : Int) by omega]; exact IntWalk.i64_in _ (by omega)
                    have h1n : (i1 : Int) < (n : Int) := by omega
                    have h10 : ¬ ((i1 : Int) < 0) := by omega
                    have HC1 := Lib.hid (HCM.out i1 hi1)
                    have HP1 := Lib.hid (HPREV.out i1 hi1)
                    clear hiz hi1 hip HCM HPREV
                    obtain ⟨r, hr⟩ : ∃ r, r = actCmp (l.getD i1 default) x := ⟨_, rfl⟩
                    have HR := Lib.hid hr
                    rw [← hr] at HC1
                    have HC2 : Hid (∀ W, Calls Tryz.prog 38 #[.agg #[.int .i64 (l.getD i1 default).at_, .string ⟨(l.getD i1 default).box.toArray⟩, .string ⟨(l.getD i1 default).id.toArray⟩, .int .i64 (l.getD i1 default).kind, .int .i64 (l.getD i1 default).long, .string ⟨(l.getD i1 default).frm.toArray⟩], .agg #[.int .i64 x0, .string b1, .string b2, .int .i64 1, .int .i64 x4, .string ⟨f5.toArray⟩]] W fun e w' => e = .returned (.int .i64 r) ∧ Below W.heap.size W w') := HC1.out
                    clear hr HC1
                    generalize (l.getD i1 default).at_ = z0 at HP1 HC2
                    generalize (⟨(l.getD i1 default).box.toArray⟩ : ByteArray) = z1 at HP1 HC2
                    generalize (⟨(l.getD i1 default).id.toArray⟩ : ByteArray) = z2 at HP1 HC2
                    generalize (l.getD i1 default).kind = z3 at HP1 HC2
                    generalize (l.getD i1 default).long = z4 at HP1 HC2
                    generalize (⟨(l.getD i1 default).frm.toArray⟩ : ByteArray) = z5 at HP1 HC2
                    have HCE : Hid (∀ W9, Below w7.drew.heap.size w7.drew W9 → (W9.cell? ⟨g, i1 * 6, none⟩ = some (.int .i64 z0) ∧ W9.cell? ⟨g, i1 * 6 + 1, none⟩ = some (.string z1) ∧ W9.cell? ⟨g, i1 * 6 + 2, none⟩ = some (.string z2) ∧ W9.cell? ⟨g, i1 * 6 + 3, none⟩ = some (.int .i64 z3) ∧ W9.cell? ⟨g, i1 * 6 + 4, none⟩ = some (.int .i64 z4) ∧ W9.cell? ⟨g, i1 * 6 + 5, none⟩ = some (.string z5)) ∧ (W9.cell? ⟨B, 0, none⟩ = some (.int .i64 x0) ∧ W9.cell? ⟨B, 1, none⟩ = some (.string b1) ∧ W9.cell? ⟨B, 2, none⟩ = some (.string b2) ∧ W9.cell? ⟨B, 3, none⟩ = some (.int .i64 1) ∧ W9.cell? ⟨B, 4, none⟩ = some (.int .i64 x4) ∧ W9.cell? ⟨B, 5, none⟩ = some (.string ⟨f5.toArray⟩))) := fun W9 hW => ⟨HP1.out W9 (ext_trans HBD.out hW), ⟨(XD.out.below hW).cell 0 rfl, (XD.out.below hW).cell 1 rfl, (XD.out.below hW).cell 2 rfl, (XD.out.below hW).cell 3 rfl, (XD.out.below hW).cell 4 rfl, (XD.out.below hW).cell 5 rfl⟩⟩
                    clear HP1
                    as_aux_lemma =>
                      refine region_seqI (S := fun W9 => Below w7.drew.heap.size w7.drew W9) [(true, 0), (true, 1), (true, 2), (true, 3), (true, 4), (true, 5), (true, 6), (true, 7), (true, 8), (false, 9), (true, 10), (true, 11), (true, 12)] (by kernel_rfl) (by kernel_rfl) rfl (by kernel_rfl) (Below.refl _ _) ?_
                      generalize w7.drew = wd at XD HBD HCE ⊢
                      simp only [seqOps, List.getD_cons_zero, List.getD_cons_succ]
                      refine seqI_take (v := .int .i64 i) rfl (fun W9 hW => by clear hW; go_simp) (fun _ _ _ h => h) ?_
                      simp only [Act.put, List.setIfInBounds_toArray, List.set_cons_zero, List.set_cons_succ]
                      refine seqI_take (v := .bool true) rfl (fun W9 hW => by clear hW; go_simp; exact HIP.out) (fun _ _ _ h => h) ?_
                      simp only [Act.put, List.setIfInBounds_toArray, List.set_cons_zero, List.set_cons_succ]
                      refine seqI_take (v := .bool true) rfl (fun W9 hW => by clear hW; go_simp) (fun _ _ _ h => h) ?_
                      simp only [Act.put, List.setIfInBounds_toArray, List.set_cons_zero, List.set_cons_succ]
                      refine seqI_take (v := .slice (some ⟨g, 0, none⟩) n cap) rfl (fun W9 hW => by clear hW; go_simp) (fun _ _ _ h => h) ?_
                      simp only [Act.put, List.setIfInBounds_toArray, List.set_cons_zero, List.set_cons_succ]
                      refine seqI_take (v := .int .i64 i) rfl (fun W9 hW => by clear hW; go_simp) (fun _ _ _ h => h) ?_
                      simp only [Act.put, List.setIfInBounds_toArray, List.set_cons_zero, List.set_cons_succ]
                      refine seqI_take (v := .int .i64 i1) rfl (fun W9 hW => by clear hW; go_simp) (fun _ _ _ h => h) ?_
                      simp only [Act.put, List.setIfInBounds_toArray, List.set_cons_zero, List.set_cons_succ]
                      refine seqI_take (v := .pointer (some ⟨g, i1 * 6, none⟩)) rfl (fun W9 hW => by clear hW; go_simp) (fun _ _ _ h => h) ?_
                      simp only [Act.put, List.setIfInBounds_toArray, List.set_cons_zero, List.set_cons_succ]
                      refine seqI_take (v := .agg #[.int .i64 z0, .string z1, .string z2, .int .i64 z3, .int .i64 z4, .string z5]) rfl (fun W9 hW => by obtain ⟨⟨p0, p1, p2, p3, p4, p5⟩, ⟨q0, q1, q2, q3, q4, q5⟩⟩ := HCE.out W9 hW; clear hW; go_simp) (fun _ _ _ h => h) ?_
                      simp only [Act.put, List.setIfInBounds_toArray, List.set_cons_zero, List.set_cons_succ]
                      refine seqI_take (v := .agg #[.int .i64 x0, .string b1, .string b2, .int .i64 1, .int .i64 x4, .string ⟨f5.toArray⟩]) rfl (fun W9 hW => by obtain ⟨⟨p0, p1, p2, p3, p4, p5⟩, ⟨q0, q1, q2, q3, q4, q5⟩⟩ := HCE.out W9 hW; clear hW; go_simp) (fun _ _ _ h => h) ?_
                      simp only [Act.put, List.setIfInBounds_toArray, List.set_cons_zero, List.set_cons_succ]
                      refine seqI_call _ _ rfl (by go_simp) (HC2.out wd) ?_
                      rintro e w9 ⟨rfl, hb⟩
                      have HB9 := Lib.hid (ext_trans HBD.out hb)
                      refine ⟨_, rfl, hb, ?_⟩
                      simp only [Act.put, List.setIfInBounds_toArray, List.set_cons_zero, List.set_cons_succ]
                      clear hb HCE XD HBD HC2
                      have hr0 : r < 0 := by
                        rw [HR.out, actCmp_neg, HX.out, HI1.out]
                        exact HOK.out.asc.at_ (by omega) (by have := HN.out; have := HI1.out; omega)
                      have hr1 : ¬ (0 ≤ r) := by omega
                      refine seqI_take (v := .bool false) rfl (fun W9 hW => by clear hW; go_simp) (fun _ _ _ h => h) ?_
                      simp only [Act.put, List.setIfInBounds_toArray, List.set_cons_zero, List.set_cons_succ]
                      refine seqI_take (v := .bool false) rfl (fun W9 hW => by clear hW; go_simp) (fun _ _ _ h => h) ?_
                      simp only [Act.put, List.setIfInBounds_toArray, List.set_cons_zero, List.set_cons_succ]
                      refine seqI_take (v := .bool false) rfl (fun W9 hW => by clear hW; go_simp) (fun _ _ _ h => h) ?_
                      simp only [Act.put, List.setIfInBounds_toArray, List.set_cons_zero, List.set_cons_succ]
                      refine seqI_nil ?_
                      as_aux_lemma =>
                        go_wp2_with fail
                        go_roundw
                        case rel => exact ⟨i + 1, by omega, by go_num, HB9.out⟩
                        case measure => simp [intOf]; omega
end Go.Proofs.YtamoclofloijpaaGreatDoor

set_option linter.unusedVariables false
set_option linter.unusedSimpArgs false
namespace Go.Proofs.YtamoclofloijpaaGreatDoor
open Go.RowKit Go.Sort Go.Lib

theorem swp_mem {α : Type} [Inhabited α] {d : Array α} {i j : Nat} (hi : i < d.size) (hj : j < d.size) {x : α} (h : x ∈ swp d i j) : x ∈ d := by
  unfold swp at h
  have e : ∀ k, k < d.size → d[k]! ∈ d := fun k hk => by rw [getElem!_pos d k hk]; exact Array.getElem_mem hk
  rcases Array.mem_or_eq_of_mem_setIfInBounds h with h | h
  · rcases Array.mem_or_eq_of_mem_setIfInBounds h with h | h
    · exact h
    · rw [h]; exact e _ hj
  · rw [h]; exact e _ hi
theorem insInner_mem {α : Type} [Inhabited α] (lt : α → α → Bool) (a : Nat) : ∀ (j : Nat) (d : Array α), j < d.size → (insInner lt a j d).size = d.size ∧ ∀ x, x ∈ insInner lt a j d → x ∈ d
  | 0, d, _ => ⟨rfl, fun x h => h⟩
  | j + 1, d, hj => by
    unfold insInner
    split
    · have hs : (swp d (j + 1) j).size = d.size := by unfold swp; simp
      have ih := insInner_mem lt a j (swp d (j + 1) j) (by omega)
      exact ⟨ih.1.trans hs, fun x h => swp_mem hj (by omega) (ih.2 x h)⟩
    · exact ⟨rfl, fun x h => h⟩
theorem insOuter_mem {α : Type} [Inhabited α] (lt : α → α → Bool) (a b : Nat) : ∀ (n i : Nat) (d : Array α), b - i = n → b ≤ d.size → ∀ x, x ∈ insOuter lt a b i d → x ∈ d
  | 0, i, d, hn, hb => fun x h => by
    unfold insOuter at h
    rw [if_neg (by omega)] at h
    exact h
  | n + 1, i, d, hn, hb => fun x h => by
    unfold insOuter at h
    rw [if_pos (by omega)] at h
    have h1 := insInner_mem lt a i d (by omega)
    exact h1.2 x (insOuter_mem lt a b n (i + 1) _ (by omega) (by omega) x h)
theorem insL_mem {α : Type} [Inhabited α] (lt : α → α → Bool) (l : List α) {x : α} (h : x ∈ insL lt l) : x ∈ l := by
  have h2 : x ∈ insertionSort lt l.toArray 0 l.length := by rw [insL_arr]; simpa using h
  unfold insertionSort at h2
  have := insOuter_mem lt 0 l.length _ _ l.toArray rfl (by simp) x h2
  simpa using this
end Go.Proofs.YtamoclofloijpaaGreatDoor

set_option linter.unusedVariables false
set_option linter.unusedSimpArgs false
namespace Go.Proofs.YtamoclofloijpaaGreatDoor
open Go.RowKit Go.Sort Go.Lib

theorem sortK_blockA {α : Type} [Inhabited α] (enc : α → List Value) (k : Nat) (w : World) (g q K : Nat) (d : Array α) (os : Array Obj) (hK : K < w.heap.size) (hne : K ≠ g) : (sortWorldK enc k w g 0 q d os).heap[K]? = w.heap[K]? := by
  unfold sortWorldK grow putRowK putRow mapBlock Sort.ahead
  rw [Array.getElem?_append_left (by simp; omega)]
  simp [Array.getElem?_modify, Ne.symm hne]
theorem gb_sortKA {α : Type} [Inhabited α] (enc : α → List Value) (k : Nat) (w : World) (g q : Nat) (d : Array α) (os : Array Obj) : w.grownBy (sortWorldK enc k w g 0 q d os) (some g) := by
  have h := below_sortK enc k os (q := q) (d := d) (Below.refl 0 w) (Nat.zero_le g) (Nat.zero_le _)
  exact ⟨h.os, h.tape, h.output, h.size, fun j hj hn => sortK_blockA enc k w g q j d os hj (fun e => hn (by rw [e]))⟩
def stAPost (base : Nat) (v : Value) (l : List Vact) (w : World) (e : Ending) (w' : World) : Prop := e = .returned (.tuple #[]) ∧ VactRow w' base v l ∧ w.grownBy w' v.ownBlock
theorem stA_lays (blk size : Nat) (w : World) : CmpLays Tryz.prog 82 #[] Vact.cells 6 actOrd blk 0 size w := fun m os dk _ x y => actOrd_any x y _
/-- Nothing is sorted. -/
theorem stA_nil (c : Nat) (a : Option Addr) (fv : Value) (w : World) : Calls Tryz.prog 140 #[.slice a 0 c, .int .i64 0, .int .i64 0, fv] w fun e w' => e = .returned (.tuple #[]) ∧ w = w' := by
  go_enter Tryz.func140, Tryz.ntmps140
  go_wp2_with fail
  go_loopw [8] (fun i wr => i = .int .i64 1 ∧ wr = w) (fun _ _ => 0)
  case atStart => exact ⟨rfl, rfl⟩
  case round =>
    obtain ⟨rfl, rfl⟩ := hrel
    go_wp2_with fail
    go_end0
    exact ⟨rfl, rfl⟩
theorem stA_any (w : World) (base : Nat) (v : Value) (l : List Vact) (h : VactRow w base v l) (hl : l.length ≤ 12) : Calls Tryz.prog 81 #[v, .func (.func 82) #[] #[]] w (stAPost base v (insL (ltOf actOrd) l) w) := by
  unfold VactRow at h
  obtain ⟨a, c, rfl⟩ := own_shape h
  have HINS : Hid (Calls Tryz.prog 140 #[.slice a l.length c, .int .i64 0, .int .i64 l.length, .func (.func 82) #[] #[]] w (stAPost base (.slice a l.length c) (insL (ltOf actOrd) l) w)) := by
    show Calls _ _ _ _ _
    by_cases h0 : l.length = 0
    · have hx : l = [] := List.eq_nil_of_length_eq_zero h0
      subst hx
      have e1 : insL (ltOf actOrd) ([] : List Vact) = [] := by unfold insL insertionSort insOuter; simp
      rw [e1]
      refine (stA_nil c a _ w).mono ?_
      rintro e w' ⟨rfl, rfl⟩
      exact ⟨rfl, h, gb_of_below (Below.refl _ _)⟩
    · obtain ⟨g, rfl, hg1, hg2⟩ := own_pos h (by omega)
      have hcon := Tryz.slices_insVact Vact.cells (fun _ => rfl) act_one actOrd 82 #[] g 0 c 0 l.length l.toArray w (enters_of Tryz.func82 (by kernel_rfl) rfl) (stA_lays g _ w) (holdsK_own Vact.cells (fun _ => rfl) (by omega) h) hg2 (Nat.zero_le _) (by simp) (by simp; omega)
      refine Calls.mono hcon ?_
      rintro e w' ⟨rfl, q, os, rfl⟩
      rw [insL_arr]
      refine ⟨rfl, ?_, gb_sortKA Vact.cells 6 w g q _ os⟩
      unfold VactRow
      rw [insL_len]
      exact own_putK Vact.cells (fun _ => rfl) (by omega) h (insL_len _ _) q os
  have hl12 := hl
  clear h
  have HPR : Hid (∀ e W2, stAPost base (.slice a l.length c) (insL (ltOf actOrd) l) w e W2 → e = .returned (.tuple #[]) ∧ Hid (stAPost base (.slice a l.length c) (insL (ltOf actOrd) l) w (.returned (.tuple #[])) W2)) := fun e W2 h => ⟨h.1, by obtain ⟨rfl, h2⟩ := h; exact ⟨rfl, h2⟩⟩
  generalize hPP : stAPost base (.slice a l.length c) (insL (ltOf actOrd) l) w = PP at HINS HPR ⊢
  clear hPP
  generalize l.length = n at HINS hl12 ⊢
  clear hl
  have HSTB : Hid (Calls Tryz.prog 138 #[.slice a n c, .int .i64 n, .func (.func 82) #[] #[]] w fun e w' => e = .returned (.tuple #[]) ∧ PP (.returned (.tuple #[])) w') := by
    show Calls _ _ _ _ _
    have q1 : ¬ ((20 : Int) ≤ (n : Int)) := by omega
    have q2 : ¬ ((20 : Int) < (n : Int)) := by omega
    go_enter Tryz.func138, Tryz.ntmps138
    go_wp2_with fail
    go_loopw [7, 8] (fun a b wr => a = .int .i64 0 ∧ b = .int .i64 20 ∧ wr = w) (fun _ _ _ => 0)
    case atStart => exact ⟨rfl, rfl, rfl⟩
    case round =>
      obtain ⟨rfl, rfl, rfl⟩ := hrel
      go_wp2_with fail
      refine HINS.out.mono ?_
      rintro e W2 hp
      obtain ⟨rfl, HPW⟩ : e = .returned (.tuple #[]) ∧ Hid (PP (.returned (.tuple #[])) W2) := HPR.out e W2 hp
      go_wp2_with fail
      go_loopw [6] (fun a wr => a = .int .i64 20 ∧ wr = W2) (fun _ _ => 0)
      case atStart => exact ⟨rfl, rfl⟩
      case round =>
        obtain ⟨rfl, rfl⟩ := hrel
        go_wp2_with fail
        go_end0
        exact ⟨rfl, HPW.out⟩
  clear HINS
  go_enter Tryz.func81, Tryz.ntmps81
  go_wp2_with fail
  refine HSTB.out.mono ?_
  rintro e w' ⟨rfl, hp⟩
  have HP := Lib.hid hp
  clear hp
  go_wp2_with fail
  go_end0
  exact HP.out
theorem sfA_lays (blk size : Nat) (w : World) : CmpLays Tryz.prog 38 #[] Vact.cells 6 actCmp blk 0 size w := fun m os dk _ x y => cmpActs_any x y _
theorem sfA_pdq (c : Nat) (a : Option Addr) (lim : Int) (fv : Value) (w : World) : Calls Tryz.prog 88 #[.slice a 0 c, .int .i64 0, .int .i64 0, .int .i64 lim, fv] w fun e w' => e = .returned (.tuple #[]) ∧ w = w' := by
  go_enter Tryz.func88, Tryz.ntmps88
  go_wp2_with fail
  go_loopw [1, 2] (fun x1 x2 wr => x1 = .int .i64 0 ∧ x2 = .int .i64 0 ∧ wr = w) (fun _ _ _ => 0)
  case atStart => exact ⟨rfl, rfl, rfl⟩
  case round =>
    obtain ⟨rfl, rfl, rfl⟩ := hrel
    go_wp2_with fail
    refine (stA_nil c a fv _).mono ?_
    rintro e w' ⟨rfl, rfl⟩
    go_wp2_with fail
    refine bodyPost_ret (results_none rfl _ _ _) rfl ?_
    exact ⟨rfl, rfl⟩
theorem sfA_any (w : World) (base : Nat) (v : Value) (l : List Vact) (h : VactRow w base v l) (hl : l.length ≤ 12) : Calls Tryz.prog 39 #[v, .func (.func 38) #[] #[]] w (stAPost base v (insL (ltOf actCmp) l) w) := by
  unfold VactRow at h
  obtain ⟨a, c, rfl⟩ := own_shape h
  by_cases h0 : l.length = 0
  · have hx : l = [] := List.eq_nil_of_length_eq_zero h0
    subst hx
    have e1 : insL (ltOf actCmp) ([] : List Vact) = [] := by unfold insL insertionSort insOuter; simp
    rw [e1]
    have HP : Hid (VactRow w base (.slice a 0 c) []) := h
    show Calls Tryz.prog 39 #[.slice a 0 c, .func (.func 38) #[] #[]] w _
    clear h h0 e1
    go_enter Tryz.func39, Tryz.ntmps39
    go_wp2_with fail
    refine (Tryz.bits_Len 0 _ (by omega) (by omega)).mono ?_
    rintro e w' ⟨rfl, rfl⟩
    go_wp2_with fail
    refine (sfA_pdq c a _ _ _).mono ?_
    rintro e w' ⟨rfl, rfl⟩
    go_wp2_with fail
    go_end0
    exact ⟨rfl, HP.out, gb_of_below (Below.refl _ _)⟩
  · obtain ⟨g, rfl, hg1, hg2⟩ := own_pos h (by omega)
    have hcon := Tryz.slices_sortVact Vact.cells (fun _ => rfl) act_one actCmp 38 #[] g 0 c l.toArray w (enters_of Tryz.func38 (by kernel_rfl) rfl) (sfA_lays g _ w) (holdsK_own Vact.cells (fun _ => rfl) (by omega) h) hg2 (by simpa using hl) (fun n W hn => (Tryz.bits_Len n W (by omega) (by omega)).mono (fun e w' ⟨h1, h2⟩ => ⟨⟨_, h1⟩, h2⟩))
    refine Calls.mono hcon ?_
    rintro e w' ⟨rfl, q, os, rfl⟩
    have e2 : l.toArray.size = l.length := by simp
    rw [e2, insL_arr]
    refine ⟨rfl, ?_, gb_sortKA Vact.cells 6 w g q _ os⟩
    unfold VactRow
    rw [insL_len]
    exact own_putK Vact.cells (fun _ => rfl) (by omega) h (insL_len _ _) q os
end Go.Proofs.YtamoclofloijpaaGreatDoor

set_option linter.unusedVariables false
set_option linter.unusedSimpArgs false
namespace Go.Proofs.YtamoclofloijpaaGreatDoor
open Go.RowKit Go.Sort Go.Lib

def actEqB (x y : Vact) : Bool := actOrd x y == 0
def cpAPost (base : Nat) (v : Value) (L : List Vact) (w : World) (e : Ending) (w' : World) : Prop :=
  ∃ v' ys, e = .returned v' ∧ VactRow w' base v' ys ∧ (∀ y ∈ ys, y ∈ L) ∧ ys.length ≤ L.length ∧ w.grownBy w' v.ownBlock
set_option maxRecDepth 100000 in
set_option maxHeartbeats 16000000 in
theorem cpA_any (w : World) (base : Nat) (v : Value) (L : List Vact) (h : VactRow w base v L) (hl : L.length ≤ 12) :
    Calls Tryz.prog 83 #[v, .func (.func 84) #[] #[]] w (cpAPost base v L w) := by
  unfold VactRow at h
  obtain ⟨a, cap, rfl⟩ := own_shape h
  by_cases h2 : L.length < 2
  · have HE : Hid (cpAPost base (.slice a L.length cap) L w (.returned (.slice a L.length cap)) w) := ⟨_, L, rfl, h, fun y hy => hy, Nat.le_refl _, gb_of_below (Below.refl _ _)⟩
    generalize hPP : cpAPost base (.slice a L.length cap) L w = PP at HE ⊢
    generalize L.length = n at HE h2 ⊢
    clear h hl hPP
    have h01 : n = 0 ∨ n = 1 := by omega
    clear h2
    rcases h01 with rfl | rfl
    · go_enter Tryz.func83, Tryz.ntmps83
      go_wp2_with fail
      exact HE.out
    · go_enter Tryz.func83, Tryz.ntmps83
      go_wp2_with fail
      exact HE.out
  obtain ⟨g, rfl, hg0, hg1⟩ := own_pos h (by omega)
  have hcp : L.length ≤ cap ∧ cap ≤ maxLen := by
    rcases h.2 with ⟨e, _⟩ | ⟨g', c', cu, e, _, _, h1, h3, _⟩
    · cases e
    · injection e with _ _ e3
      subst e3
      exact ⟨h1, h3⟩
  have hcm : cap ≤ 9223372036854775807 := by have := hcp.2; unfold maxLen at this; omega
  have hcp1 := hcp.1
  have HO := Lib.hid h
  obtain ⟨n, hn⟩ : ∃ n, n = L.length := ⟨_, rfl⟩
  have HN := Lib.hid hn
  have hn2 : 2 ≤ n := by omega
  have hn12 : n ≤ 12 := by omega
  have hcn : n ≤ cap := by omega
  have HPP : Hid (∀ e W, cpAPost base (.slice (some ⟨g, 0, none⟩) L.length cap) L w e W → cpAPost base (.slice (some ⟨g, 0, none⟩) n cap) L w e W) := fun e W h => by rw [hn]; exact h
  rw [← hn] at HO ⊢
  clear h hl h2 hcp hcp1 hn
  go_enter Tryz.func83, Tryz.ntmps83
  have hn2i : ¬ ((n : Int) < 2) := by omega
  go_wp2_with fail
  clear hn2i
  go_loopw [5] (fun it wr => ∃ k : Nat, 1 ≤ k ∧ k ≤ n ∧ it = .int .i64 k ∧ Hid (wr.ownsRow base 45 6 (.slice (some ⟨g, 0, none⟩) n cap) n ((L.map Vact.cells).flatten)) ∧ Hid (w.grownBy wr (some g))) (fun it _ => n - (intOf it).toNat)
  case atStart => exact ⟨1, Nat.le_refl _, by omega, rfl, HO, gb_of_below (Below.refl _ _)⟩
  case round =>
    clear HO
    obtain ⟨k, hk1, hkn, rfl, HO, HG⟩ := hrel
    by_cases hlk : k < n
    case neg =>
      obtain rfl : k = n := by omega
      have HE : Hid (cpAPost base (.slice (some ⟨g, 0, none⟩) k cap) L w (.returned (.slice (some ⟨g, 0, none⟩) k cap)) wr) := ⟨_, L, rfl, by unfold VactRow; rw [← HN.out]; exact HO.out, fun y hy => hy, Nat.le_refl _, HG.out⟩
      have hkk : ¬ ((k : Int) < (k : Int)) := by omega
      clear HO HG
      as_aux_lemma =>
        go_wp2_with fail
        go_ret
        exact HE.out
    obtain ⟨k1, rfl⟩ : ∃ k1, k = k1 + 1 := ⟨k - 1, by omega⟩
    have hlki : ((k1 + 1 : Nat) : Int) < (n : Int) := by omega
    have hlk1 : (k1 : Int) < (n : Int) := by omega
    have hwk : IntKind.i64.wrap (k1 : Int) = (k1 : Int) := IntWalk.i64_in _ (by omega)
    have hk10 : ¬ ((k1 : Int) < 0) := by omega
    have hk20 : ¬ ((k1 : Int) + 1 < 0) := by omega
    have hk21 : (k1 : Int) + 1 < (n : Int) := by omega
    have hOd := own_keep HO.out (ext_drew (Below.refl wr.heap.size wr))
    have xc0 := own_field Vact.cells (fun _ => rfl) hOd (k1 + 1) 0 default (by have := HN.out; omega) (by omega) rfl
    have yc0 := own_field Vact.cells (fun _ => rfl) hOd (k1) 0 default (by have := HN.out; omega) (by omega) rfl
    have xc1 := own_field Vact.cells (fun _ => rfl) hOd (k1 + 1) 1 default (by have := HN.out; omega) (by omega) rfl
    have yc1 := own_field Vact.cells (fun _ => rfl) hOd (k1) 1 default (by have := HN.out; omega) (by omega) rfl
    have xc2 := own_field Vact.cells (fun _ => rfl) hOd (k1 + 1) 2 default (by have := HN.out; omega) (by omega) rfl
    have yc2 := own_field Vact.cells (fun _ => rfl) hOd (k1) 2 default (by have := HN.out; omega) (by omega) rfl
    have xc3 := own_field Vact.cells (fun _ => rfl) hOd (k1 + 1) 3 default (by have := HN.out; omega) (by omega) rfl
    have yc3 := own_field Vact.cells (fun _ => rfl) hOd (k1) 3 default (by have := HN.out; omega) (by omega) rfl
    have xc4 := own_field Vact.cells (fun _ => rfl) hOd (k1 + 1) 4 default (by have := HN.out; omega) (by omega) rfl
    have yc4 := own_field Vact.cells (fun _ => rfl) hOd (k1) 4 default (by have := HN.out; omega) (by omega) rfl
    have xc5 := own_field Vact.cells (fun _ => rfl) hOd (k1 + 1) 5 default (by have := HN.out; omega) (by omega) rfl
    have yc5 := own_field Vact.cells (fun _ => rfl) hOd (k1) 5 default (by have := HN.out; omega) (by omega) rfl
    have hgd : g < wr.drew.heap.size := Nat.lt_of_lt_of_le hg1 (gb_below HG.out (ext_drew (Below.refl _ _))).size
    obtain ⟨fx, hfx⟩ : ∃ f, f = L.getD (k1 + 1) default := ⟨_, rfl⟩
    obtain ⟨fy, hfy⟩ : ∃ f, f = L.getD k1 default := ⟨_, rfl⟩
    rw [← hfx] at xc0 xc1 xc2 xc3 xc4 xc5
    rw [← hfy] at yc0 yc1 yc2 yc3 yc4 yc5
    have HEQ2 : Hid (∀ W, Calls Tryz.prog 84 #[.agg #[.int .i64 fx.at_, .string ⟨fx.box.toArray⟩, .string ⟨fx.id.toArray⟩, .int .i64 fx.kind, .int .i64 fx.long, .string ⟨fx.frm.toArray⟩], .agg #[.int .i64 fy.at_, .string ⟨fy.box.toArray⟩, .string ⟨fy.id.toArray⟩, .int .i64 fy.kind, .int .i64 fy.long, .string ⟨fy.frm.toArray⟩]] W (BoolP (actEqB fx fy) W)) := fun W => actSame_any fx fy W
    clear hfx hfy
    generalize actEqB fx fy = bq at HEQ2
    generalize fx.at_ = x0 at xc0 HEQ2
    generalize (⟨fx.box.toArray⟩ : ByteArray) = x1 at xc1 HEQ2
    generalize (⟨fx.id.toArray⟩ : ByteArray) = x2 at xc2 HEQ2
    generalize fx.kind = x3 at xc3 HEQ2
    generalize fx.long = x4 at xc4 HEQ2
    generalize (⟨fx.frm.toArray⟩ : ByteArray) = x5 at xc5 HEQ2
    generalize fy.at_ = y0 at yc0 HEQ2
    generalize (⟨fy.box.toArray⟩ : ByteArray) = y1 at yc1 HEQ2
    generalize (⟨fy.id.toArray⟩ : ByteArray) = y2 at yc2 HEQ2
    generalize fy.kind = y3 at yc3 HEQ2
    generalize fy.long = y4 at yc4 HEQ2
    generalize (⟨fy.frm.toArray⟩ : ByteArray) = y5 at yc5 HEQ2
    rw [Nat.add_zero] at xc0 yc0
    have HCE : Hid (∀ W9, Below wr.drew.heap.size wr.drew W9 → (W9.cell? ⟨g, (k1 + 1) * 6, none⟩ = some (.int .i64 x0) ∧ W9.cell? ⟨g, (k1 + 1) * 6 + 1, none⟩ = some (.string x1) ∧ W9.cell? ⟨g, (k1 + 1) * 6 + 2, none⟩ = some (.string x2) ∧ W9.cell? ⟨g, (k1 + 1) * 6 + 3, none⟩ = some (.int .i64 x3) ∧ W9.cell? ⟨g, (k1 + 1) * 6 + 4, none⟩ = some (.int .i64 x4) ∧ W9.cell? ⟨g, (k1 + 1) * 6 + 5, none⟩ = some (.string x5)) ∧ (W9.cell? ⟨g, k1 * 6, none⟩ = some (.int .i64 y0) ∧ W9.cell? ⟨g, k1 * 6 + 1, none⟩ = some (.string y1) ∧ W9.cell? ⟨g, k1 * 6 + 2, none⟩ = some (.string y2) ∧ W9.cell? ⟨g, k1 * 6 + 3, none⟩ = some (.int .i64 y3) ∧ W9.cell? ⟨g, k1 * 6 + 4, none⟩ = some (.int .i64 y4) ∧ W9.cell? ⟨g, k1 * 6 + 5, none⟩ = some (.string y5))) := fun W9 hW => ⟨⟨(hW.cell (p := ⟨g, (k1 + 1) * 6, none⟩) hgd).trans xc0, (hW.cell (p := ⟨g, (k1 + 1) * 6 + 1, none⟩) hgd).trans xc1, (hW.cell (p := ⟨g, (k1 + 1) * 6 + 2, none⟩) hgd).trans xc2, (hW.cell (p := ⟨g, (k1 + 1) * 6 + 3, none⟩) hgd).trans xc3, (hW.cell (p := ⟨g, (k1 + 1) * 6 + 4, none⟩) hgd).trans xc4, (hW.cell (p := ⟨g, (k1 + 1) * 6 + 5, none⟩) hgd).trans xc5⟩, ⟨(hW.cell (p := ⟨g, k1 * 6, none⟩) hgd).trans yc0, (hW.cell (p := ⟨g, k1 * 6 + 1, none⟩) hgd).trans yc1, (hW.cell (p := ⟨g, k1 * 6 + 2, none⟩) hgd).trans yc2, (hW.cell (p := ⟨g, k1 * 6 + 3, none⟩) hgd).trans yc3, (hW.cell (p := ⟨g, k1 * 6 + 4, none⟩) hgd).trans yc4, (hW.cell (p := ⟨g, k1 * 6 + 5, none⟩) hgd).trans yc5⟩⟩
    have HOd := Lib.hid hOd
    have HGd := Lib.hid (gb_below HG.out (ext_drew (Below.refl wr.heap.size wr)))
    clear xc0 xc1 xc2 xc3 xc4 xc5 yc0 yc1 yc2 yc3 yc4 yc5 hOd HO HG
    as_aux_lemma =>
      go_upto_region 6 with (fail)
      refine region_seqI (S := fun W9 => Below wr.drew.heap.size wr.drew W9) [(true, 0), (true, 1), (true, 2), (true, 3), (true, 4), (true, 5), (true, 6), (true, 7), (true, 8), (true, 9), (false, 10)] (by kernel_rfl) (by kernel_rfl) rfl (by kernel_rfl) (Below.refl _ _) ?_
      generalize wr.drew = wd at HCE HOd HGd hgd ⊢
      simp only [seqOps, List.getD_cons_zero, List.getD_cons_succ]
      refine seqI_take (v := .func (.func 84) #[] #[]) rfl (fun W9 hW => by clear hW; go_simp) (fun _ _ _ h => h) ?_
      simp only [Act.put, List.setIfInBounds_toArray, List.set_cons_zero, List.set_cons_succ]
      refine seqI_take (v := .slice (some ⟨g, 0, none⟩) n cap) rfl (fun W9 hW => by clear hW; go_simp) (fun _ _ _ h => h) ?_
      simp only [Act.put, List.setIfInBounds_toArray, List.set_cons_zero, List.set_cons_succ]
      refine seqI_take (v := .int .i64 ((k1 : Int) + 1)) rfl (fun W9 hW => by clear hW; go_simp) (fun _ _ _ h => h) ?_
      simp only [Act.put, List.setIfInBounds_toArray, List.set_cons_zero, List.set_cons_succ]
      refine seqI_take (v := .pointer (some ⟨g, (k1 + 1) * 6, none⟩)) rfl (fun W9 hW => by clear hW; go_simp) (fun _ _ _ h => h) ?_
      simp only [Act.put, List.setIfInBounds_toArray, List.set_cons_zero, List.set_cons_succ]
      refine seqI_take (v := .agg #[.int .i64 x0, .string x1, .string x2, .int .i64 x3, .int .i64 x4, .string x5]) rfl (fun W9 hW => by obtain ⟨⟨m0, m1, m2, m3, m4, m5⟩, ⟨q0, q1, q2, q3, q4, q5⟩⟩ := HCE.out W9 hW; go_simp) (fun _ _ _ h => h) ?_
      simp only [Act.put, List.setIfInBounds_toArray, List.set_cons_zero, List.set_cons_succ]
      refine seqI_take (v := .slice (some ⟨g, 0, none⟩) n cap) rfl (fun W9 hW => by clear hW; go_simp) (fun _ _ _ h => h) ?_
      simp only [Act.put, List.setIfInBounds_toArray, List.set_cons_zero, List.set_cons_succ]
      refine seqI_take (v := .int .i64 ((k1 : Int) + 1)) rfl (fun W9 hW => by clear hW; go_simp) (fun _ _ _ h => h) ?_
      simp only [Act.put, List.setIfInBounds_toArray, List.set_cons_zero, List.set_cons_succ]
      refine seqI_take (v := .int .i64 k1) rfl (fun W9 hW => by clear hW; go_simp) (fun _ _ _ h => h) ?_
      simp only [Act.put, List.setIfInBounds_toArray, List.set_cons_zero, List.set_cons_succ]
      refine seqI_take (v := .pointer (some ⟨g, k1 * 6, none⟩)) rfl (fun W9 hW => by clear hW; go_simp) (fun _ _ _ h => h) ?_
      simp only [Act.put, List.setIfInBounds_toArray, List.set_cons_zero, List.set_cons_succ]
      refine seqI_take (v := .agg #[.int .i64 y0, .string y1, .string y2, .int .i64 y3, .int .i64 y4, .string y5]) rfl (fun W9 hW => by obtain ⟨⟨m0, m1, m2, m3, m4, m5⟩, ⟨q0, q1, q2, q3, q4, q5⟩⟩ := HCE.out W9 hW; go_simp) (fun _ _ _ h => h) ?_
      simp only [Act.put, List.setIfInBounds_toArray, List.set_cons_zero, List.set_cons_succ]
      refine seqI_call _ _ rfl (by go_simp) (HEQ2.out wd) ?_
      rintro e w2 ⟨rfl, hb⟩
      have HO2 := Lib.hid (own_keep HOd.out hb)
      have HG2 := Lib.hid (gb_below HGd.out hb)
      refine ⟨_, rfl, hb, ?_⟩
      simp only [Act.put, List.setIfInBounds_toArray, List.set_cons_zero, List.set_cons_succ]
      refine seqI_nil ?_
      clear hb HCE HOd HGd HEQ2 hgd
      cases bq
      case false =>
        as_aux_lemma =>
          go_wp2_with fail
          go_roundw
          case rel => exact ⟨k1 + 1 + 1, by omega, by omega, by go_num, HO2, HG2⟩
          case measure => simp [intOf]; omega
      have hcapk : ¬ cap = k1 + 1 := by omega
      have hkni : (k1 : Int) + 1 ≤ (n : Int) := by omega
      have hkci : (k1 : Int) + 1 ≤ (cap : Int) := by omega
      have hlkn : k1 + 1 < n := hlk
      as_aux_lemma =>
        go_wp2_with fail
        go_loopw [5, 7] (fun si sk wr => ∃ (i k2 : Nat) (R : List Vact), si = .int .i64 i ∧ sk = .int .i64 k2 ∧ 1 ≤ k2 ∧ k2 ≤ n - (k1 + 1) ∧ 1 ≤ i ∧ i ≤ k1 + k2 ∧ Hid (R.length = n ∧ ∀ z, z < n → R.getD z default ∈ L) ∧ Hid (wr.ownsRow base 45 6 (.slice (some ⟨g, 0, none⟩) n cap) n ((R.map Vact.cells).flatten)) ∧ Hid (w.grownBy wr (some g))) (fun _ sk _ => n - (intOf sk).toNat)
        case atStart => exact ⟨k1 + 1, 1, L, rfl, rfl, Nat.le_refl _, by omega, by omega, Nat.le_refl _, ⟨HN.out.symm, fun z hz => act_mem (by have := HN.out; omega)⟩, HO2, HG2⟩
        case round =>
          clear HO2 HG2
          obtain ⟨i, k2, R, rfl, rfl, hk21, hk2n, hi1, hik, HR, HO, HG⟩ := hrel
          by_cases hlk2 : k2 < n - (k1 + 1)
          case neg =>
            have hk2e : k2 = n - (k1 + 1) := by omega
            have hin : i < n := by omega
            have hRl := HR.out.1
            have hci : ¬ cap = i := by omega
            have hil : (i : Int) ≤ (n : Int) := by omega
            have hic : (i : Int) ≤ (cap : Int) := by omega
            have hcell : ∀ q, q < (n - i) * 6 → (wr.cell? ⟨g, i * 6 + q, none⟩).isSome = true := fun q hq => by
              rw [HO.out.cellAt (i * 6 + q) (by omega)]
              have hf := flat_length Vact.cells 6 (fun _ => rfl) R
              rw [List.getElem?_eq_getElem (by rw [hf, hRl]; omega)]
              rfl
            obtain ⟨LZ, hcl⟩ := run_clear_any wr 42 45 (.agg #[.int .i64 0, .string ⟨#[]⟩, .string ⟨#[]⟩, .int .i64 0, .int .i64 0, .string ⟨#[]⟩]) Tryz.underlying42 Tryz.zeroValue45 (by decide) (fun i => by
              match i with
              | 0 => rfl
              | 1 => rfl
              | 2 => rfl
              | 3 => rfl
              | 4 => rfl
              | 5 => rfl
              | i + 6 => rfl) g (i * 6) (n - i) (cap - i) (by omega) hcell (fun q _ => HO.out.frozenAt _)
            have HE : Hid (cpAPost base (.slice (some ⟨g, 0, none⟩) n cap) L w (.returned (.slice (some ⟨g, 0, none⟩) i cap)) (wr.setCells g (i * 6) LZ)) := by
              obtain ⟨ys, hy1, hy2⟩ := own_above LZ wr _ (i * 6) (i * 6) HO.out (Nat.le_refl _)
              have hy3 := own_cutK hy1 (Nat.le_of_lt hin)
              rw [hy2, flat_take Vact.cells 6 (fun _ => rfl) R i (by omega)] at hy3
              have hlen : (R.take i).length = i := by rw [List.length_take]; omega
              refine ⟨_, R.take i, rfl, ?_, ?_, ?_, gb_trans HG.out (setCells_gb g LZ (i * 6))⟩
              · unfold VactRow
                rw [hlen]
                exact hy3
              · intro y hy
                obtain ⟨z, hz, rfl⟩ := List.getElem_of_mem (List.mem_of_mem_take hy)
                have := HR.out.2 z (by omega)
                rw [List.getD_eq_getElem?_getD, List.getElem?_eq_getElem hz] at this
                exact this
              · rw [hlen]
                have := HN.out
                omega
            have hk2n' : ¬ ((k2 : Int) < (n : Int) - ((k1 : Int) + 1)) := by omega
            clear HO HG HR hcell hRl
            as_aux_lemma =>
              go_wp2_with fail
              go_ret
              exact HE.out
          obtain ⟨k3, rfl⟩ : ∃ k3, k2 = k3 + 1 := ⟨k2 - 1, by omega⟩
          obtain ⟨fx, hfx⟩ : ∃ f, f = R.getD (k1 + 1 + (k3 + 1)) default := ⟨_, rfl⟩
          obtain ⟨fz, hfz⟩ : ∃ f, f = R.getD (k1 + 1 + k3) default := ⟨_, rfl⟩
          have hOd := own_keep HO.out (ext_drew (Below.refl wr.heap.size wr))
          have xc0 := own_field Vact.cells (fun _ => rfl) hOd (k1 + 1 + (k3 + 1)) 0 default (by have := HR.out.1; omega) (by omega) rfl
          have yc0 := own_field Vact.cells (fun _ => rfl) hOd (k1 + 1 + k3) 0 default (by have := HR.out.1; omega) (by omega) rfl
          have xc1 := own_field Vact.cells (fun _ => rfl) hOd (k1 + 1 + (k3 + 1)) 1 default (by have := HR.out.1; omega) (by omega) rfl
          have yc1 := own_field Vact.cells (fun _ => rfl) hOd (k1 + 1 + k3) 1 default (by have := HR.out.1; omega) (by omega) rfl
          have xc2 := own_field Vact.cells (fun _ => rfl) hOd (k1 + 1 + (k3 + 1)) 2 default (by have := HR.out.1; omega) (by omega) rfl
          have yc2 := own_field Vact.cells (fun _ => rfl) hOd (k1 + 1 + k3) 2 default (by have := HR.out.1; omega) (by omega) rfl
          have xc3 := own_field Vact.cells (fun _ => rfl) hOd (k1 + 1 + (k3 + 1)) 3 default (by have := HR.out.1; omega) (by omega) rfl
          have yc3 := own_field Vact.cells (fun _ => rfl) hOd (k1 + 1 + k3) 3 default (by have := HR.out.1; omega) (by omega) rfl
          have xc4 := own_field Vact.cells (fun _ => rfl) hOd (k1 + 1 + (k3 + 1)) 4 default (by have := HR.out.1; omega) (by omega) rfl
          have yc4 := own_field Vact.cells (fun _ => rfl) hOd (k1 + 1 + k3) 4 default (by have := HR.out.1; omega) (by omega) rfl
          have xc5 := own_field Vact.cells (fun _ => rfl) hOd (k1 + 1 + (k3 + 1)) 5 default (by have := HR.out.1; omega) (by omega) rfl
          have yc5 := own_field Vact.cells (fun _ => rfl) hOd (k1 + 1 + k3) 5 default (by have := HR.out.1; omega) (by omega) rfl
          rw [← hfx] at xc0 xc1 xc2 xc3 xc4 xc5
          rw [← hfz] at yc0 yc1 yc2 yc3 yc4 yc5
          rw [show (k1 + 1 + (k3 + 1)) * 6 = (k1 + 1) * 6 + (k3 + 1) * 6 by omega] at xc0 xc1 xc2 xc3 xc4 xc5
          rw [show (k1 + 1 + k3) * 6 = (k1 + 1) * 6 + k3 * 6 by omega] at yc0 yc1 yc2 yc3 yc4 yc5
          rw [Nat.add_zero] at xc0 yc0
          have hgd : g < wr.drew.heap.size := Nat.lt_of_lt_of_le hg1 (gb_below HG.out (ext_drew (Below.refl _ _))).size
          have HEQ2 : Hid (∀ W, Calls Tryz.prog 84 #[.agg #[.int .i64 fx.at_, .string ⟨fx.box.toArray⟩, .string ⟨fx.id.toArray⟩, .int .i64 fx.kind, .int .i64 fx.long, .string ⟨fx.frm.toArray⟩], .agg #[.int .i64 fz.at_, .string ⟨fz.box.toArray⟩, .string ⟨fz.id.toArray⟩, .int .i64 fz.kind, .int .i64 fz.long, .string ⟨fz.frm.toArray⟩]] W (BoolP (actEqB fx fz) W)) := fun W => actSame_any fx fz W
          have HFX : Hid (fx ∈ L) := by rw [hfx]; exact HR.out.2 _ (by omega)
          have HSV : Hid (∀ (W : World), W.ownsRow base 45 6 (.slice (some ⟨g, 0, none⟩) n cap) n ((R.map Vact.cells).flatten) → (W.setCells g (i * 6) [.int .i64 fx.at_, .string ⟨fx.box.toArray⟩, .string ⟨fx.id.toArray⟩, .int .i64 fx.kind, .int .i64 fx.long, .string ⟨fx.frm.toArray⟩]).ownsRow base 45 6 (.slice (some ⟨g, 0, none⟩) n cap) n (((R.set i fx).map Vact.cells).flatten)) := fun W h => act_put h i (by have := HR.out.1; omega) fx
          clear hfx hfz
          generalize actEqB fx fz = bq at HEQ2
          generalize fx.at_ = x0 at xc0 HEQ2 HSV
          generalize (⟨fx.box.toArray⟩ : ByteArray) = x1 at xc1 HEQ2 HSV
          generalize (⟨fx.id.toArray⟩ : ByteArray) = x2 at xc2 HEQ2 HSV
          generalize fx.kind = x3 at xc3 HEQ2 HSV
          generalize fx.long = x4 at xc4 HEQ2 HSV
          generalize (⟨fx.frm.toArray⟩ : ByteArray) = x5 at xc5 HEQ2 HSV
          generalize fz.at_ = y0 at yc0 HEQ2
          generalize (⟨fz.box.toArray⟩ : ByteArray) = y1 at yc1 HEQ2
          generalize (⟨fz.id.toArray⟩ : ByteArray) = y2 at yc2 HEQ2
          generalize fz.kind = y3 at yc3 HEQ2
          generalize fz.long = y4 at yc4 HEQ2
          generalize (⟨fz.frm.toArray⟩ : ByteArray) = y5 at yc5 HEQ2
          have HCE : Hid (∀ W9, Below wr.drew.heap.size wr.drew W9 → (W9.cell? ⟨g, (k1 + 1) * 6 + (k3 + 1) * 6, none⟩ = some (.int .i64 x0) ∧ W9.cell? ⟨g, (k1 + 1) * 6 + (k3 + 1) * 6 + 1, none⟩ = some (.string x1) ∧ W9.cell? ⟨g, (k1 + 1) * 6 + (k3 + 1) * 6 + 2, none⟩ = some (.string x2) ∧ W9.cell? ⟨g, (k1 + 1) * 6 + (k3 + 1) * 6 + 3, none⟩ = some (.int .i64 x3) ∧ W9.cell? ⟨g, (k1 + 1) * 6 + (k3 + 1) * 6 + 4, none⟩ = some (.int .i64 x4) ∧ W9.cell? ⟨g, (k1 + 1) * 6 + (k3 + 1) * 6 + 5, none⟩ = some (.string x5)) ∧ (W9.cell? ⟨g, (k1 + 1) * 6 + k3 * 6, none⟩ = some (.int .i64 y0) ∧ W9.cell? ⟨g, (k1 + 1) * 6 + k3 * 6 + 1, none⟩ = some (.string y1) ∧ W9.cell? ⟨g, (k1 + 1) * 6 + k3 * 6 + 2, none⟩ = some (.string y2) ∧ W9.cell? ⟨g, (k1 + 1) * 6 + k3 * 6 + 3, none⟩ = some (.int .i64 y3) ∧ W9.cell? ⟨g, (k1 + 1) * 6 + k3 * 6 + 4, none⟩ = some (.int .i64 y4) ∧ W9.cell? ⟨g, (k1 + 1) * 6 + k3 * 6 + 5, none⟩ = some (.string y5))) := fun W9 hW => ⟨⟨(hW.cell (p := ⟨g, (k1 + 1) * 6 + (k3 + 1) * 6, none⟩) hgd).trans xc0, (hW.cell (p := ⟨g, (k1 + 1) * 6 + (k3 + 1) * 6 + 1, none⟩) hgd).trans xc1, (hW.cell (p := ⟨g, (k1 + 1) * 6 + (k3 + 1) * 6 + 2, none⟩) hgd).trans xc2, (hW.cell (p := ⟨g, (k1 + 1) * 6 + (k3 + 1) * 6 + 3, none⟩) hgd).trans xc3, (hW.cell (p := ⟨g, (k1 + 1) * 6 + (k3 + 1) * 6 + 4, none⟩) hgd).trans xc4, (hW.cell (p := ⟨g, (k1 + 1) * 6 + (k3 + 1) * 6 + 5, none⟩) hgd).trans xc5⟩, ⟨(hW.cell (p := ⟨g, (k1 + 1) * 6 + k3 * 6, none⟩) hgd).trans yc0, (hW.cell (p := ⟨g, (k1 + 1) * 6 + k3 * 6 + 1, none⟩) hgd).trans yc1, (hW.cell (p := ⟨g, (k1 + 1) * 6 + k3 * 6 + 2, none⟩) hgd).trans yc2, (hW.cell (p := ⟨g, (k1 + 1) * 6 + k3 * 6 + 3, none⟩) hgd).trans yc3, (hW.cell (p := ⟨g, (k1 + 1) * 6 + k3 * 6 + 4, none⟩) hgd).trans yc4, (hW.cell (p := ⟨g, (k1 + 1) * 6 + k3 * 6 + 5, none⟩) hgd).trans yc5⟩⟩
          have HOd := Lib.hid hOd
          have HGd := Lib.hid (gb_below HG.out (ext_drew (Below.refl wr.heap.size wr)))
          clear xc0 xc1 xc2 xc3 xc4 xc5 yc0 yc1 yc2 yc3 yc4 yc5 hOd HO HG
          have hs2 : ((n - (k1 + 1) : Nat) : Int) = (n : Int) - ((k1 : Int) + 1) := by omega
          have hli1 : (k3 : Int) + 1 < (n : Int) - ((k1 : Int) + 1) := by omega
          have hli2 : (k3 : Int) < (n : Int) - ((k1 : Int) + 1) := by omega
          have hli3 : ¬ ((k3 : Int) + 1 < 0) := by omega
          have hli4 : ¬ ((k3 : Int) < 0) := by omega
          have hwk3 : IntKind.i64.wrap (k3 : Int) = (k3 : Int) := IntWalk.i64_in _ (by omega)
          have hlt3 : k3 + 1 < n - (k1 + 1) := hlk2
          have hlt4 : k3 < n - (k1 + 1) := by omega
          as_aux_lemma =>
            go_upto_region 11 with (fail)
            refine region_seqI (S := fun W9 => Below wr.drew.heap.size wr.drew W9) [(true, 0), (true, 1), (true, 2), (true, 3), (true, 4), (true, 5), (true, 6), (true, 7), (true, 8), (true, 9), (false, 10), (true, 11)] (by kernel_rfl) (by kernel_rfl) rfl (by kernel_rfl) (Below.refl _ _) ?_
            generalize wr.drew = wd at HCE HOd HGd hgd ⊢
            simp only [seqOps, List.getD_cons_zero, List.getD_cons_succ]
            refine seqI_take (v := .func (.func 84) #[] #[]) rfl (fun W9 hW => by clear hW; go_simp) (fun _ _ _ h => h) ?_
            simp only [Act.put, List.setIfInBounds_toArray, List.set_cons_zero, List.set_cons_succ]
            refine seqI_take (v := .slice (some ⟨g, (k1 + 1) * 6, none⟩) (n - (k1 + 1)) (cap - (k1 + 1))) rfl (fun W9 hW => by clear hW; go_simp) (fun _ _ _ h => h) ?_
            simp only [Act.put, List.setIfInBounds_toArray, List.set_cons_zero, List.set_cons_succ]
            refine seqI_take (v := .int .i64 ((k3 : Int) + 1)) rfl (fun W9 hW => by clear hW; go_simp) (fun _ _ _ h => h) ?_
            simp only [Act.put, List.setIfInBounds_toArray, List.set_cons_zero, List.set_cons_succ]
            refine seqI_take (v := .pointer (some ⟨g, (k1 + 1) * 6 + (k3 + 1) * 6, none⟩)) rfl (fun W9 hW => by clear hW; go_simp) (fun _ _ _ h => h) ?_
            simp only [Act.put, List.setIfInBounds_toArray, List.set_cons_zero, List.set_cons_succ]
            refine seqI_take (v := .agg #[.int .i64 x0, .string x1, .string x2, .int .i64 x3, .int .i64 x4, .string x5]) rfl (fun W9 hW => by obtain ⟨⟨m0, m1, m2, m3, m4, m5⟩, ⟨q0, q1, q2, q3, q4, q5⟩⟩ := HCE.out W9 hW; go_simp) (fun _ _ _ h => h) ?_
            simp only [Act.put, List.setIfInBounds_toArray, List.set_cons_zero, List.set_cons_succ]
            refine seqI_take (v := .slice (some ⟨g, (k1 + 1) * 6, none⟩) (n - (k1 + 1)) (cap - (k1 + 1))) rfl (fun W9 hW => by clear hW; go_simp) (fun _ _ _ h => h) ?_
            simp only [Act.put, List.setIfInBounds_toArray, List.set_cons_zero, List.set_cons_succ]
            refine seqI_take (v := .int .i64 ((k3 : Int) + 1)) rfl (fun W9 hW => by clear hW; go_simp) (fun _ _ _ h => h) ?_
            simp only [Act.put, List.setIfInBounds_toArray, List.set_cons_zero, List.set_cons_succ]
            refine seqI_take (v := .int .i64 k3) rfl (fun W9 hW => by clear hW; go_simp) (fun _ _ _ h => h) ?_
            simp only [Act.put, List.setIfInBounds_toArray, List.set_cons_zero, List.set_cons_succ]
            refine seqI_take (v := .pointer (some ⟨g, (k1 + 1) * 6 + k3 * 6, none⟩)) rfl (fun W9 hW => by clear hW; go_simp) (fun _ _ _ h => h) ?_
            simp only [Act.put, List.setIfInBounds_toArray, List.set_cons_zero, List.set_cons_succ]
            refine seqI_take (v := .agg #[.int .i64 y0, .string y1, .string y2, .int .i64 y3, .int .i64 y4, .string y5]) rfl (fun W9 hW => by obtain ⟨⟨m0, m1, m2, m3, m4, m5⟩, ⟨q0, q1, q2, q3, q4, q5⟩⟩ := HCE.out W9 hW; go_simp) (fun _ _ _ h => h) ?_
            simp only [Act.put, List.setIfInBounds_toArray, List.set_cons_zero, List.set_cons_succ]
            refine seqI_call _ _ rfl (by go_simp) (HEQ2.out wd) ?_
            rintro e w2 ⟨rfl, hb⟩
            have hCE2 := HCE.out w2 hb
            have HCE2 := Lib.hid hCE2
            have HO2 := Lib.hid (own_keep HOd.out hb)
            have HG2 := Lib.hid (gb_below HGd.out hb)
            have hg2 : g < w2.heap.size := Nat.lt_of_lt_of_le hgd hb.size
            refine ⟨_, rfl, hb, ?_⟩
            simp only [Act.put, List.setIfInBounds_toArray, List.set_cons_zero, List.set_cons_succ]
            refine seqI_take (v := .bool (!bq)) rfl (fun W9 hW => by clear hW; go_simp) (fun _ _ _ h => h) ?_
            simp only [Act.put, List.setIfInBounds_toArray, List.set_cons_zero, List.set_cons_succ]
            refine seqI_nil ?_
            clear hb HCE HOd HGd HEQ2 hgd hCE2
            cases bq
            case true =>
              clear HSV HCE2
              as_aux_lemma =>
                go_wp2_with fail
                go_roundw
                case rel => exact ⟨i, k3 + 1 + 1, R, rfl, by go_num, by omega, by omega, hi1, by omega, HR, HO2, HG2⟩
                case measure => simp [intOf]; omega
            have HRN : Hid ((R.set i fx).length = n ∧ ∀ z, z < n → (R.set i fx).getD z default ∈ L) := by
              have hiR : i < R.length := by have := HR.out.1; omega
              refine ⟨by rw [List.length_set]; exact HR.out.1, fun z hz => ?_⟩
              rw [act_set R i z fx hiR]
              split
              · exact HFX.out
              · exact HR.out.2 z hz
            have HO3 := Lib.hid (HSV.out w2 HO2.out)
            have HG3 : Hid (w.grownBy (w2.setCells g (i * 6) [.int .i64 x0, .string x1, .string x2, .int .i64 x3, .int .i64 x4, .string x5]) (some g)) := gb_trans HG2.out (setCells_gb g [.int .i64 x0, .string x1, .string x2, .int .i64 x3, .int .i64 x4, .string x5] (i * 6))
            have HRG : Hid (w2.rangeAt g ((k1 + 1) * 6 + (k3 + 1) * 6) [.int .i64 x0, .string x1, .string x2, .int .i64 x3, .int .i64 x4, .string x5]) := fun q v hq => by
              match q, hq with
              | 0, hq => injection hq with hq; subst hq; exact HCE2.out.1.1
              | 1, hq => injection hq with hq; subst hq; exact HCE2.out.1.2.1
              | 2, hq => injection hq with hq; subst hq; exact HCE2.out.1.2.2.1
              | 3, hq => injection hq with hq; subst hq; exact HCE2.out.1.2.2.2.1
              | 4, hq => injection hq with hq; subst hq; exact HCE2.out.1.2.2.2.2.1
              | 5, hq => injection hq with hq; subst hq; exact HCE2.out.1.2.2.2.2.2
            have hin : i < n := by omega
            have HTH : Hid (w2.there g (i * 6) 6) := fun q hq => by
              have hf := flat_length Vact.cells 6 (fun _ => rfl) R
              refine ⟨?_, HO2.out.frozenAt _⟩
              rw [HO2.out.cellAt (i * 6 + q) (by have := HR.out.1; omega), List.getElem?_eq_getElem (by rw [hf]; have := HR.out.1; omega)]
              rfl
            have hini : (i : Int) < (n : Int) := by omega
            have hi0 : ¬ ((i : Int) < 0) := by omega
            clear HSV HCE2 HO2 HG2 HR
            as_aux_lemma =>
              go_wp2_with (first | (refine wpList_load_mid rfl 45 (.tmp 54) rfl g ((k1 + 1) * 6 + (k3 + 1) * 6) rfl [.int .i64 x0, .string x1, .string x2, .int .i64 x3, .int .i64 x4, .string x5] _ HRG.out Tryz.underlying45 rfl Tryz.actSz ?_) | (refine wpList_store_mid rfl 45 (.tmp 56) (.tmp 55) rfl g (i * 6) #[.int .i64 x0, .string x1, .string x2, .int .i64 x3, .int .i64 x4, .string x5] rfl rfl HTH.out Tryz.actSz (by simp [Value.oneCell']) ?_; generalize w2.setCells g (i * 6) [.int .i64 x0, .string x1, .string x2, .int .i64 x3, .int .i64 x4, .string x5] = w3 at HO3 HG3 ⊢; clear HTH HRG))
              go_roundw
              case rel => exact ⟨i + 1, k3 + 1 + 1, R.set i fx, by go_num, by go_num, by omega, by omega, by omega, by omega, HRN, HO3, HG3⟩
              case measure => simp [intOf]; omega
end Go.Proofs.YtamoclofloijpaaGreatDoor
