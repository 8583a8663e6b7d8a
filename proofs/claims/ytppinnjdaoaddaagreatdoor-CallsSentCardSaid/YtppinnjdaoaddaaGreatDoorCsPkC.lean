/- What is proved here: lemmas and contracts for the statement, put together out of smaller texts (RefSmall, OrErr, SplitPost, Numbered, PortSmall, CarrSmall, CarrLaw, CarrDeck, CarrChk, CarrRows, CarrShr, CarrTrn, CarrTrnR). No condition beyond those stated. -/
import Derived.Test.YtppinnjdaoaddaaGreatDoorCsPkA
import Derived.Deep.MidRow
import Derived.Maps.AppendAt
import Derived.Lib.ConvBytes
import Derived.Test.YtppinnjdaoaddaaGreatDoorCsPkB
import Derived.Test.YtppinnjdaoaddaaGreatDoorShelfPort
import Derived.Test.YtppinnjdaoaddaaGreatDoorShelfCarr
set_option linter.unusedVariables false
set_option linter.unusedSimpArgs false
namespace Go.Proofs.YtppinnjdaoaddaaGreatDoor
open Go.RowKit

theorem in_any (n lo hi : Int) (w : World) : Calls Tryz.prog 56 #[.int .i64 n, .int .i64 lo, .int .i64 hi] w fun e w' => e = .returned (.bool (decide (lo ≤ n) && decide (n ≤ hi))) ∧ w = w' := by
  by_cases h1 : lo ≤ n
  · go_enter Tryz.func56, Tryz.ntmps56
    go_wp2
    go_ret
    exact ⟨by rw [decide_eq_true h1]; rfl, rfl⟩
  · go_enter Tryz.func56, Tryz.ntmps56
    go_wp2
    go_ret
    exact ⟨by rw [decide_eq_false (show ¬ lo ≤ n by omega)]; rfl, rfl⟩

theorem digital_l (s : List UInt8) (lo hi : Int) (w : World) (hs : s.length ≤ 1000000) : Calls Tryz.prog 94 #[.string ⟨s.toArray⟩, .int .i64 lo, .int .i64 hi] w fun e w' => e = .returned (.bool (digitsB s lo hi)) ∧ Below w.heap.size w w' := by
  have hcon := trim_digits ⟨s.toArray⟩
  have hd : Hid (digitsB s lo hi = ((decide (lo ≤ (s.length : Int)) && decide ((s.length : Int) ≤ hi)) && (Lib.trimS s digitSet).isEmpty)) := by show _ = _; rw [Bool.and_assoc]; rfl
  have hcon : ∀ w, Calls Tryz.prog 92 #[.string ⟨s.toArray⟩, .string ⟨#[48, 49, 50, 51, 52, 53, 54, 55, 56, 57]⟩] w fun e w' => e = .returned (.string ⟨(Lib.trimS s digitSet).toArray⟩) ∧ Below w.heap.size w w' := fun w => hcon w (by show s.length ≤ _; omega)
  generalize Lib.trimS s digitSet = r at hcon hd
  generalize hg : (decide (lo ≤ (s.length : Int)) && decide ((s.length : Int) ≤ hi)) = g at hd
  have HG := Lib.hid hg
  have HCON := Lib.hid hcon
  clear hg hcon
  go_enter Tryz.func94, Tryz.ntmps94
  go_wp2_with fail
  refine (in_any _ lo hi _).mono ?_
  rintro e w1 ⟨rfl, rfl⟩
  rw [HG.out]
  cases g
  · go_wp2_with fail
    go_ret
    exact ⟨by rw [hd.out]; rfl, Below.refl _ _⟩
  · go_wp2_with fail
    refine (HCON.out _).mono ?_
    rintro e w2 ⟨rfl, hb⟩
    go_wp2_with fail
    go_ret
    exact ⟨by rw [hd.out]; cases r <;> rfl, hb⟩

theorem isNumB_eq (s : List UInt8) : isNumB s = (Lib.hasPrefix s [43] && (digitsB (s.drop 1) 4 15 && ((s.drop 1).headD 0 != 48))) := by
  unfold isNumB Lib.trimPrefix
  cases h : Lib.hasPrefix s [43] with
  | false => rfl
  | true => rfl

theorem form_l (s : List UInt8) (w : World) (hs : s.length ≤ 1000) : Calls Tryz.prog 77 #[.string ⟨s.toArray⟩] w fun e w' => e = .returned (.bool (isNumB s)) ∧ Below w.heap.size w w' := by
  have HD := Lib.hid (isNumB_eq s)
  have HPL : Hid (Lib.hasPrefix s [43] = true → 1 ≤ s.length) := fun h => pre_len h
  have HDL : Hid (digitsB (s.drop 1) 4 15 = true → ∃ c d, s.drop 1 = c :: d) := fun h => by
    unfold digitsB at h
    simp only [Bool.and_eq_true, decide_eq_true_eq] at h
    cases h9 : s.drop 1 with
    | nil => rw [h9] at h; simp at h
    | cons c d => exact ⟨c, d, rfl⟩
  have hcon := fun w => hasPrefix_l s [43] w
  generalize Lib.hasPrefix s [43] = g at HD HPL hcon
  have hcon2 := fun w => digital_l (s.drop 1) 4 15 w (by rw [List.length_drop]; omega)
  generalize hg2 : digitsB (s.drop 1) 4 15 = g2 at HD HDL hcon2
  generalize isNumB s = R at HD ⊢
  go_enter Tryz.func77, Tryz.ntmps77
  go_wp2_with fail
  refine (hcon _).mono ?_
  rintro e w1 ⟨rfl, rfl⟩
  cases g
  · have HF : Hid (R = false) := HD.out
    go_wp2_with fail
    go_ret
    exact ⟨by rw [HF.out]; rfl, Below.refl _ _⟩
  · have h1 := HPL.out rfl
    go_wp2_with fail
    rw [extract_drop]
    refine (hcon2 _).mono ?_
    rintro e w2 ⟨rfl, hb⟩
    have HB := Lib.hid hb
    clear hb
    cases g2
    · have HF : Hid (R = false) := HD.out
      go_wp2_with fail
      go_ret
      exact ⟨by rw [HF.out]; rfl, HB.out⟩
    · obtain ⟨c, d, hcd⟩ := HDL.out rfl
      have HF : Hid (R = (c != 48)) := by show _ = _; rw [HD.out, hcd]; rfl
      obtain ⟨x, rfl⟩ : ∃ x, s = x :: c :: d := by
        cases s with
        | nil => cases hcd
        | cons x t => exact ⟨x, by simpa using hcd⟩
      clear hcd HD hcon hcon2 hg2 HDL HPL
      go_wp2_with fail
      go_ret
      exact ⟨by rw [HF.out, ← byte_bne48]; rfl, HB.out⟩

end Go.Proofs.YtppinnjdaoaddaaGreatDoor

set_option linter.unusedVariables false
set_option linter.unusedSimpArgs false
namespace Go.Proofs.YtppinnjdaoaddaaGreatDoor
open Go.RowKit

def firstE (a b : Int) : Int := if a ≠ 0 then a else b
set_option maxRecDepth 100000 in
theorem or_any (a b : Int) (B : Nat) (w : World) (hB : B < w.heap.size) (h0 : w.cell? ⟨B, 0, none⟩ = some (.int .i64 a)) (h1 : w.cell? ⟨B, 1, none⟩ = some (.int .i64 b)) : Calls Tryz.prog 14 #[.slice (some ⟨B, 0, none⟩) 2 2] w fun r w' => r = .returned (.int .i64 (firstE a b)) ∧ w = w' := by
  by_cases ha : a = 0
  · subst ha
    by_cases hb : b = 0
    · subst hb
      go_enter Tryz.func14, Tryz.ntmps14
      go_wp2_with fail
      go_loopw [8] (fun i wr => ∃ k : Nat, k ≤ 2 ∧ i = .int .i64 k ∧ wr = w) (fun i _ => 2 - (intOf i).toNat)
      case atStart => exact ⟨0, by omega, rfl, rfl⟩
      case round =>
        obtain ⟨k, hk, rfl, rfl⟩ := hrel
        have hkc : k = 0 ∨ k = 1 ∨ k = 2 := by omega
        rcases hkc with rfl | rfl | rfl
        · go_wp2_with fail
          go_roundw
          case rel => exact ⟨1, by omega, by go_num, trivial⟩
          case measure => simp [intOf]
        · go_wp2_with fail
          go_roundw
          case rel => exact ⟨2, by omega, by go_num, trivial⟩
          case measure => simp [intOf]
        · go_wp2_with fail
          go_ret
          exact ⟨rfl, rfl⟩
    · have hbb : (b == 0) = false := by simpa using hb
      go_enter Tryz.func14, Tryz.ntmps14
      go_wp2_with fail
      go_loopw [8] (fun i wr => ∃ k : Nat, k ≤ 1 ∧ i = .int .i64 k ∧ wr = w) (fun i _ => 2 - (intOf i).toNat)
      case atStart => exact ⟨0, by omega, rfl, rfl⟩
      case round =>
        obtain ⟨k, hk, rfl, rfl⟩ := hrel
        have hkc : k = 0 ∨ k = 1 := by omega
        rcases hkc with rfl | rfl
        · go_wp2_with fail
          go_roundw
          case rel => exact ⟨1, by omega, by go_num, trivial⟩
          case measure => simp [intOf]
        · go_wp2_with fail
          go_ret
          exact ⟨rfl, rfl⟩
  · have hab : (a == 0) = false := by simpa using ha
    have HF : Hid (firstE a b = a) := by show _ = _; unfold firstE; rw [if_pos ha]
    go_enter Tryz.func14, Tryz.ntmps14
    go_wp2_with fail
    go_loopw [8] (fun i wr => i = .int .i64 0 ∧ wr = w) (fun i _ => 0)
    case atStart => exact ⟨rfl, rfl⟩
    case round =>
      obtain ⟨rfl, rfl⟩ := hrel
      go_wp2_with fail
      go_ret
      exact ⟨by rw [HF.out]; rfl, rfl⟩

end Go.Proofs.YtppinnjdaoaddaaGreatDoor

set_option linter.unusedVariables false
set_option linter.unusedSimpArgs false
namespace Go.Proofs.YtppinnjdaoaddaaGreatDoor
open Go.RowKit

def PartsPost (x : Spl) (w : World) (e : Ending) (w' : World) : Prop := e = .returned (.tuple #[.agg #[.string ⟨x.code.toArray⟩, .string ⟨x.area.toArray⟩, .string ⟨x.rest.toArray⟩], .int .i64 x.err]) ∧ Below w.heap.size w w'
theorem row3 (w : World) (B : Nat) (v0 v1 v2 : Value) : ((w.setCell ⟨B, 0, none⟩ v0).setCell ⟨B, 1, none⟩ v1).setCell ⟨B, 2, none⟩ v2 = w.setCells B 0 [v0, v1, v2] := rfl
theorem there3 {w : World} {B : Nat} {v0 v1 v2 : Value} (h0 : w.cell? ⟨B, 0, none⟩ = some v0) (h1 : w.cell? ⟨B, 1, none⟩ = some v1) (h2 : w.cell? ⟨B, 2, none⟩ = some v2) (hf : ∀ j, w.frozen? ⟨B, j, none⟩ = false) : w.there B 0 3 := fun j hj => by
  match j, hj with
  | 0, _ => exact ⟨by rw [h0]; rfl, hf _⟩
  | 1, _ => exact ⟨by rw [h1]; rfl, hf _⟩
  | 2, _ => exact ⟨by rw [h2]; rfl, hf _⟩

end Go.Proofs.YtppinnjdaoaddaaGreatDoor

set_option linter.unusedVariables false
set_option linter.unusedSimpArgs false
namespace Go.Proofs.YtppinnjdaoaddaaGreatDoor
open Go.RowKit

def r0S : List UInt8 := [43, 49, 48, 48, 48]
def r1S : List UInt8 := [43, 49, 48, 48, 57]
end Go.Proofs.YtppinnjdaoaddaaGreatDoor

set_option linter.unusedVariables false
set_option linter.unusedSimpArgs false
namespace Go.Proofs.YtppinnjdaoaddaaGreatDoor
open Go.RowKit

set_option maxRecDepth 100000 in
theorem orI_any (a b : Int) (B : Nat) (w : World) (hB : B < w.heap.size) (h0 : w.cell? ⟨B, 0, none⟩ = some (.int .i64 a)) (h1 : w.cell? ⟨B, 1, none⟩ = some (.int .i64 b)) : Calls Tryz.prog 81 #[.slice (some ⟨B, 0, none⟩) 2 2] w fun r w' => r = .returned (.int .i64 (firstE a b)) ∧ w = w' := by
  by_cases ha : a = 0
  · subst ha
    by_cases hb : b = 0
    · subst hb
      go_enter Tryz.func81, Tryz.ntmps81
      go_wp2_with fail
      go_loopw [8] (fun i wr => ∃ k : Nat, k ≤ 2 ∧ i = .int .i64 k ∧ wr = w) (fun i _ => 2 - (intOf i).toNat)
      case atStart => exact ⟨0, by omega, rfl, rfl⟩
      case round =>
        obtain ⟨k, hk, rfl, rfl⟩ := hrel
        have hkc : k = 0 ∨ k = 1 ∨ k = 2 := by omega
        rcases hkc with rfl | rfl | rfl
        · go_wp2_with fail
          go_roundw
          case rel => exact ⟨1, by omega, by go_num, trivial⟩
          case measure => simp [intOf]
        · go_wp2_with fail
          go_roundw
          case rel => exact ⟨2, by omega, by go_num, trivial⟩
          case measure => simp [intOf]
        · go_wp2_with fail
          go_ret
          exact ⟨rfl, rfl⟩
    · have hbb : (b == 0) = false := by simpa using hb
      have HF : Hid (firstE 0 b = b) := by show _ = _; unfold firstE; rw [if_neg (by simp)]
      go_enter Tryz.func81, Tryz.ntmps81
      go_wp2_with fail
      go_loopw [8] (fun i wr => ∃ k : Nat, k ≤ 1 ∧ i = .int .i64 k ∧ wr = w) (fun i _ => 2 - (intOf i).toNat)
      case atStart => exact ⟨0, by omega, rfl, rfl⟩
      case round =>
        obtain ⟨k, hk, rfl, rfl⟩ := hrel
        have hkc : k = 0 ∨ k = 1 := by omega
        rcases hkc with rfl | rfl
        · go_wp2_with fail
          go_roundw
          case rel => exact ⟨1, by omega, by go_num, trivial⟩
          case measure => simp [intOf]
        · go_wp2_with fail
          go_ret
          exact ⟨by rw [HF.out]; rfl, rfl⟩
  · have hab : (a == 0) = false := by simpa using ha
    have HF : Hid (firstE a b = a) := by show _ = _; unfold firstE; rw [if_pos ha]
    go_enter Tryz.func81, Tryz.ntmps81
    go_wp2_with fail
    go_loopw [8] (fun i wr => i = .int .i64 0 ∧ wr = w) (fun i _ => 0)
    case atStart => exact ⟨rfl, rfl⟩
    case round =>
      obtain ⟨rfl, rfl⟩ := hrel
      go_wp2_with fail
      go_ret
      exact ⟨by rw [HF.out]; rfl, rfl⟩

/-- The sign says how two things stand. -/
def SignPost (lt eq : Prop) (w : World) (e : Ending) (w' : World) : Prop := ∃ r : Int, e = .returned (.int .i64 r) ∧ (r < 0 ↔ lt) ∧ (r = 0 ↔ eq) ∧ w' = w
theorem cmpI_any (x y : Int) (w : World) : Calls Tryz.prog 82 #[.int .i64 x, .int .i64 y] w (SignPost (x < y) (x = y) w) := by
  refine (Tryz.cmp_Compare x y w).mono ?_
  rintro e w' ⟨rfl, rfl⟩
  refine ⟨_, rfl, ?_, ?_, rfl⟩ <;> unfold Lib.compareInt <;> split <;> first | omega | (split <;> omega)
theorem cmpB_any (x y : List UInt8) (w : World) : Calls Tryz.prog 83 #[.string ⟨x.toArray⟩, .string ⟨y.toArray⟩] w (SignPost (Op.bytesLess x y = true) (x = y) w) := by
  refine (Tryz.strings_Compare ⟨x.toArray⟩ ⟨y.toArray⟩ w).mono ?_
  rintro e w' ⟨rfl, rfl⟩
  exact ⟨_, rfl, cmp_neg x y, cmp_zero x y, rfl⟩
theorem less_asym {x y : List UInt8} (h : Op.bytesLess x y = true) : Op.bytesLess y x = false ∧ x ≠ y := by
  refine ⟨?_, ?_⟩
  · cases h2 : Op.bytesLess y x with
    | false => rfl
    | true => rw [← less_irrefl x, ← less_trans h h2]
  · rintro rfl
    rw [less_irrefl] at h
    cases h
theorem first_sign {a b : Int} {P Q R : Prop} (h1 : a < 0 ↔ P) (h2 : a = 0 ↔ Q) (h3 : b < 0 ↔ R) : firstE a b < 0 ↔ (P ∨ Q ∧ R) := by
  unfold firstE
  rw [← h1, ← h2, ← h3]
  split <;> omega

theorem idxS (n : Nat) (hn : n < 256) : Lib.indexByte [97, 98, 99, 100, 101, 102, 103, 104, 105, 106, 107, 108, 109, 110, 111, 112, 113, 114, 115, 116, 117, 118, 119, 120, 121, 122] ((n : Int).toNat.toUInt8) = if 97 ≤ n ∧ n ≤ 122 then ((n - 97 : Nat) : Int) else -1 := by
  have : ∀ i : Fin 256, Lib.indexByte [97, 98, 99, 100, 101, 102, 103, 104, 105, 106, 107, 108, 109, 110, 111, 112, 113, 114, 115, 116, 117, 118, 119, 120, 121, 122] ((i.val : Int).toNat.toUInt8) = if 97 ≤ i.val ∧ i.val ≤ 122 then ((i.val - 97 : Nat) : Int) else -1 := by decide +kernel
  exact this ⟨n, hn⟩
theorem smallS (n : Nat) (hn : n < 256) (w : World) : Calls Tryz.prog 93 #[.string ⟨#[97, 98, 99, 100, 101, 102, 103, 104, 105, 106, 107, 108, 109, 110, 111, 112, 113, 114, 115, 116, 117, 118, 119, 120, 121, 122]⟩, .int .u8 n] w fun e w' => e = .returned (.int .i64 (if 97 ≤ n ∧ n ≤ 122 then ((n - 97 : Nat) : Int) else -1)) ∧ w' = w := by
  rw [← idxS n hn]
  exact Tryz.strings_IndexByte _ _ w
set_option maxRecDepth 100000 in
theorem keyR_any (l : List UInt8) (w : World) (hs : l.length ≤ 1000000) : Calls Tryz.prog 55 #[.string ⟨l.toArray⟩] w fun e w' => e = .returned (.bool (isKeyB l)) ∧ Below w.heap.size w w' := by
  have hcon := fun w => trim_keys ⟨l.toArray⟩ w (by show l.length ≤ _; omega)
  have hd : Hid (isKeyB l = ((decide ((1 : Int) ≤ (l.length : Int)) && decide ((l.length : Int) ≤ 40)) && ((Lib.trimS l keySet).isEmpty && (decide (97 ≤ (l.headD 0).toNat) && decide ((l.headD 0).toNat ≤ 122))))) := by
    show isKeyB l = _
    have e : isKeyB l = (decide (1 ≤ l.length) && (decide (l.length ≤ 40) && (decide (97 ≤ (l.headD 0).toNat) && (decide ((l.headD 0).toNat ≤ 122) && (Lib.trimS l keySet).isEmpty)))) := rfl
    rw [e, show decide ((1 : Int) ≤ (l.length : Int)) = decide (1 ≤ l.length) from by congr 1; exact propext (by omega), show decide ((l.length : Int) ≤ 40) = decide (l.length ≤ 40) from by congr 1; exact propext (by omega)]
    cases (Lib.trimS l keySet).isEmpty <;> simp [Bool.and_assoc]
  have hcon : ∀ w, Calls Tryz.prog 92 #[.string ⟨l.toArray⟩, .string ⟨#[97, 98, 99, 100, 101, 102, 103, 104, 105, 106, 107, 108, 109, 110, 111, 112, 113, 114, 115, 116, 117, 118, 119, 120, 121, 122, 48, 49, 50, 51, 52, 53, 54, 55, 56, 57, 45, 95]⟩] w fun e w' => e = .returned (.string ⟨(Lib.trimS l keySet).toArray⟩) ∧ Below w.heap.size w w' := hcon
  have HCON := Lib.hid hcon
  have HNE : Hid ((decide ((1 : Int) ≤ (l.length : Int)) && decide ((l.length : Int) ≤ 40)) = true → 1 ≤ l.length) := fun h => by simp at h; omega
  clear hcon
  generalize Lib.trimS l keySet = r at HCON hd
  generalize hg : (decide ((1 : Int) ≤ (l.length : Int)) && decide ((l.length : Int) ≤ 40)) = g at hd HNE
  have HG := Lib.hid hg
  clear hg
  generalize isKeyB l = R at hd ⊢
  go_enter Tryz.func55, Tryz.ntmps55
  go_wp2_with fail
  refine (in_any _ 1 40 _).mono ?_
  rintro e w1 ⟨rfl, rfl⟩
  rw [HG.out]
  cases g
  · go_wp2_with fail
    go_ret
    exact ⟨by rw [hd.out]; rfl, Below.refl _ _⟩
  · obtain ⟨c, l', rfl⟩ : ∃ c l', l = c :: l' := by
      have := HNE.out rfl
      cases l with
      | nil => simp at this
      | cons c l' => exact ⟨c, l', rfl⟩
    clear HNE HG
    go_wp2_with fail
    refine (HCON.out _).mono ?_
    rintro e w2 ⟨rfl, hb2⟩
    have HB2 := Lib.hid hb2
    clear hb2 HCON
    cases r with
    | cons x r' =>
      go_wp2_with fail
      go_ret
      exact ⟨by rw [hd.out]; rfl, HB2.out⟩
    | nil =>
      have hc : c.toNat < 256 := UInt8.toNat_lt c
      have hd2 : Hid (R = (decide (97 ≤ c.toNat) && decide (c.toNat ≤ 122))) := by show _ = _; rw [hd.out]; rfl
      have HIX := Lib.hid (fun w => smallS c.toNat hc w)
      clear hd
      generalize hcn : c.toNat = n at hd2 HIX hc
      go_wp2_with fail
      rw [show ∀ h, ((⟨(c :: l').toArray⟩ : ByteArray)[0]'h).toNat = n from fun _ => hcn]
      refine (HIX.out _).mono ?_
      rintro e w3 ⟨rfl, rfl⟩
      by_cases hin : 97 ≤ n ∧ n ≤ 122
      · rw [if_pos hin]
        have hd3 : Hid (R = true) := by show _ = _; rw [hd2.out]; simp [hin.1, hin.2]
        clear hd2 HIX hcn
        go_wp2_with fail
        go_ret
        exact ⟨by rw [hd3.out]; rfl, HB2.out⟩
      · rw [if_neg hin]
        have hd3 : Hid (R = false) := by show _ = _; rw [hd2.out]; simp; omega
        clear hd2 HIX hcn hin
        go_wp2_with fail
        go_ret
        exact ⟨by rw [hd3.out]; rfl, HB2.out⟩
theorem formFault_any (l : List UInt8) (w : World) (hs : l.length ≤ 1000) : Calls Tryz.prog 35 #[.string ⟨l.toArray⟩] w (ErrPost (if isNumB l = true then 0 else 3) w) := by
  have HD := Lib.hid (fun W => form_l l W hs)
  generalize isNumB l = g at HD ⊢
  cases g <;>
  · go_enter Tryz.func35, Tryz.ntmps35
    go_wp2_with fail
    refine (HD.out _).mono ?_
    rintro e w1 ⟨rfl, hb1⟩
    have HB := Lib.hid hb1
    clear hb1
    go_wp2_with fail
    go_ret
    exact ⟨rfl, HB.out⟩
theorem momentFault_any (n : Int) (w : World) : Calls Tryz.prog 31 #[.int .i64 n] w (ErrPost (if isMomB n = true then 0 else 1) w) := by
  have HG : Hid ((decide (0 ≤ n) && decide (n ≤ 345686399999)) = isMomB n) := by
    show _ = _
    unfold isMomB
    congr 1
    congr 1
    exact propext (by omega)
  generalize isMomB n = g at HG ⊢
  cases g <;>
  · go_enter Tryz.func31, Tryz.ntmps31
    go_wp2_with fail
    refine (in_any _ 0 345686399999 _).mono ?_
    rintro e w1 ⟨rfl, rfl⟩
    rw [HG.out]
    go_wp2_with fail
    go_ret
    exact ⟨rfl, Below.refl _ _⟩
end Go.Proofs.YtppinnjdaoaddaaGreatDoor

set_option linter.unusedVariables false
set_option linter.unusedSimpArgs false
namespace Go.Proofs.YtppinnjdaoaddaaGreatDoor
open Go.RowKit

theorem within_c (n lo hi : Int) (w : World) : Calls Tryz.prog 59 #[.int .i64 n, .int .i64 lo, .int .i64 hi] w fun e w' => e = .returned (.bool (inB n lo hi)) ∧ w = w' := by
  unfold inB
  by_cases h1 : lo ≤ n
  · go_enter Tryz.func59, Tryz.ntmps59
    go_wp2
    go_ret
    exact ⟨by rw [decide_eq_true h1]; rfl, rfl⟩
  · go_enter Tryz.func59, Tryz.ntmps59
    go_wp2
    go_ret
    exact ⟨by rw [decide_eq_false (show ¬ lo ≤ n by omega)]; rfl, rfl⟩
instance : Inhabited Carr := ⟨noCarr⟩
def idxC (l : List Carr) (key : List UInt8) : Int := Lib.idxBy (fun _ (y : Carr) => decide (y.key = key)) l default
theorem idxC_has (l : List Carr) (key : List UInt8) : decide (0 ≤ idxC l key) = hasC l key := Lib.idxBy_nonneg_iff (fun _ (y : Carr) => decide (y.key = key)) l default
theorem idxC_neg {l : List Carr} {key : List UInt8} : idxC l key < 0 ↔ hasC l key = false := by
  rw [← idxC_has]
  simp
theorem find_pred (key : List UInt8) (B : Nat) (w : World) (hB : B < w.heap.size) (c0 : w.cell? ⟨B, 0, none⟩ = some (.string ⟨key.toArray⟩)) :
    PredBelow Tryz.prog 96 #[.pointer (some ⟨B, 0, none⟩)] (fun x : Carr => .agg (Carr.cells x).toArray) (fun x => decide (x.key = key)) w := fun W x hb => by
  have k0 := (hb.cell (p := ⟨B, 0, none⟩) hB).trans c0
  have hBW : B < W.heap.size := Nat.lt_of_lt_of_le hB hb.size
  have hne : B ≠ W.heap.size := by omega
  obtain ⟨ky, ln, da, dn, dc, dk⟩ := x
  show Calls Tryz.prog 96 #[.agg #[.string ⟨ky.toArray⟩, .int .i64 ln, .slice da dn dc], .pointer (some ⟨B, 0, none⟩)] W _
  simp only
  have HB := Lib.hid hb
  clear hb c0 hB
  by_cases h : ky = key
  · subst h
    go_enter Tryz.func96, Tryz.ntmps96
    go_wp2_with fail
    go_ret
    exact ⟨by simp, by first | exact ext_alloc HB.out | exact HB.out | exact ext_drew (ext_alloc HB.out)⟩
  · go_enter Tryz.func96, Tryz.ntmps96
    go_wp2_with fail
    go_ret
    exact ⟨by simp [h], by first | exact ext_alloc HB.out | exact HB.out | exact ext_drew (ext_alloc HB.out)⟩
theorem pre48 (c : UInt8) (s : List UInt8) : Lib.hasPrefix (c :: s) [48] = (c == 48) := by
  by_cases h : c = 48
  · subst h; rfl
  · rw [beq_eq_false_iff_ne.2 h]
    have h2 : ((48 : UInt8) == c) = false := beq_eq_false_iff_ne.2 (Ne.symm h)
    show ((48 : UInt8) == c && List.isPrefixOf [] s) = false
    rw [h2]; rfl
theorem isPrefix_c (s : List UInt8) (w : World) (hs : s.length ≤ 1000000) : Calls Tryz.prog 99 #[.string ⟨s.toArray⟩] w fun e w' => e = .returned (.bool (preB s)) ∧ Below w.heap.size w w' := by
  have hcon := fun w => trim_digits ⟨s.toArray⟩ w (by show s.length ≤ _; omega)
  have hd : Hid (preB s = (decide ((s.length : Int) ≤ 15) && ((Lib.trimS s digitSet).isEmpty && !(Lib.hasPrefix s [48])))) := by
    show preB s = _
    have h0 : decide ((0 : Int) ≤ (s.length : Int)) = true := by simp
    unfold preB digitsB allIn
    rw [h0, Bool.true_and, Bool.and_assoc]
  have hcon : ∀ w, Calls Tryz.prog 92 #[.string ⟨s.toArray⟩, .string ⟨#[48, 49, 50, 51, 52, 53, 54, 55, 56, 57]⟩] w fun e w' => e = .returned (.string ⟨(Lib.trimS s digitSet).toArray⟩) ∧ Below w.heap.size w w' := hcon
  have HCON := Lib.hid hcon
  clear hcon
  generalize Lib.trimS s digitSet = r at HCON hd
  generalize preB s = R at hd ⊢
  by_cases hl : (s.length : Int) ≤ 15
  case neg =>
    have HF : Hid (R = false) := by show _ = _; rw [hd.out, decide_eq_false hl]; rfl
    clear hd
    go_enter Tryz.func99, Tryz.ntmps99
    go_wp2_with fail
    go_ret
    exact ⟨by rw [HF.out]; rfl, Below.refl _ _⟩
  rw [decide_eq_true hl, Bool.true_and] at hd
  cases r with
  | cons x r' =>
    have HF : Hid (R = false) := hd.out
    clear hd
    go_enter Tryz.func99, Tryz.ntmps99
    go_wp2_with (go_at_call 92; refine (HCON.out _).mono ?_; rintro e w2 ⟨rfl, hb2⟩)
    go_ret
    exact ⟨by rw [HF.out]; rfl, hb2⟩
  | nil =>
    cases s with
    | nil =>
      have HF : Hid (R = true) := hd.out
      clear hd
      go_enter Tryz.func99, Tryz.ntmps99
      go_wp2_with (go_at_call 92; refine (HCON.out _).mono ?_; rintro e w2 ⟨rfl, hb2⟩)
      go_ret
      exact ⟨by rw [HF.out]; rfl, hb2⟩
    | cons c l' =>
      have HF : Hid (R = (c != 48)) := by show _ = _; rw [hd.out, pre48]; rfl
      clear hd
      go_enter Tryz.func99, Tryz.ntmps99
      go_wp2_with (go_at_call 92; refine (HCON.out _).mono ?_; rintro e w2 ⟨rfl, hb2⟩)
      go_ret
      exact ⟨by rw [HF.out, ← byte_bne48]; rfl, hb2⟩
theorem cat_pred (key : List UInt8) (B : Nat) (w : World) (hB : B < w.heap.size) (c0 : w.cell? ⟨B, 0, none⟩ = some (.string ⟨key.toArray⟩)) :
    PredBelow Tryz.prog 73 #[.pointer (some ⟨B, 0, none⟩)] (fun x : Carr => .agg (Carr.cells x).toArray) (fun x => decide (x.key = key)) w := fun W x hb => by
  have k0 := (hb.cell (p := ⟨B, 0, none⟩) hB).trans c0
  have hBW : B < W.heap.size := Nat.lt_of_lt_of_le hB hb.size
  have hne : B ≠ W.heap.size := by omega
  obtain ⟨ky, ln, da, dn, dc, dk⟩ := x
  show Calls Tryz.prog 73 #[.agg #[.string ⟨ky.toArray⟩, .int .i64 ln, .slice da dn dc], .pointer (some ⟨B, 0, none⟩)] W _
  simp only
  have HB := Lib.hid hb
  clear hb c0 hB
  by_cases h : ky = key
  · subst h
    go_enter Tryz.func73, Tryz.ntmps73
    go_wp2_with fail
    go_ret
    exact ⟨by simp, by first | exact ext_alloc HB.out | exact HB.out | exact ext_drew (ext_alloc HB.out)⟩
  · go_enter Tryz.func73, Tryz.ntmps73
    go_wp2_with fail
    go_ret
    exact ⟨by simp [h], by first | exact ext_alloc HB.out | exact HB.out | exact ext_drew (ext_alloc HB.out)⟩
theorem idx_nil (a : Option Addr) (c : Nat) (fv : Value) (w : World) : Calls Tryz.prog 72 #[.slice a 0 c, fv] w fun e w' => e = .returned (.int .i64 (-1)) ∧ w = w' := by
  go_enter Tryz.func72, Tryz.ntmps72
  go_wp2_with fail
  go_loopw [8] (fun i wr => i = .int .i64 0 ∧ wr = w) (fun i _ => 0)
  case atStart => exact ⟨rfl, rfl⟩
  case round =>
    obtain ⟨rfl, rfl⟩ := hrel
    go_wp2_with fail
    go_ret
    exact ⟨rfl, rfl⟩
/-- Where a carrier is, by the number of the closure. -/
theorem idx_any (g : Nat) (eg : ∀ args w, (callFunc g args).run Tryz.prog w = .ok (.enter g args) w) (w : World) (a : Option Addr) (n cap : Nat) (l : List Carr) (hl : CarrRow w a n l) (key : List UInt8) (B : Nat)
    (hp : PredBelow Tryz.prog g #[.pointer (some ⟨B, 0, none⟩)] (fun x : Carr => .agg (Carr.cells x).toArray) (fun x => decide (x.key = key)) w) :
    Calls Tryz.prog 72 #[.slice a n cap, .func (.func g) #[] #[.pointer (some ⟨B, 0, none⟩)]] w fun e w' => e = .returned (.int .i64 (idxC l key)) ∧ Below w.heap.size w w' := by
  have hlen := hl.len
  have hfew := hl.few
  by_cases h0 : n = 0
  · subst h0
    obtain rfl : l = [] := List.length_eq_zero_iff.1 hlen.symm
    refine (idx_nil a cap _ w).mono ?_
    rintro e w' ⟨rfl, rfl⟩
    exact ⟨rfl, Below.refl _ _⟩
  · rcases hl.cells.row with h1 | ⟨b, off, rfl, hb, hc⟩
    · exact absurd h1 h0
    have ht : l.take n = l := by rw [hlen, List.take_length]
    have := Tryz.slices_idxK Carr.cells (fun _ => rfl) (fun x => decide (x.key = key)) g #[.pointer (some ⟨B, 0, none⟩)] eg b off n cap l w hp (by omega) (by omega) hb (fun j hj i v hv => by
      rw [getElem!_pos l j hj] at hv
      have hi : i < 3 := by
        rcases Nat.lt_or_ge i 3 with h | h
        · exact h
        · rw [List.getElem?_eq_none (by show 3 ≤ i; exact h)] at hv; cases hv
      rw [hc j (by omega) i hi, getD_map Carr.cells l j noCarr [] hj, List.getD_eq_getElem?_getD, List.getElem?_eq_getElem hj]
      exact hv)
    rw [ht] at this
    exact this
set_option maxRecDepth 100000 in
theorem find_any (w : World) (a : Option Addr) (n cap : Nat) (l : List Carr) (hl : CarrRow w a n l) (key : List UInt8) :
    Calls Tryz.prog 58 #[.slice a n cap, .string ⟨key.toArray⟩] w fun e w' => e = .returned (.int .i64 (idxC l key)) ∧ Below w.heap.size w w' := by
  have HI := Lib.hid (idx_any 96 (by intro args w; rfl) (w.alloc (.cells #[.string ⟨key.toArray⟩] 9)) a n cap l (hl.below (ext_alloc (Below.refl _ _))) key w.heap.size (find_pred key w.heap.size _ (by simp) (by go_simp)))
  clear hl
  go_enter Tryz.func58, Tryz.ntmps58
  go_wp2_with fail
  refine HI.out.mono ?_
  rintro e w1 ⟨rfl, hb1⟩
  have HB : Hid (Below w.heap.size w w1) := (ext_alloc (Below.refl _ _)).trans (hb1.mono (by simp))
  clear hb1 HI
  go_wp2_with fail
  go_ret
  exact ⟨rfl, HB.out⟩
set_option maxRecDepth 100000 in
theorem carrAt_any (w : World) (a : Option Addr) (n cap : Nat) (l : List Carr) (hl : CarrRow w a n l) (key : List UInt8) :
    Calls Tryz.prog 30 #[.slice a n cap, .string ⟨key.toArray⟩] w fun e w' => e = .returned (.int .i64 (idxC l key)) ∧ Below w.heap.size w w' := by
  have HI := Lib.hid (idx_any 73 (by intro args w; rfl) (w.alloc (.cells #[.string ⟨key.toArray⟩] 9)) a n cap l (hl.below (ext_alloc (Below.refl _ _))) key w.heap.size (cat_pred key w.heap.size _ (by simp) (by go_simp)))
  clear hl
  go_enter Tryz.func30, Tryz.ntmps30
  go_wp2_with fail
  refine HI.out.mono ?_
  rintro e w1 ⟨rfl, hb1⟩
  have HB : Hid (Below w.heap.size w w1) := (ext_alloc (Below.refl _ _)).trans (hb1.mono (by simp))
  clear hb1 HI
  go_wp2_with fail
  go_ret
  exact ⟨rfl, HB.out⟩
theorem in_same (n lo hi : Int) (w : World) : Calls Tryz.prog 56 #[.int .i64 n, .int .i64 lo, .int .i64 hi] w fun e w' => e = .returned (.bool (inB n lo hi)) ∧ w = w' := in_any n lo hi w
theorem momF_same (n : Int) (w : World) : Calls Tryz.prog 31 #[.int .i64 n] w fun e w' => e = .returned (.int .i64 (if isMomB n = true then 0 else 1)) ∧ w = w' := by
  have HG : Hid ((decide (0 ≤ n) && decide (n ≤ 345686399999)) = isMomB n) := by
    show _ = _
    unfold isMomB
    congr 1
    congr 1
    exact propext (by omega)
  generalize isMomB n = g at HG ⊢
  cases g <;>
  · go_enter Tryz.func31, Tryz.ntmps31
    go_wp2_with fail
    refine (in_any _ 0 345686399999 _).mono ?_
    rintro e w1 ⟨rfl, rfl⟩
    rw [HG.out]
    go_wp2_with fail
    go_ret
    exact ⟨rfl, rfl⟩
theorem winF_any (f t : Int) (w : World) : Calls Tryz.prog 64 #[.agg #[.int .i64 f, .int .i64 t]] w (ErrPost (winErr f t) w) := by
  have HD : Hid (winErr f t = if inB f 0 t = true then (if t ≤ 345686400000 then 0 else 1) else 1) := by
    show _ = _
    unfold winErr inB
    by_cases h1 : 0 ≤ f
    · by_cases h2 : f ≤ t
      · by_cases h3 : t ≤ 345686400000 <;> simp [h1, h2, h3]
      · simp [h2]
    · simp [h1]
  generalize winErr f t = R at HD ⊢
  by_cases h3 : t ≤ 345686400000
  · have h3' : ¬ (345686400000 : Int) < t := by omega
    go_enter Tryz.func64, Tryz.ntmps64
    go_wp2_with fail
    refine (in_same f 0 t _).mono ?_
    rintro e w1 ⟨rfl, rfl⟩
    generalize inB f 0 t = g at HD ⊢
    cases g
    · obtain rfl : R = 1 := HD.out
      go_wp2_with fail
      go_ret
      exact ⟨rfl, ext_alloc (Below.refl _ _)⟩
    · obtain rfl : R = 0 := by rw [HD.out, if_pos rfl, if_pos h3]
      go_wp2_with fail
      go_ret
      exact ⟨rfl, ext_alloc (Below.refl _ _)⟩
  · have h3' : (345686400000 : Int) < t := by omega
    obtain rfl : R = 1 := by rw [HD.out, if_neg h3]; split <;> rfl
    go_enter Tryz.func64, Tryz.ntmps64
    go_wp2_with fail
    refine (in_same f 0 t _).mono ?_
    rintro e w1 ⟨rfl, rfl⟩
    clear HD
    generalize inB f 0 t = g
    cases g
    · go_wp2_with fail
      go_ret
      exact ⟨rfl, ext_alloc (Below.refl _ _)⟩
    · go_wp2_with fail
      go_ret
      exact ⟨rfl, ext_alloc (Below.refl _ _)⟩
end Go.Proofs.YtppinnjdaoaddaaGreatDoor

set_option linter.unusedVariables false
set_option linter.unusedSimpArgs false
namespace Go.Proofs.YtppinnjdaoaddaaGreatDoor
open Go.RowKit

theorem deck_cases (d : Deck) (h : d.rates.length ≤ 5000) : (deckNum d = false → deckErr d = 1) ∧ (deckNum d = true →
    (∀ k, k < d.rates.length → (∀ j, j < k → rateErr d.rates j = 0) → rateErr d.rates k ≠ 0 → deckErr d = rateErr d.rates k) ∧ ((∀ j, j < d.rates.length → rateErr d.rates j = 0) → deckErr d = 0)) := by
  unfold deckErr
  refine ⟨fun h1 => by rw [if_pos h1], fun h1 => ⟨fun k k1 k2 k3 => ?_, fun k1 => ?_⟩⟩
  · rw [if_neg (by rw [h1]; decide), if_neg (by omega), first_some k2 k1 k3]
  · rw [if_neg (by rw [h1]; decide), if_neg (by omega), first_none k1]
theorem carrs_cases (l : List Carr) (h : l.length ≤ 50) :
    (∀ k, k < l.length → (∀ j, j < k → carrErr l j = 0) → carrErr l k ≠ 0 → carrsErr l = carrErr l k) ∧ ((∀ j, j < l.length → carrErr l j = 0) → carrsErr l = 0) := by
  unfold carrsErr
  refine ⟨fun k k1 k2 k3 => ?_, fun k1 => ?_⟩
  · rw [if_neg (by omega), first_some k2 k1 k3]
  · rw [if_neg (by omega), first_none k1]
theorem shares_cases (l : List Carr) (s : List Shr) :
    (50 < s.length → sharesErr l s = 2) ∧ (s.length ≤ 50 →
    (∀ k, k < s.length → (∀ j, j < k → shareErr l s j = 0) → shareErr l s k ≠ 0 → sharesErr l s = shareErr l s k) ∧ ((∀ j, j < s.length → shareErr l s j = 0) → sharesErr l s = if partSum s s.length ≠ 1000 then 16 else 0)) := by
  unfold sharesErr
  refine ⟨fun h => by rw [if_pos h], fun h => ⟨fun k k1 k2 k3 => ?_, fun k1 => ?_⟩⟩
  · rw [if_neg (by omega), first_some k2 k1 k3, if_pos k3]
  · rw [if_neg (by omega), first_none k1, if_neg (by simp)]
theorem recs_cases (l : List Carr) (rs : List Rcd) (f t : Int) (h : rs.length ≤ 3000) :
    (∀ k, k < rs.length → (∀ j, j < k → recErr l rs j = 0) → recErr l rs k ≠ 0 → recsErr l rs f t = recErr l rs k) ∧ ((∀ j, j < rs.length → recErr l rs j = 0) → recsErr l rs f t = winErr f t) := by
  unfold recsErr
  refine ⟨fun k k1 k2 k3 => ?_, fun k1 => ?_⟩
  · rw [if_neg (by omega), first_some k2 k1 k3, if_pos k3]
  · rw [if_neg (by omega), first_none k1, if_neg (by simp)]
/-- Parts of the first shares are right, so is their sum. -/
theorem part_bound {l : List Carr} {s : List Shr} : ∀ k, (∀ j, j < k → shareErr l s j = 0) → 0 ≤ partSum s k ∧ partSum s k ≤ 1000 * k
  | 0, _ => by simp [partSum]
  | k + 1, h => by
    have h1 := part_bound k (fun j hj => h j (by omega))
    have h2 := h k (by omega)
    unfold shareErr at h2
    have h3 : inB (s.getD k noShr).part 1 1000 = true := by
      cases h9 : inB (s.getD k noShr).part 1 1000 with
      | true => rfl
      | false => exact absurd h2 (by rw [h9]; split; decide; split; decide; decide)
    unfold inB at h3
    simp only [Bool.and_eq_true, decide_eq_true_eq] at h3
    unfold partSum
    omega
/-- A share of right ones has a right part and a carrier that is there. -/
theorem share_zero {l : List Carr} {s : List Shr} {k : Nat} (h2 : shareErr l s k = 0) : hasC l (s.getD k noShr).c = true ∧ 1 ≤ (s.getD k noShr).part ∧ (s.getD k noShr).part ≤ 1000 := by
  unfold shareErr at h2
  have h4 : hasC l (s.getD k noShr).c = true := by
    cases h9 : hasC l (s.getD k noShr).c with
    | true => rfl
    | false => rw [h9] at h2; simp at h2
  have h3 : inB (s.getD k noShr).part 1 1000 = true := by
    cases h9 : inB (s.getD k noShr).part 1 1000 with
    | true => rfl
    | false => exact absurd h2 (by rw [h9]; split; decide; split; decide; decide)
  unfold inB at h3
  simp only [Bool.and_eq_true, decide_eq_true_eq] at h3
  exact ⟨h4, h3⟩
theorem carr_key {l : List Carr} {k : Nat} (h : carrErr l k = 0) : (l.getD k noCarr).key ≠ [] := by
  intro h9
  unfold carrErr at h
  rw [h9] at h
  have : isKeyB [] = false := rfl
  rw [this] at h
  simp at h
/-- Shares of right carriers name carriers with keys. -/
theorem shares_keys {l : List Carr} {s : List Shr} (hl : l.length ≤ 50) (h : carrsErr l = 0) (hs : sharesErr l s = 0) (hf : s.length ≤ 50) : ∀ i, i < s.length → (s.getD i noShr).c ≠ [] ∧ 1 ≤ (s.getD i noShr).part ∧ (s.getD i noShr).part ≤ 1000 := by
  have z1 : ∀ j, j < l.length → carrErr l j = 0 := first_zero (by unfold carrsErr at h; rw [if_neg (by omega)] at h; exact h)
  have z2 : ∀ j, j < s.length → shareErr l s j = 0 := first_zero (by
    unfold sharesErr at hs
    rw [if_neg (by omega)] at hs
    by_cases h0 : firstErr (shareErr l s) s.length = 0
    · exact h0
    · rw [if_pos h0] at hs; exact absurd hs h0)
  intro i hi
  obtain ⟨h1, h2⟩ := share_zero (z2 i hi)
  refine ⟨fun h9 => ?_, h2⟩
  rw [h9] at h1
  unfold hasC at h1
  rw [List.any_eq_true] at h1
  obtain ⟨x, hx, hx2⟩ := h1
  obtain ⟨j, hj, rfl⟩ := List.getElem_of_mem hx
  have := carr_key (z1 j hj)
  rw [List.getD_eq_getElem?_getD, List.getElem?_eq_getElem hj] at this
  exact this (of_decide_eq_true hx2)
end Go.Proofs.YtppinnjdaoaddaaGreatDoor

set_option linter.unusedVariables false
set_option linter.unusedSimpArgs false
namespace Go.Proofs.YtppinnjdaoaddaaGreatDoor
open Go.RowKit

set_option maxRecDepth 100000 in
set_option maxHeartbeats 4000000 in
theorem checkDeck_any (w : World) (d : Deck) (hd : DeckFine w d) : Calls Tryz.prog 68 #[.agg d.cells.toArray] w (ErrPost (deckErr d) w) := by
  have hlen := hd.row.len
  have hfew := hd.row.few
  have HC0 := Lib.hid (deck_cases d (by omega))
  have HDN : Hid (deckNum d = (isMomB d.from_ && (inB d.setup 0 100000000 && (inB d.least 0 86400000 && inB d.step 1 86400000)))) := rfl
  have HR0 := Lib.hid hd.row
  have hcap := hd.cap
  clear hd
  obtain ⟨df, ds, dl, dp, ra, rn, rc, rates⟩ := d
  simp only at hlen hfew HC0 HDN HR0 hcap
  generalize deckErr ⟨df, ds, dl, dp, ra, rn, rc, rates⟩ = R at HC0 ⊢
  generalize deckNum ⟨df, ds, dl, dp, ra, rn, rc, rates⟩ = G at HC0 HDN
  rw [← hlen] at HC0
  have HLEN := Lib.hid hlen
  clear hlen
  show Calls Tryz.prog 68 #[.agg #[.int .i64 df, .int .i64 ds, .int .i64 dl, .int .i64 dp, .slice ra rn rc]] w _
  go_enter Tryz.func68, Tryz.ntmps68
  go_wp2_with fail
  refine (isMoment_any df _).mono ?_
  rintro e w1 ⟨rfl, rfl⟩
  generalize isMomB df = g1 at HDN ⊢
  cases g1
  · obtain rfl : R = 1 := HC0.out.1 HDN.out
    clear HC0 HDN
    skip
    as_aux_lemma =>
      go_wp2_with fail
      go_ret
      exact ⟨rfl, ext_alloc (Below.refl _ _)⟩
  skip
  as_aux_lemma =>
    go_wp2_with fail
    refine (within_c ds 0 100000000 _).mono ?_
    rintro e w1 ⟨rfl, rfl⟩
    generalize inB ds 0 100000000 = g2 at HDN ⊢
    cases g2
    · obtain rfl : R = 1 := HC0.out.1 HDN.out
      clear HC0 HDN
      skip
      as_aux_lemma =>
        go_wp2_with fail
        go_ret
        exact ⟨rfl, ext_alloc (Below.refl _ _)⟩
    skip
    as_aux_lemma =>
      go_wp2_with fail
      refine (within_c dl 0 86400000 _).mono ?_
      rintro e w1 ⟨rfl, rfl⟩
      generalize inB dl 0 86400000 = g3 at HDN ⊢
      cases g3
      · obtain rfl : R = 1 := HC0.out.1 HDN.out
        clear HC0 HDN
        skip
        as_aux_lemma =>
          go_wp2_with fail
          go_ret
          exact ⟨rfl, ext_alloc (Below.refl _ _)⟩
      skip
      as_aux_lemma =>
        go_wp2_with fail
        refine (within_c dp 1 86400000 _).mono ?_
        rintro e w1 ⟨rfl, rfl⟩
        generalize inB dp 1 86400000 = g4 at HDN ⊢
        cases g4
        · obtain rfl : R = 1 := HC0.out.1 HDN.out
          clear HC0 HDN
          skip
          as_aux_lemma =>
            go_wp2_with fail
            go_ret
            exact ⟨rfl, ext_alloc (Below.refl _ _)⟩
        have HC := Lib.hid (HC0.out.2 HDN.out)
        have hbig : ¬ (5000 : Int) < rn := by omega
        clear HC0 HDN
        skip
        as_aux_lemma =>
          go_wp2_with fail
          clear hbig
          have HB0 : Hid (Below w.heap.size w (w.alloc (.cells #[.int .i64 df, .int .i64 ds, .int .i64 dl, .int .i64 dp, .slice ra rn rc] 63))) := ext_alloc (Below.refl _ _)
          have b4 : (w.alloc (.cells #[.int .i64 df, .int .i64 ds, .int .i64 dl, .int .i64 dp, .slice ra rn rc] 63)).cell? ⟨w.heap.size, 4, none⟩ = some (.slice ra rn rc) := by go_simp
          have hTl : w.heap.size < (w.alloc (.cells #[.int .i64 df, .int .i64 ds, .int .i64 dl, .int .i64 dp, .slice ra rn rc] 63)).heap.size := by simp
          generalize w.alloc (.cells #[.int .i64 df, .int .i64 ds, .int .i64 dl, .int .i64 dp, .slice ra rn rc] 63) = W0 at HB0 b4 hTl ⊢
          have HR := Lib.hid (HR0.out.below HB0.out)
          clear HR0
          generalize hTT : w.heap.size = T at b4 hTl ⊢
          have HTT := Lib.hid hTT
          clear hTT
          go_loopw [34] (fun it wr => ∃ k : Nat, k ≤ rn ∧ it = .int .i64 k ∧ Hid (∀ j, j < k → rateErr rates j = 0) ∧ Hid (Below W0.heap.size W0 wr)) (fun it _ => rn - (intOf it).toNat)
          case atStart => exact ⟨0, Nat.zero_le _, rfl, fun j hj => by omega, Below.refl _ _⟩
          case round =>
            obtain ⟨k, hk, rfl, HZ, HB⟩ := hrel
            by_cases hlt : k < rn
            case neg =>
              obtain rfl : k = rn := by omega
              obtain rfl : R = 0 := HC.out.2 HZ.out
              clear HC HZ
              as_aux_lemma =>
                go_wp2_with fail
                go_ret
                exact ⟨rfl, ext_trans HB0.out HB.out⟩
            obtain ⟨b, off, rfl, hb, hc⟩ := HR.out.at (by omega)
            have HCC := Lib.hid hc
            obtain ⟨q0, q1, q2⟩ := hc k hlt
            have c0 := (HB.out.cell (p := ⟨b, off + k * 3, none⟩) hb).trans q0
            have c1 := (HB.out.cell (p := ⟨b, off + k * 3 + 1, none⟩) hb).trans q1
            have c2 := (HB.out.cell (p := ⟨b, off + k * 3 + 2, none⟩) hb).trans q2
            have d4 := (HB.out.cell (p := ⟨T, 4, none⟩) hTl).trans b4
            obtain ⟨hpl, hp1, hp2⟩ := HR.out.each k (by rw [← HLEN.out]; exact hlt)
            have HER : Hid (rateErr rates k = if preB (rates.getD k noRate).p = false then 3
              else if 0 < k ∧ Op.bytesLess (rates.getD (k - 1) noRate).p (rates.getD k noRate).p = false then 7
              else if inB (rates.getD k noRate).price 0 100000000 = false then 1
              else if (rates.getD k noRate).closed = true ∧ (rates.getD k noRate).price ≠ 0 then 3
              else 0) := rfl
            have HSTOP := Lib.hid (HC.out.1 k hlt HZ.out)
            have HNX : Hid (rateErr rates k = 0 → ∀ j, j < k + 1 → rateErr rates j = 0) := fun h j hj => by
              rcases Nat.lt_succ_iff_lt_or_eq.1 hj with h9 | rfl
              · exact HZ.out j h9
              · exact h
            have HPV : Hid (0 < k → W0.cell? ⟨b, off + (k - 1) * 3, none⟩ = some (.string ⟨(rates.getD (k - 1) noRate).p.toArray⟩)) := fun h => (HCC.out (k - 1) (by omega)).1
            clear q0 q1 q2 hc HZ HCC HC
            generalize rateErr rates k = X at HER HSTOP HNX
            generalize rates.getD k noRate = r at c0 c1 c2 hpl hp1 hp2 HER
            generalize rates.getD (k - 1) noRate = q at HER HPV
            obtain ⟨rp, rpr, rcl⟩ := r
            obtain ⟨qp, qpr, qcl⟩ := q
            simp only at c0 c1 c2 hpl hp1 hp2 HER HPV
            as_aux_lemma =>
              go_wp2_with fail
              refine (isPrefix_c rp _ (by omega)).mono ?_
              rintro e w3 ⟨rfl, hb3⟩
              obtain ⟨qc, qf⟩ := bcell hb3
              have hz3 : wr.heap.size < w3.heap.size := by have := hb3.size; simp at this; omega
              have e0 : w3.cell? ⟨wr.heap.size, 0, none⟩ = some (.string ⟨rp.toArray⟩) := (qc _ 0 (by simp)).trans (by go_simp)
              have e1 : w3.cell? ⟨wr.heap.size, 1, none⟩ = some (.int .i64 rpr) := (qc _ 1 (by simp)).trans (by go_simp)
              have e2 : w3.cell? ⟨wr.heap.size, 2, none⟩ = some (.bool rcl) := (qc _ 2 (by simp)).trans (by go_simp)
              have HB3 : Hid (Below W0.heap.size W0 w3) := ext_trans (ext_alloc HB.out) hb3
              have d4 := (HB3.out.cell (p := ⟨T, 4, none⟩) hTl).trans b4
              generalize wr.heap.size = Tr at e0 e1 e2 hz3 ⊢
              clear qc qf hb3 c0 c1 c2
              generalize preB rp = g1 at HER ⊢
              cases g1
              · obtain rfl : X = 3 := by rw [HER.out, if_pos rfl]
                obtain rfl : R = 3 := HSTOP.out (by decide)
                clear HER HSTOP HNX HPV
                skip
                as_aux_lemma =>
                  go_wp2_with fail
                  go_ret
                  exact ⟨rfl, ext_trans HB0.out HB3.out⟩
              have HER1 : Hid (X = if 0 < k ∧ Op.bytesLess qp rp = false then 7
                else if inB rpr 0 100000000 = false then 1
                else if rcl = true ∧ rpr ≠ 0 then 3
                else 0) := by show _ = _; rw [HER.out, if_neg (by decide)]
              clear HER
              by_cases hk0 : k = 0
              · subst hk0
                have HER2 : Hid (X = if inB rpr 0 100000000 = false then 1
                  else if rcl = true ∧ rpr ≠ 0 then 3
                  else 0) := by show _ = _; rw [HER1.out, if_neg (fun h => by omega)]
                clear HER1 HPV
                skip
                as_aux_lemma =>
                  go_wp2_with fail
                  go_quiet (fail)
                  go_wp2_with fail
                  refine (within_c rpr 0 100000000 _).mono ?_
                  rintro e w4 ⟨rfl, rfl⟩
                  generalize inB rpr 0 100000000 = g2 at HER2 ⊢
                  cases g2
                  · obtain rfl : X = 1 := by rw [HER2.out, if_pos rfl]
                    obtain rfl : R = 1 := HSTOP.out (by decide)
                    clear HER2 HSTOP HNX
                    skip
                    as_aux_lemma =>
                      go_wp2_with fail
                      go_ret
                      exact ⟨rfl, ext_trans HB0.out (ext_drewN HB3.out)⟩
                  cases rcl
                  · skip
                    have HZ2 := Lib.hid (HNX.out (by rw [HER2.out, if_neg (by decide), if_neg (by simp)]))
                    clear HER2 HSTOP HNX
                    skip
                    as_aux_lemma =>
                      go_wp2_with fail
                      go_roundw
                      case rel => exact ⟨0 + 1, by omega, by go_num, HZ2.out, ext_drewN HB3.out⟩
                      case measure => simp [intOf]; omega
                  by_cases hp0 : rpr = 0
                  · have hpb : (rpr != 0) = false := by simp [hp0]
                    have HP0 := Lib.hid hp0
                    clear hp0
                    have HZ2 := Lib.hid (HNX.out (by rw [HER2.out, if_neg (by decide), if_neg (fun h => h.2 HP0.out)]))
                    clear HER2 HSTOP HNX
                    skip
                    as_aux_lemma =>
                      go_wp2_with fail
                      go_roundw
                      case rel => exact ⟨0 + 1, by omega, by go_num, HZ2.out, ext_drewN HB3.out⟩
                      case measure => simp [intOf]; omega
                  have hpb : (rpr != 0) = true := by simp [hp0]
                  obtain rfl : X = 3 := by rw [HER2.out, if_neg (by decide), if_pos ⟨rfl, hp0⟩]
                  obtain rfl : R = 3 := HSTOP.out (by decide)
                  clear hp0
                  clear HER2 HSTOP HNX
                  skip
                  as_aux_lemma =>
                    go_wp2_with fail
                    go_ret
                    exact ⟨rfl, ext_trans HB0.out (ext_drewN HB3.out)⟩
              obtain ⟨j, rfl⟩ : ∃ j, k = j + 1 := ⟨k - 1, by omega⟩
              have p0 := HPV.out (by omega)
              rw [Nat.add_sub_cancel] at p0
              have g0 := (HB3.out.cell (p := ⟨b, off + j * 3, none⟩) hb).trans p0
              have w1 : IntKind.i64.wrap (j : Int) = j := IntWalk.i64_in _ (by omega)
              have w2 : IntKind.i64.wrap ((j : Int) + 1 - 1) = j := by rw [Int.add_sub_cancel]; exact w1
              have w3 : (j : Int) < rn := by omega
              have w4 : (0 : Int) ≤ (j : Int) := by omega
              clear HPV p0 hk0
              cases hls : Op.bytesLess qp rp
              · obtain rfl : X = 7 := by rw [HER1.out, if_pos ⟨by omega, hls⟩]
                obtain rfl : R = 7 := HSTOP.out (by decide)
                clear HER1 HSTOP HNX
                by_cases hxe : rp = qp
                · subst hxe
                  skip
                  as_aux_lemma =>
                    go_wp2_with fail
                    go_quiet (fail)
                    go_wp2_with fail
                    go_ret
                    exact ⟨rfl, ext_trans HB0.out (ext_drewN HB3.out)⟩
                · have hx1 : Op.bytesLess rp qp = true := less_total qp rp hls (Ne.symm hxe)
                  skip
                  as_aux_lemma =>
                    go_wp2_with fail
                    go_quiet (fail)
                    go_wp2_with fail
                    go_ret
                    exact ⟨rfl, ext_trans HB0.out (ext_drewN HB3.out)⟩
              have HER2 : Hid (X = if inB rpr 0 100000000 = false then 1
                else if rcl = true ∧ rpr ≠ 0 then 3
                else 0) := by show _ = _; rw [HER1.out, if_neg (fun h => by rw [hls] at h; cases h.2)]
              obtain ⟨hx1, hx2⟩ := less_asym hls
              have hx3 : (rp == qp) = false := beq_eq_false_iff_ne.2 (fun e => hx2 e.symm)
              clear HER1 hx2
              skip
              as_aux_lemma =>
                go_wp2_with fail
                go_quiet (fail)
                go_wp2_with fail
                refine (within_c rpr 0 100000000 _).mono ?_
                rintro e w4 ⟨rfl, rfl⟩
                generalize inB rpr 0 100000000 = g2 at HER2 ⊢
                cases g2
                · obtain rfl : X = 1 := by rw [HER2.out, if_pos rfl]
                  obtain rfl : R = 1 := HSTOP.out (by decide)
                  clear HER2 HSTOP HNX
                  skip
                  as_aux_lemma =>
                    go_wp2_with fail
                    go_ret
                    exact ⟨rfl, ext_trans HB0.out (ext_drewN HB3.out)⟩
                cases rcl
                · skip
                  have HZ2 := Lib.hid (HNX.out (by rw [HER2.out, if_neg (by decide), if_neg (by simp)]))
                  clear HER2 HSTOP HNX
                  skip
                  as_aux_lemma =>
                    go_wp2_with fail
                    go_roundw
                    case rel => exact ⟨j + 1 + 1, by omega, by go_num, HZ2.out, ext_drewN HB3.out⟩
                    case measure => simp [intOf]; omega
                by_cases hp0 : rpr = 0
                · have hpb : (rpr != 0) = false := by simp [hp0]
                  have HP0 := Lib.hid hp0
                  clear hp0
                  have HZ2 := Lib.hid (HNX.out (by rw [HER2.out, if_neg (by decide), if_neg (fun h => h.2 HP0.out)]))
                  clear HER2 HSTOP HNX
                  skip
                  as_aux_lemma =>
                    go_wp2_with fail
                    go_roundw
                    case rel => exact ⟨j + 1 + 1, by omega, by go_num, HZ2.out, ext_drewN HB3.out⟩
                    case measure => simp [intOf]; omega
                have hpb : (rpr != 0) = true := by simp [hp0]
                obtain rfl : X = 3 := by rw [HER2.out, if_neg (by decide), if_pos ⟨rfl, hp0⟩]
                obtain rfl : R = 3 := HSTOP.out (by decide)
                clear hp0
                clear HER2 HSTOP HNX
                skip
                as_aux_lemma =>
                  go_wp2_with fail
                  go_ret
                  exact ⟨rfl, ext_trans HB0.out (ext_drewN HB3.out)⟩
end Go.Proofs.YtppinnjdaoaddaaGreatDoor

set_option linter.unusedVariables false
set_option linter.unusedSimpArgs false
namespace Go.Proofs.YtppinnjdaoaddaaGreatDoor
open Go.RowKit

set_option maxRecDepth 100000 in
set_option maxHeartbeats 4000000 in
theorem checkCarr_any (w : World) (a : Option Addr) (n cap : Nat) (l : List Carr) (hl : CarrRow w a n l) (hcap : n ≤ cap) : Calls Tryz.prog 28 #[.slice a n cap] w (ErrPost (carrsErr l) w) := by
  have hlen := hl.len
  have hfew := hl.few
  have HC := Lib.hid (carrs_cases l (by omega))
  have HR := Lib.hid hl
  clear hl
  generalize carrsErr l = R at HC ⊢
  rw [← hlen] at HC
  have HLEN := Lib.hid hlen
  clear hlen
  have hbig : ¬ (50 : Int) < n := by omega
  go_enter Tryz.func28, Tryz.ntmps28
  go_wp2_with fail
  clear hbig
  go_loopw [13] (fun it wr => ∃ k : Nat, k ≤ n ∧ it = .int .i64 k ∧ Hid (∀ j, j < k → carrErr l j = 0) ∧ Hid (Below w.heap.size w wr)) (fun it _ => n - (intOf it).toNat)
  case atStart => exact ⟨0, Nat.zero_le _, rfl, fun j hj => by omega, Below.refl _ _⟩
  case round =>
    obtain ⟨k, hk, rfl, HZ, HB⟩ := hrel
    by_cases hlt : k < n
    case neg =>
      obtain rfl : k = n := by omega
      obtain rfl : R = 0 := HC.out.2 HZ.out
      clear HC HZ
      as_aux_lemma =>
        go_wp2_with fail
        go_ret
        exact ⟨rfl, HB.out⟩
    obtain ⟨b, off, rfl, hb, hc⟩ := HR.out.at (by omega)
    have HCC := Lib.hid hc
    obtain ⟨q0, q1, q2⟩ := hc k hlt
    have c0 := (HB.out.cell (p := ⟨b, off + k * 3, none⟩) hb).trans q0
    have c1 := (HB.out.cell (p := ⟨b, off + k * 3 + 1, none⟩) hb).trans q1
    have c2 := (HB.out.cell (p := ⟨b, off + k * 3 + 2, none⟩) hb).trans q2
    have HFI := Lib.hid (HR.out.each k (by rw [← HLEN.out]; exact hlt))
    have HER : Hid (carrErr l k = if isKeyB (l.getD k noCarr).key = false then 5
      else if 0 < k ∧ Op.bytesLess (l.getD (k - 1) noCarr).key (l.getD k noCarr).key = false then 7
      else if inB (l.getD k noCarr).lines 1 100000 = false then 1
      else if 20 < (l.getD k noCarr).decks.length then 2
      else firstErr (deckAtErr (l.getD k noCarr).decks) (l.getD k noCarr).decks.length) := rfl
    have HSTOP := Lib.hid (HC.out.1 k hlt HZ.out)
    have HNX : Hid (carrErr l k = 0 → ∀ j, j < k + 1 → carrErr l j = 0) := fun h j hj => by
      rcases Nat.lt_succ_iff_lt_or_eq.1 hj with h9 | rfl
      · exact HZ.out j h9
      · exact h
    have HPV : Hid (0 < k → w.cell? ⟨b, off + (k - 1) * 3, none⟩ = some (.string ⟨(l.getD (k - 1) noCarr).key.toArray⟩)) := fun h => (HCC.out (k - 1) (by omega)).1
    clear q0 q1 q2 hc HZ HCC HC
    generalize carrErr l k = X at HER HSTOP HNX
    generalize l.getD k noCarr = c at c0 c1 c2 HFI HER
    generalize l.getD (k - 1) noCarr = q at HER HPV
    obtain ⟨ck, cl, da, dn, dc, dk⟩ := c
    obtain ⟨qk, ql, qa, qn, qc, qd⟩ := q
    have HDR : Hid (DeckRow w da dn dk) := HFI.out.row
    have hdl : dn = dk.length := HFI.out.row.len
    have hdf : dn ≤ 100 := HFI.out.row.few
    have hdc : dn ≤ dc := HFI.out.cap
    have hkl : ck.length ≤ 100 := HFI.out.key
    have hli : -2000000000000 ≤ cl ∧ cl ≤ 2000000000000 := HFI.out.b1
    have HDL := Lib.hid hdl
    simp only at c0 c1 c2 HER HPV
    rw [← hdl] at HER
    clear HFI hdl
    as_aux_lemma =>
      go_wp2_with fail
      refine (isKey_any ck _ (by omega)).mono ?_
      rintro e w3 ⟨rfl, hb3⟩
      obtain ⟨qc9, qf⟩ := bcell hb3
      have hz3 : wr.heap.size < w3.heap.size := by have := hb3.size; simp at this; omega
      have e0 : w3.cell? ⟨wr.heap.size, 0, none⟩ = some (.string ⟨ck.toArray⟩) := (qc9 _ 0 (by simp)).trans (by go_simp)
      have e1 : w3.cell? ⟨wr.heap.size, 1, none⟩ = some (.int .i64 cl) := (qc9 _ 1 (by simp)).trans (by go_simp)
      have e2 : w3.cell? ⟨wr.heap.size, 2, none⟩ = some (.slice da dn dc) := (qc9 _ 2 (by simp)).trans (by go_simp)
      have HB3 : Hid (Below w.heap.size w w3) := ext_trans (ext_alloc HB.out) hb3
      have hTw : w.heap.size ≤ wr.heap.size := HB.out.size
      generalize wr.heap.size = T at e0 e1 e2 hz3 hTw ⊢
      clear qc9 qf hb3 c0 c1 c2 HB
      generalize isKeyB ck = g1 at HER ⊢
      cases g1
      · obtain rfl : X = 5 := by rw [HER.out, if_pos rfl]
        obtain rfl : R = 5 := HSTOP.out (by decide)
        clear HER HSTOP HNX HPV
        skip
        as_aux_lemma =>
          go_wp2_with fail
          go_ret
          exact ⟨rfl, HB3.out⟩
      have HER1 : Hid (X = if 0 < k ∧ Op.bytesLess qk ck = false then 7
        else if inB cl 1 100000 = false then 1
        else if 20 < dn then 2
        else firstErr (deckAtErr dk) dn) := by show _ = _; rw [HER.out, if_neg (by decide)]
      clear HER
      by_cases hk0 : k = 0
      · subst hk0
        have HER2 : Hid (X = if inB cl 1 100000 = false then 1
          else if 20 < dn then 2
          else firstErr (deckAtErr dk) dn) := by show _ = _; rw [HER1.out, if_neg (fun h => by omega)]
        clear HER1 HPV
        skip
        as_aux_lemma =>
          go_wp2_with fail
          go_quiet (fail)
          go_wp2_with fail
          refine (within_c cl 1 100000 _).mono ?_
          rintro e w4 ⟨rfl, rfl⟩
          have HB3d : Hid (Below w.heap.size w (World.drewN w3 nq)) := ext_drewN HB3.out
          generalize inB cl 1 100000 = g2 at HER2 ⊢
          cases g2
          · obtain rfl : X = 1 := by rw [HER2.out, if_pos rfl]
            obtain rfl : R = 1 := HSTOP.out (by decide)
            clear HER2 HSTOP HNX
            skip
            as_aux_lemma =>
              go_wp2_with fail
              go_ret
              exact ⟨rfl, HB3d.out⟩
          by_cases hd20 : 20 < dn
          · obtain rfl : X = 2 := by rw [HER2.out, if_neg (by decide), if_pos hd20]
            obtain rfl : R = 2 := HSTOP.out (by decide)
            have hdI : (20 : Int) < dn := by omega
            clear HER2 HSTOP HNX
            skip
            as_aux_lemma =>
              go_wp2_with fail
              go_ret
              exact ⟨rfl, HB3d.out⟩
          have HER3 : Hid (X = firstErr (deckAtErr dk) dn) := by show _ = _; rw [HER2.out, if_neg (by decide), if_neg hd20]
          have hdI : ¬ (20 : Int) < dn := by omega
          clear HER2
          skip
          as_aux_lemma =>
            go_wp2_with fail
            clear hdI
            have HDR3 := Lib.hid (HDR.out.below HB3.out)
            obtain ⟨wo, rfl⟩ : ∃ wo : World, wo = w3 := ⟨_, rfl⟩
            go_loopw [50] (fun it wr => ∃ i : Nat, i ≤ dn ∧ it = .int .i64 i ∧ Hid (∀ j, j < i → deckAtErr dk j = 0) ∧ Hid (Below wo.heap.size wo wr)) (fun it _ => dn - (intOf it).toNat)
            case atStart => exact ⟨0, Nat.zero_le _, rfl, fun j hj => by omega, ext_drewN (Below.refl _ _)⟩
            case round =>
              obtain ⟨i, hi, rfl, HZ, HB⟩ := hrel
              by_cases hlt2 : i < dn
              case neg =>
                obtain rfl : i = dn := by omega
                have HZ2 := Lib.hid (HNX.out (by rw [HER3.out]; exact first_none HZ.out))
                have HBn := Lib.hid (ext_trans HB3.out HB.out)
                clear HER3 HNX HSTOP HZ
                skip
                as_aux_lemma =>
                  go_wp2_with fail
                  go_roundw
                  case rel => exact ⟨0 + 1, by omega, by go_num, HZ2.out, HBn.out⟩
                  case measure => simp [intOf]; omega
              obtain ⟨b2, off2, rfl, hb2, hc⟩ := HDR3.out.at (by omega)
              have HCC := Lib.hid hc
              obtain ⟨q0, q1, q2, q3, q4⟩ := hc i hlt2
              have c0 := (HB.out.cell (p := ⟨b2, off2 + i * 5, none⟩) hb2).trans q0
              have c1 := (HB.out.cell (p := ⟨b2, off2 + i * 5 + 1, none⟩) hb2).trans q1
              have c2 := (HB.out.cell (p := ⟨b2, off2 + i * 5 + 2, none⟩) hb2).trans q2
              have c3 := (HB.out.cell (p := ⟨b2, off2 + i * 5 + 3, none⟩) hb2).trans q3
              have c4 := (HB.out.cell (p := ⟨b2, off2 + i * 5 + 4, none⟩) hb2).trans q4
              have d2 := (HB.out.cell (p := ⟨T, 2, none⟩) hz3).trans e2
              have HFI : Hid (DeckFine wr (dk.getD i noDeck)) := (HDR3.out.each i (by rw [← HDL.out]; exact hlt2)).below HB.out
              have HEI : Hid (deckAtErr dk i = if deckErr (dk.getD i noDeck) ≠ 0 then deckErr (dk.getD i noDeck) else if 0 < i ∧ (dk.getD i noDeck).from_ ≤ (dk.getD (i - 1) noDeck).from_ then 7 else 0) := rfl
              have HST : Hid (deckAtErr dk i ≠ 0 → R = deckAtErr dk i) := fun h => by
                have h9 := first_some (f := deckAtErr dk) HZ.out hlt2 h
                rw [HSTOP.out (by rw [HER3.out, h9]; exact h), HER3.out, h9]
              have HNI : Hid (deckAtErr dk i = 0 → ∀ j, j < i + 1 → deckAtErr dk j = 0) := fun h j hj => by
                rcases Nat.lt_succ_iff_lt_or_eq.1 hj with h9 | rfl
                · exact HZ.out j h9
                · exact h
              have HPI : Hid (0 < i → wo.cell? ⟨b2, off2 + (i - 1) * 5, none⟩ = some (.int .i64 (dk.getD (i - 1) noDeck).from_)) := fun h => (HCC.out (i - 1) (by omega)).1
              clear q0 q1 q2 q3 q4 hc HCC HZ
              generalize deckAtErr dk i = Y at HEI HST HNI
              generalize dk.getD i noDeck = d at c0 c1 c2 c3 c4 HFI HEI
              generalize dk.getD (i - 1) noDeck = y at HEI HPI
              obtain ⟨df, ds, dl, dp, ra, rn, rc, rates⟩ := d
              obtain ⟨yf, ys, yl, yp, ya, yn, yc, yrates⟩ := y
              simp only at c0 c1 c2 c3 c4 HEI HPI
              have HDV : Hid (∀ W, DeckFine W ⟨df, ds, dl, dp, ra, rn, rc, rates⟩ → Calls Tryz.prog 68 #[.agg #[.int .i64 df, .int .i64 ds, .int .i64 dl, .int .i64 dp, .slice ra rn rc]] W (ErrPost (deckErr ⟨df, ds, dl, dp, ra, rn, rc, rates⟩) W)) := fun W h => checkDeck_any W _ h
              generalize deckErr ⟨df, ds, dl, dp, ra, rn, rc, rates⟩ = E at HEI HDV
              as_aux_lemma =>
                go_wp2_with fail
                refine (HDV.out _ (HFI.out.below (ext_alloc (Below.refl _ _)))).mono ?_
                rintro e w5 ⟨rfl, hb5⟩
                obtain ⟨qc9, qf⟩ := bcell hb5
                have hz5 : wr.heap.size < w5.heap.size := by have := hb5.size; simp at this; omega
                have f0 : w5.cell? ⟨wr.heap.size, 0, none⟩ = some (.int .i64 df) := (qc9 _ 0 (by simp)).trans (by go_simp)
                have HB5 : Hid (Below wo.heap.size wo w5) := ext_trans (ext_alloc HB.out) hb5
                have HBn := Lib.hid (ext_trans HB3.out HB5.out)
                have d2 := (HB5.out.cell (p := ⟨T, 2, none⟩) hz3).trans e2
                generalize wr.heap.size = T2 at f0 hz5 ⊢
                clear qc9 qf hb5 c0 c1 c2 c3 c4 HDV HFI
                by_cases hE : E = 0
                case neg =>
                  have hEb : (E != 0) = true := by simp [hE]
                  obtain rfl : Y = E := by rw [HEI.out, if_pos hE]
                  obtain rfl : R = Y := HST.out hE
                  clear HEI HST HNI HPI HNX HSTOP HER3
                  skip
                  as_aux_lemma =>
                    go_wp2_with fail
                    go_ret
                    exact ⟨rfl, HBn.out⟩
                subst hE
                have HEI1 : Hid (Y = if 0 < i ∧ df ≤ yf then 7 else 0) := by show _ = _; rw [HEI.out, if_neg (by simp)]
                clear HEI
                by_cases hi0 : i = 0
                · subst hi0
                  have HZ2 := Lib.hid (HNI.out (by rw [HEI1.out, if_neg (fun h => by omega)]))
                  clear HEI1 HNI HST HPI
                  skip
                  as_aux_lemma =>
                    go_wp2_with fail
                    go_quiet (fail)
                    go_wp2_with fail
                    go_roundw
                    case rel => exact ⟨1, by omega, by go_num, HZ2.out, ext_drewN HB5.out⟩
                    case measure => simp [intOf]; omega
                obtain ⟨v, rfl⟩ : ∃ v, i = v + 1 := ⟨i - 1, by omega⟩
                have p0 := HPI.out (by omega)
                rw [Nat.add_sub_cancel] at p0
                have g0 := (HB5.out.cell (p := ⟨b2, off2 + v * 5, none⟩) hb2).trans p0
                have w1 : IntKind.i64.wrap (v : Int) = v := IntWalk.i64_in _ (by omega)
                have w2 : IntKind.i64.wrap ((v : Int) + 1 - 1) = v := by rw [Int.add_sub_cancel]; exact w1
                have w3' : (v : Int) < dn := by omega
                have w4 : (0 : Int) ≤ (v : Int) := by omega
                clear HPI p0 hi0
                by_cases hff : df ≤ yf
                · obtain rfl : Y = 7 := by rw [HEI1.out, if_pos ⟨by omega, hff⟩]
                  obtain rfl : R = 7 := HST.out (by decide)
                  have hfd : decide (df ≤ yf) = true := decide_eq_true hff
                  clear HEI1 HST HNI HNX HSTOP HER3
                  skip
                  as_aux_lemma =>
                    go_wp2_with fail
                    go_quiet (fail)
                    go_wp2_with fail
                    go_ret
                    exact ⟨rfl, ext_drewN HBn.out⟩
                have hfd : decide (df ≤ yf) = false := decide_eq_false hff
                have HZ2 := Lib.hid (HNI.out (by rw [HEI1.out, if_neg (fun h => hff h.2)]))
                clear HEI1 HNI HST
                skip
                as_aux_lemma =>
                  go_wp2_with fail
                  go_quiet (fail)
                  go_wp2_with fail
                  go_roundw
                  case rel => exact ⟨v + 1 + 1, by omega, by go_num, HZ2.out, ext_drewN HB5.out⟩
                  case measure => simp [intOf]; omega
      obtain ⟨j, rfl⟩ : ∃ j, k = j + 1 := ⟨k - 1, by omega⟩
      have p0 := HPV.out (by omega)
      rw [Nat.add_sub_cancel] at p0
      have g0 := (HB3.out.cell (p := ⟨b, off + j * 3, none⟩) hb).trans p0
      have w1 : IntKind.i64.wrap (j : Int) = j := IntWalk.i64_in _ (by omega)
      have w2 : IntKind.i64.wrap ((j : Int) + 1 - 1) = j := by rw [Int.add_sub_cancel]; exact w1
      have w3' : (j : Int) < n := by omega
      have w4 : (0 : Int) ≤ (j : Int) := by omega
      clear HPV p0 hk0
      cases hls : Op.bytesLess qk ck
      · obtain rfl : X = 7 := by rw [HER1.out, if_pos ⟨by omega, hls⟩]
        obtain rfl : R = 7 := HSTOP.out (by decide)
        clear HER1 HSTOP HNX
        by_cases hxe : ck = qk
        · subst hxe
          skip
          as_aux_lemma =>
            go_wp2_with fail
            go_quiet (fail)
            go_wp2_with fail
            go_ret
            exact ⟨rfl, ext_drewN HB3.out⟩
        · have hx1 : Op.bytesLess ck qk = true := less_total qk ck hls (Ne.symm hxe)
          skip
          as_aux_lemma =>
            go_wp2_with fail
            go_quiet (fail)
            go_wp2_with fail
            go_ret
            exact ⟨rfl, ext_drewN HB3.out⟩
      have HER2 : Hid (X = if inB cl 1 100000 = false then 1
        else if 20 < dn then 2
        else firstErr (deckAtErr dk) dn) := by show _ = _; rw [HER1.out, if_neg (fun h => by rw [hls] at h; cases h.2)]
      obtain ⟨hx1, hx2⟩ := less_asym hls
      have hx3 : (ck == qk) = false := beq_eq_false_iff_ne.2 (fun e => hx2 e.symm)
      clear HER1 hx2
      skip
      as_aux_lemma =>
        go_wp2_with fail
        go_quiet (fail)
        go_wp2_with fail
        refine (within_c cl 1 100000 _).mono ?_
        rintro e w4 ⟨rfl, rfl⟩
        have HB3d : Hid (Below w.heap.size w (World.drewN w3 nq)) := ext_drewN HB3.out
        generalize inB cl 1 100000 = g2 at HER2 ⊢
        cases g2
        · obtain rfl : X = 1 := by rw [HER2.out, if_pos rfl]
          obtain rfl : R = 1 := HSTOP.out (by decide)
          clear HER2 HSTOP HNX
          skip
          as_aux_lemma =>
            go_wp2_with fail
            go_ret
            exact ⟨rfl, HB3d.out⟩
        by_cases hd20 : 20 < dn
        · obtain rfl : X = 2 := by rw [HER2.out, if_neg (by decide), if_pos hd20]
          obtain rfl : R = 2 := HSTOP.out (by decide)
          have hdI : (20 : Int) < dn := by omega
          clear HER2 HSTOP HNX
          skip
          as_aux_lemma =>
            go_wp2_with fail
            go_ret
            exact ⟨rfl, HB3d.out⟩
        have HER3 : Hid (X = firstErr (deckAtErr dk) dn) := by show _ = _; rw [HER2.out, if_neg (by decide), if_neg hd20]
        have hdI : ¬ (20 : Int) < dn := by omega
        clear HER2
        skip
        as_aux_lemma =>
          go_wp2_with fail
          clear hdI
          have HDR3 := Lib.hid (HDR.out.below HB3.out)
          obtain ⟨wo, rfl⟩ : ∃ wo : World, wo = w3 := ⟨_, rfl⟩
          go_loopw [50] (fun it wr => ∃ i : Nat, i ≤ dn ∧ it = .int .i64 i ∧ Hid (∀ j, j < i → deckAtErr dk j = 0) ∧ Hid (Below wo.heap.size wo wr)) (fun it _ => dn - (intOf it).toNat)
          case atStart => exact ⟨0, Nat.zero_le _, rfl, fun j hj => by omega, ext_drewN (Below.refl _ _)⟩
          case round =>
            obtain ⟨i, hi, rfl, HZ, HB⟩ := hrel
            by_cases hlt2 : i < dn
            case neg =>
              obtain rfl : i = dn := by omega
              have HZ2 := Lib.hid (HNX.out (by rw [HER3.out]; exact first_none HZ.out))
              have HBn := Lib.hid (ext_trans HB3.out HB.out)
              clear HER3 HNX HSTOP HZ
              skip
              as_aux_lemma =>
                go_wp2_with fail
                go_roundw
                case rel => exact ⟨j + 1 + 1, by omega, by go_num, HZ2.out, HBn.out⟩
                case measure => simp [intOf]; omega
            obtain ⟨b2, off2, rfl, hb2, hc⟩ := HDR3.out.at (by omega)
            have HCC := Lib.hid hc
            obtain ⟨q0, q1, q2, q3, q4⟩ := hc i hlt2
            have c0 := (HB.out.cell (p := ⟨b2, off2 + i * 5, none⟩) hb2).trans q0
            have c1 := (HB.out.cell (p := ⟨b2, off2 + i * 5 + 1, none⟩) hb2).trans q1
            have c2 := (HB.out.cell (p := ⟨b2, off2 + i * 5 + 2, none⟩) hb2).trans q2
            have c3 := (HB.out.cell (p := ⟨b2, off2 + i * 5 + 3, none⟩) hb2).trans q3
            have c4 := (HB.out.cell (p := ⟨b2, off2 + i * 5 + 4, none⟩) hb2).trans q4
            have d2 := (HB.out.cell (p := ⟨T, 2, none⟩) hz3).trans e2
            have HFI : Hid (DeckFine wr (dk.getD i noDeck)) := (HDR3.out.each i (by rw [← HDL.out]; exact hlt2)).below HB.out
            have HEI : Hid (deckAtErr dk i = if deckErr (dk.getD i noDeck) ≠ 0 then deckErr (dk.getD i noDeck) else if 0 < i ∧ (dk.getD i noDeck).from_ ≤ (dk.getD (i - 1) noDeck).from_ then 7 else 0) := rfl
            have HST : Hid (deckAtErr dk i ≠ 0 → R = deckAtErr dk i) := fun h => by
              have h9 := first_some (f := deckAtErr dk) HZ.out hlt2 h
              rw [HSTOP.out (by rw [HER3.out, h9]; exact h), HER3.out, h9]
            have HNI : Hid (deckAtErr dk i = 0 → ∀ j, j < i + 1 → deckAtErr dk j = 0) := fun h j hj => by
              rcases Nat.lt_succ_iff_lt_or_eq.1 hj with h9 | rfl
              · exact HZ.out j h9
              · exact h
            have HPI : Hid (0 < i → wo.cell? ⟨b2, off2 + (i - 1) * 5, none⟩ = some (.int .i64 (dk.getD (i - 1) noDeck).from_)) := fun h => (HCC.out (i - 1) (by omega)).1
            clear q0 q1 q2 q3 q4 hc HCC HZ
            generalize deckAtErr dk i = Y at HEI HST HNI
            generalize dk.getD i noDeck = d at c0 c1 c2 c3 c4 HFI HEI
            generalize dk.getD (i - 1) noDeck = y at HEI HPI
            obtain ⟨df, ds, dl, dp, ra, rn, rc, rates⟩ := d
            obtain ⟨yf, ys, yl, yp, ya, yn, yc, yrates⟩ := y
            simp only at c0 c1 c2 c3 c4 HEI HPI
            have HDV : Hid (∀ W, DeckFine W ⟨df, ds, dl, dp, ra, rn, rc, rates⟩ → Calls Tryz.prog 68 #[.agg #[.int .i64 df, .int .i64 ds, .int .i64 dl, .int .i64 dp, .slice ra rn rc]] W (ErrPost (deckErr ⟨df, ds, dl, dp, ra, rn, rc, rates⟩) W)) := fun W h => checkDeck_any W _ h
            generalize deckErr ⟨df, ds, dl, dp, ra, rn, rc, rates⟩ = E at HEI HDV
            as_aux_lemma =>
              go_wp2_with fail
              refine (HDV.out _ (HFI.out.below (ext_alloc (Below.refl _ _)))).mono ?_
              rintro e w5 ⟨rfl, hb5⟩
              obtain ⟨qc9, qf⟩ := bcell hb5
              have hz5 : wr.heap.size < w5.heap.size := by have := hb5.size; simp at this; omega
              have f0 : w5.cell? ⟨wr.heap.size, 0, none⟩ = some (.int .i64 df) := (qc9 _ 0 (by simp)).trans (by go_simp)
              have HB5 : Hid (Below wo.heap.size wo w5) := ext_trans (ext_alloc HB.out) hb5
              have HBn := Lib.hid (ext_trans HB3.out HB5.out)
              have d2 := (HB5.out.cell (p := ⟨T, 2, none⟩) hz3).trans e2
              generalize wr.heap.size = T2 at f0 hz5 ⊢
              clear qc9 qf hb5 c0 c1 c2 c3 c4 HDV HFI
              by_cases hE : E = 0
              case neg =>
                have hEb : (E != 0) = true := by simp [hE]
                obtain rfl : Y = E := by rw [HEI.out, if_pos hE]
                obtain rfl : R = Y := HST.out hE
                clear HEI HST HNI HPI HNX HSTOP HER3
                skip
                as_aux_lemma =>
                  go_wp2_with fail
                  go_ret
                  exact ⟨rfl, HBn.out⟩
              subst hE
              have HEI1 : Hid (Y = if 0 < i ∧ df ≤ yf then 7 else 0) := by show _ = _; rw [HEI.out, if_neg (by simp)]
              clear HEI
              by_cases hi0 : i = 0
              · subst hi0
                have HZ2 := Lib.hid (HNI.out (by rw [HEI1.out, if_neg (fun h => by omega)]))
                clear HEI1 HNI HST HPI
                skip
                as_aux_lemma =>
                  go_wp2_with fail
                  go_quiet (fail)
                  go_wp2_with fail
                  go_roundw
                  case rel => exact ⟨1, by omega, by go_num, HZ2.out, ext_drewN HB5.out⟩
                  case measure => simp [intOf]; omega
              obtain ⟨v, rfl⟩ : ∃ v, i = v + 1 := ⟨i - 1, by omega⟩
              have p0 := HPI.out (by omega)
              rw [Nat.add_sub_cancel] at p0
              have g0 := (HB5.out.cell (p := ⟨b2, off2 + v * 5, none⟩) hb2).trans p0
              have w1 : IntKind.i64.wrap (v : Int) = v := IntWalk.i64_in _ (by omega)
              have w2 : IntKind.i64.wrap ((v : Int) + 1 - 1) = v := by rw [Int.add_sub_cancel]; exact w1
              have w3' : (v : Int) < dn := by omega
              have w4 : (0 : Int) ≤ (v : Int) := by omega
              clear HPI p0 hi0
              by_cases hff : df ≤ yf
              · obtain rfl : Y = 7 := by rw [HEI1.out, if_pos ⟨by omega, hff⟩]
                obtain rfl : R = 7 := HST.out (by decide)
                have hfd : decide (df ≤ yf) = true := decide_eq_true hff
                clear HEI1 HST HNI HNX HSTOP HER3
                skip
                as_aux_lemma =>
                  go_wp2_with fail
                  go_quiet (fail)
                  go_wp2_with fail
                  go_ret
                  exact ⟨rfl, ext_drewN HBn.out⟩
              have hfd : decide (df ≤ yf) = false := decide_eq_false hff
              have HZ2 := Lib.hid (HNI.out (by rw [HEI1.out, if_neg (fun h => hff h.2)]))
              clear HEI1 HNI HST
              skip
              as_aux_lemma =>
                go_wp2_with fail
                go_quiet (fail)
                go_wp2_with fail
                go_roundw
                case rel => exact ⟨v + 1 + 1, by omega, by go_num, HZ2.out, ext_drewN HB5.out⟩
                case measure => simp [intOf]; omega
end Go.Proofs.YtppinnjdaoaddaaGreatDoor

set_option linter.unusedVariables false
set_option linter.unusedSimpArgs false
namespace Go.Proofs.YtppinnjdaoaddaaGreatDoor
open Go.RowKit

structure ShrRow (w : World) (a : Option Addr) (n : Nat) (l : List Shr) : Prop where
  cells : Cells w 2 a n (l.map Shr.cells)
  few : n ≤ 50
  each : ∀ i, i < l.length → (l.getD i noShr).c.length ≤ 100 ∧ -2000000000000 ≤ (l.getD i noShr).part ∧ (l.getD i noShr).part ≤ 2000000000000
theorem ShrRow.below {w w' : World} {a : Option Addr} {n : Nat} {l : List Shr} (h : ShrRow w a n l) (hb : Below w.heap.size w w') : ShrRow w' a n l := ⟨h.cells.below hb, h.few, h.each⟩
theorem ShrRow.len {w : World} {a : Option Addr} {n : Nat} {l : List Shr} (h : ShrRow w a n l) : n = l.length := by have := h.cells.len; simpa using this
theorem ShrRow.at {w : World} {a : Option Addr} {n : Nat} {l : List Shr} (h : ShrRow w a n l) (hn : 0 < n) : ∃ b off, a = some ⟨b, off, none⟩ ∧ b < w.heap.size ∧ ∀ i, i < n → w.cell? ⟨b, off + i * 2, none⟩ = some (.string ⟨(l.getD i noShr).c.toArray⟩) ∧ w.cell? ⟨b, off + i * 2 + 1, none⟩ = some (.int .i64 (l.getD i noShr).part) := by
  have hl := h.len
  rcases h.cells.row with h0 | ⟨b, off, ha, hb, hc⟩
  · omega
  · refine ⟨b, off, ha, hb, fun i hi => ?_⟩
    have k0 := hc i hi 0 (by omega)
    have k1 := hc i hi 1 (by omega)
    rw [getD_map Shr.cells l i noShr [] (by omega)] at k0 k1
    exact ⟨k0, k1⟩
theorem ShrRow.of_own {w : World} {base : Nat} {e : TypeId} {v : Value} {n : Nat} {l : List Shr} (h : w.ownsRow base e 2 v n ((l.map Shr.cells).flatten)) (hf : n ≤ 50) (he : ∀ i, i < l.length → (l.getD i noShr).c.length ≤ 100 ∧ -2000000000000 ≤ (l.getD i noShr).part ∧ (l.getD i noShr).part ≤ 2000000000000) : ∃ a c, v = .slice a n c ∧ n ≤ c ∧ ShrRow w a n l := by
  obtain ⟨a, c, rfl, hcs⟩ := Cells.of_own h (fun x hx => by obtain ⟨y, _, rfl⟩ := List.mem_map.1 hx; rfl) (by decide)
  exact ⟨a, c, rfl, (own_caps h).2, ⟨hcs, hf, he⟩⟩
structure RcdRow (w : World) (a : Option Addr) (n : Nat) (l : List Rcd) : Prop where
  cells : Cells w 8 a n (l.map Rcd.cells)
  few : n ≤ 100
  each : ∀ i, i < l.length → (l.getD i noRcd).id.length ≤ 100 ∧ (l.getD i noRcd).fr.length ≤ 100 ∧ (l.getD i noRcd).to_.length ≤ 100 ∧ (l.getD i noRcd).carrier.length ≤ 100 ∧ (-2000000000000 ≤ (l.getD i noRcd).at_ ∧ (l.getD i noRcd).at_ ≤ 2000000000000) ∧ (-2000000000000 ≤ (l.getD i noRcd).ring ∧ (l.getD i noRcd).ring ≤ 2000000000000) ∧ (-2000000000000 ≤ (l.getD i noRcd).talk ∧ (l.getD i noRcd).talk ≤ 2000000000000) ∧ (-2000000000000 ≤ (l.getD i noRcd).how ∧ (l.getD i noRcd).how ≤ 2000000000000)
theorem RcdRow.below {w w' : World} {a : Option Addr} {n : Nat} {l : List Rcd} (h : RcdRow w a n l) (hb : Below w.heap.size w w') : RcdRow w' a n l := ⟨h.cells.below hb, h.few, h.each⟩
theorem RcdRow.len {w : World} {a : Option Addr} {n : Nat} {l : List Rcd} (h : RcdRow w a n l) : n = l.length := by have := h.cells.len; simpa using this
theorem RcdRow.at {w : World} {a : Option Addr} {n : Nat} {l : List Rcd} (h : RcdRow w a n l) (hn : 0 < n) : ∃ b off, a = some ⟨b, off, none⟩ ∧ b < w.heap.size ∧ ∀ i, i < n → w.cell? ⟨b, off + i * 8, none⟩ = some (.string ⟨(l.getD i noRcd).id.toArray⟩) ∧ w.cell? ⟨b, off + i * 8 + 1, none⟩ = some (.string ⟨(l.getD i noRcd).fr.toArray⟩) ∧ w.cell? ⟨b, off + i * 8 + 2, none⟩ = some (.string ⟨(l.getD i noRcd).to_.toArray⟩) ∧ w.cell? ⟨b, off + i * 8 + 3, none⟩ = some (.int .i64 (l.getD i noRcd).at_) ∧ w.cell? ⟨b, off + i * 8 + 4, none⟩ = some (.int .i64 (l.getD i noRcd).ring) ∧ w.cell? ⟨b, off + i * 8 + 5, none⟩ = some (.int .i64 (l.getD i noRcd).talk) ∧ w.cell? ⟨b, off + i * 8 + 6, none⟩ = some (.int .i64 (l.getD i noRcd).how) ∧ w.cell? ⟨b, off + i * 8 + 7, none⟩ = some (.string ⟨(l.getD i noRcd).carrier.toArray⟩) := by
  have hl := h.len
  rcases h.cells.row with h0 | ⟨b, off, ha, hb, hc⟩
  · omega
  · refine ⟨b, off, ha, hb, fun i hi => ?_⟩
    have k0 := hc i hi 0 (by omega)
    have k1 := hc i hi 1 (by omega)
    have k2 := hc i hi 2 (by omega)
    have k3 := hc i hi 3 (by omega)
    have k4 := hc i hi 4 (by omega)
    have k5 := hc i hi 5 (by omega)
    have k6 := hc i hi 6 (by omega)
    have k7 := hc i hi 7 (by omega)
    rw [getD_map Rcd.cells l i noRcd [] (by omega)] at k0 k1 k2 k3 k4 k5 k6 k7
    exact ⟨k0, k1, k2, k3, k4, k5, k6, k7⟩
theorem RcdRow.of_own {w : World} {base : Nat} {e : TypeId} {v : Value} {n : Nat} {l : List Rcd} (h : w.ownsRow base e 8 v n ((l.map Rcd.cells).flatten)) (hf : n ≤ 100) (he : ∀ i, i < l.length → (l.getD i noRcd).id.length ≤ 100 ∧ (l.getD i noRcd).fr.length ≤ 100 ∧ (l.getD i noRcd).to_.length ≤ 100 ∧ (l.getD i noRcd).carrier.length ≤ 100 ∧ (-2000000000000 ≤ (l.getD i noRcd).at_ ∧ (l.getD i noRcd).at_ ≤ 2000000000000) ∧ (-2000000000000 ≤ (l.getD i noRcd).ring ∧ (l.getD i noRcd).ring ≤ 2000000000000) ∧ (-2000000000000 ≤ (l.getD i noRcd).talk ∧ (l.getD i noRcd).talk ≤ 2000000000000) ∧ (-2000000000000 ≤ (l.getD i noRcd).how ∧ (l.getD i noRcd).how ≤ 2000000000000)) : ∃ a c, v = .slice a n c ∧ n ≤ c ∧ RcdRow w a n l := by
  obtain ⟨a, c, rfl, hcs⟩ := Cells.of_own h (fun x hx => by obtain ⟨y, _, rfl⟩ := List.mem_map.1 hx; rfl) (by decide)
  exact ⟨a, c, rfl, (own_caps h).2, ⟨hcs, hf, he⟩⟩
end Go.Proofs.YtppinnjdaoaddaaGreatDoor

set_option linter.unusedVariables false
set_option linter.unusedSimpArgs false
namespace Go.Proofs.YtppinnjdaoaddaaGreatDoor
open Go.RowKit

set_option maxRecDepth 100000 in
set_option maxHeartbeats 4000000 in
theorem checkShr_any (w : World) (a : Option Addr) (n cap : Nat) (l : List Carr) (hl : CarrRow w a n l) (hcap : n ≤ cap) (a2 : Option Addr) (m cap2 : Nat) (s : List Shr) (hs : ShrRow w a2 m s) (hcap2 : m ≤ cap2) : Calls Tryz.prog 17 #[.slice a n cap, .slice a2 m cap2] w (ErrPost (shrE l s) w) := by
  have hlen := hs.len
  have hfew := hs.few
  have HCR := Lib.hid hl
  have HSR := Lib.hid hs
  have HSC := Lib.hid ((shares_cases l s).2 (by omega))
  have HX : Hid (shrE l s = if carrsErr l ≠ 0 then carrsErr l else sharesErr l s) := rfl
  generalize shrE l s = Z at HX ⊢
  clear hl hs
  generalize sharesErr l s = R at HSC HX ⊢
  rw [← hlen] at HSC
  have HLEN := Lib.hid hlen
  clear hlen
  have hbig : ¬ (50 : Int) < m := by omega
  go_enter Tryz.func17, Tryz.ntmps17
  go_wp2_with fail
  refine (checkCarr_any w a n cap l HCR.out hcap).mono ?_
  rintro e w0 ⟨rfl, hb0⟩
  have HB0 := Lib.hid hb0
  clear hb0
  generalize carrsErr l = C at HX ⊢
  by_cases hC : C = 0
  case neg =>
    have hCb : (C != 0) = true := by simp [hC]
    obtain rfl : Z = C := by rw [HX.out, if_pos hC]
    clear HX HSC
    as_aux_lemma =>
      go_wp2_with fail
      go_ret
      exact ⟨rfl, HB0.out⟩
  subst hC
  obtain rfl : R = Z := by rw [HX.out, if_neg (by simp)]
  clear HX
  as_aux_lemma =>
    go_wp2_with fail
    clear hbig
    go_loopw [6, 19] (fun sm it wr => ∃ k : Nat, k ≤ m ∧ sm = .int .i64 (partSum s k) ∧ it = .int .i64 k ∧ Hid (∀ j, j < k → shareErr l s j = 0) ∧ Hid (Below w.heap.size w wr)) (fun _ it _ => m - (intOf it).toNat)
    case atStart => exact ⟨0, Nat.zero_le _, rfl, rfl, fun j hj => by omega, HB0.out⟩
    case round =>
      obtain ⟨k, hk, rfl, rfl, HZ, HB⟩ := hrel
      obtain ⟨hP0, hP1⟩ := part_bound k HZ.out
      by_cases hlt : k < m
      case neg =>
        obtain rfl : k = m := by omega
        have HE := Lib.hid (HSC.out.2 HZ.out)
        clear HSC HZ
        generalize partSum s k = P at HE hP0 hP1 ⊢
        by_cases hp : P = 1000
        · obtain rfl : R = 0 := by rw [HE.out, if_neg (by simp [hp])]
          subst hp
          clear HE
          as_aux_lemma =>
            go_wp2_with fail
            go_ret
            exact ⟨rfl, HB.out⟩
        · obtain rfl : R = 16 := by rw [HE.out, if_pos hp]
          have hpb : (P != 1000) = true := by simp [hp]
          clear HE
          as_aux_lemma =>
            go_wp2_with fail
            go_ret
            exact ⟨rfl, HB.out⟩
      obtain ⟨b, off, rfl, hb, hc⟩ := HSR.out.at (by omega)
      have HCC := Lib.hid hc
      obtain ⟨q0, q1⟩ := hc k hlt
      have c0 := (HB.out.cell (p := ⟨b, off + k * 2, none⟩) hb).trans q0
      have c1 := (HB.out.cell (p := ⟨b, off + k * 2 + 1, none⟩) hb).trans q1
      obtain ⟨hcl, hp1, hp2⟩ := HSR.out.each k (by rw [← HLEN.out]; exact hlt)
      have HER : Hid (shareErr l s k = if hasC l (s.getD k noShr).c = false then 8
        else if 0 < k ∧ Op.bytesLess (s.getD (k - 1) noShr).c (s.getD k noShr).c = false then 7
        else if inB (s.getD k noShr).part 1 1000 = false then 1
        else 0) := rfl
      have HPS : Hid (partSum s (k + 1) = partSum s k + (s.getD k noShr).part) := rfl
      have HSTOP := Lib.hid (HSC.out.1 k hlt HZ.out)
      have HNX : Hid (shareErr l s k = 0 → ∀ j, j < k + 1 → shareErr l s j = 0) := fun h j hj => by
        rcases Nat.lt_succ_iff_lt_or_eq.1 hj with h9 | rfl
        · exact HZ.out j h9
        · exact h
      have HPV : Hid (0 < k → w.cell? ⟨b, off + (k - 1) * 2, none⟩ = some (.string ⟨(s.getD (k - 1) noShr).c.toArray⟩)) := fun h => (HCC.out (k - 1) (by omega)).1
      clear q0 q1 hc HZ HCC HSC
      generalize shareErr l s k = X at HER HSTOP HNX
      generalize s.getD k noShr = c at c0 c1 hcl hp1 hp2 HER HPS
      generalize s.getD (k - 1) noShr = q at HER HPV
      obtain ⟨cc, cp⟩ := c
      obtain ⟨qk, qp⟩ := q
      simp only at c0 c1 hcl hp1 hp2 HER HPS HPV
      generalize partSum s k = P at HPS hP0 hP1 ⊢
      have HID : Hid (idxC l cc < 0 ↔ hasC l cc = false) := idxC_neg
      have HFD : Hid (∀ W a n cap, CarrRow W a n l → Calls Tryz.prog 58 #[.slice a n cap, .string ⟨cc.toArray⟩] W fun e w' => e = .returned (.int .i64 (idxC l cc)) ∧ Below W.heap.size W w') := fun W a n cap h => find_any W a n cap l h cc
      generalize idxC l cc = D at HID HFD
      generalize hasC l cc = g1 at HID HER
      as_aux_lemma =>
        go_wp2_with fail
        refine (HFD.out _ a n cap (HCR.out.below (ext_alloc HB.out))).mono ?_
        rintro e w3 ⟨rfl, hb3⟩
        obtain ⟨qc9, qf⟩ := bcell hb3
        have hz3 : wr.heap.size < w3.heap.size := by have := hb3.size; simp at this; omega
        have e0 : w3.cell? ⟨wr.heap.size, 0, none⟩ = some (.string ⟨cc.toArray⟩) := (qc9 _ 0 (by simp)).trans (by go_simp)
        have e1 : w3.cell? ⟨wr.heap.size, 1, none⟩ = some (.int .i64 cp) := (qc9 _ 1 (by simp)).trans (by go_simp)
        have HB3 : Hid (Below w.heap.size w w3) := ext_trans (ext_alloc HB.out) hb3
        generalize wr.heap.size = T at e0 e1 hz3 ⊢
        clear qc9 qf hb3 c0 c1 HB HFD
        by_cases hD : D < 0
        · obtain rfl : X = 8 := by rw [HER.out, if_pos (HID.out.1 hD)]
          obtain rfl : R = 8 := HSTOP.out (by decide)
          clear HER HSTOP HNX HPV HID HPS
          skip
          as_aux_lemma =>
            go_wp2_with fail
            go_ret
            exact ⟨rfl, HB3.out⟩
        have HER1 : Hid (X = if 0 < k ∧ Op.bytesLess qk cc = false then 7
          else if inB cp 1 1000 = false then 1
          else 0) := by show _ = _; rw [HER.out, if_neg (fun h => hD (HID.out.2 h))]
        clear HER HID
        by_cases hk0 : k = 0
        · subst hk0
          have HER2 : Hid (X = if inB cp 1 1000 = false then 1
            else 0) := by show _ = _; rw [HER1.out, if_neg (fun h => by omega)]
          clear HER1 HPV
          skip
          as_aux_lemma =>
            go_wp2_with fail
            go_quiet (fail)
            go_wp2_with fail
            refine (within_c cp 1 1000 _).mono ?_
            rintro e w4 ⟨rfl, rfl⟩
            have HB3d : Hid (Below w.heap.size w (World.drewN w3 nq)) := ext_drewN HB3.out
            generalize inB cp 1 1000 = g2 at HER2 ⊢
            cases g2
            · obtain rfl : X = 1 := by rw [HER2.out, if_pos rfl]
              obtain rfl : R = 1 := HSTOP.out (by decide)
              clear HER2 HSTOP HNX HPS
              skip
              as_aux_lemma =>
                go_wp2_with fail
                go_ret
                exact ⟨rfl, HB3d.out⟩
            have HZ2 := Lib.hid (HNX.out (by rw [HER2.out, if_neg (by decide)]))
            have wp : IntKind.i64.wrap (P + cp) = P + cp := IntWalk.i64_in _ (by omega)
            clear HER2 HSTOP HNX
            skip
            as_aux_lemma =>
              go_wp2_with fail
              go_roundw
              case rel => exact ⟨0 + 1, by omega, by rw [HPS.out], by go_num, HZ2.out, HB3d.out⟩
              case measure => simp [intOf]; omega
        obtain ⟨j, rfl⟩ : ∃ j, k = j + 1 := ⟨k - 1, by omega⟩
        have p0 := HPV.out (by omega)
        rw [Nat.add_sub_cancel] at p0
        have g0 := (HB3.out.cell (p := ⟨b, off + j * 2, none⟩) hb).trans p0
        have w1 : IntKind.i64.wrap (j : Int) = j := IntWalk.i64_in _ (by omega)
        have w2 : IntKind.i64.wrap ((j : Int) + 1 - 1) = j := by rw [Int.add_sub_cancel]; exact w1
        have w3' : (j : Int) < m := by omega
        have w4 : (0 : Int) ≤ (j : Int) := by omega
        clear HPV p0 hk0
        cases hls : Op.bytesLess qk cc
        · obtain rfl : X = 7 := by rw [HER1.out, if_pos ⟨by omega, hls⟩]
          obtain rfl : R = 7 := HSTOP.out (by decide)
          clear HER1 HSTOP HNX HPS
          by_cases hxe : cc = qk
          · subst hxe
            skip
            as_aux_lemma =>
              go_wp2_with fail
              go_quiet (fail)
              go_wp2_with fail
              go_ret
              exact ⟨rfl, ext_drewN HB3.out⟩
          · have hx1 : Op.bytesLess cc qk = true := less_total qk cc hls (Ne.symm hxe)
            skip
            as_aux_lemma =>
              go_wp2_with fail
              go_quiet (fail)
              go_wp2_with fail
              go_ret
              exact ⟨rfl, ext_drewN HB3.out⟩
        have HER2 : Hid (X = if inB cp 1 1000 = false then 1
          else 0) := by show _ = _; rw [HER1.out, if_neg (fun h => by rw [hls] at h; cases h.2)]
        obtain ⟨hx1, hx2⟩ := less_asym hls
        have hx3 : (cc == qk) = false := beq_eq_false_iff_ne.2 (fun e => hx2 e.symm)
        clear HER1 hx2
        skip
        as_aux_lemma =>
          go_wp2_with fail
          go_quiet (fail)
          go_wp2_with fail
          refine (within_c cp 1 1000 _).mono ?_
          rintro e w4 ⟨rfl, rfl⟩
          have HB3d : Hid (Below w.heap.size w (World.drewN w3 nq)) := ext_drewN HB3.out
          generalize inB cp 1 1000 = g2 at HER2 ⊢
          cases g2
          · obtain rfl : X = 1 := by rw [HER2.out, if_pos rfl]
            obtain rfl : R = 1 := HSTOP.out (by decide)
            clear HER2 HSTOP HNX HPS
            skip
            as_aux_lemma =>
              go_wp2_with fail
              go_ret
              exact ⟨rfl, HB3d.out⟩
          have HZ2 := Lib.hid (HNX.out (by rw [HER2.out, if_neg (by decide)]))
          have wp : IntKind.i64.wrap (P + cp) = P + cp := IntWalk.i64_in _ (by omega)
          clear HER2 HSTOP HNX
          skip
          as_aux_lemma =>
            go_wp2_with fail
            go_roundw
            case rel => exact ⟨j + 1 + 1, by omega, by rw [HPS.out], by go_num, HZ2.out, HB3d.out⟩
            case measure => simp [intOf]; omega
end Go.Proofs.YtppinnjdaoaddaaGreatDoor

set_option linter.unusedVariables false
set_option linter.unusedSimpArgs false
namespace Go.Proofs.YtppinnjdaoaddaaGreatDoor
open Go.RowKit

def TurnPost (l : List Carr) (s : List Shr) (sent : List Int) (w : World) (e : Ending) (w' : World) : Prop :=
  e = .returned (.tuple #[.string ⟨(if turnE l s sent = 0 then turnK s sent else []).toArray⟩, .bool (decide (turnE l s sent = 0 ∧ s.length ≠ 0)), .int .i64 (turnE l s sent)]) ∧ Below w.heap.size w w'
theorem turn_bad {l : List Carr} {s : List Shr} {sent : List Int} {w w' : World} {E : Int} (h : turnE l s sent = E) (hE : E ≠ 0) (hb : Below w.heap.size w w') : TurnPost l s sent w (.returned (.tuple #[.string ⟨#[]⟩, .bool false, .int .i64 E])) w' := by
  unfold TurnPost
  rw [h, if_neg hE]
  refine ⟨?_, hb⟩
  rw [decide_eq_false (fun h => hE h.1)]
theorem turn_ok {l : List Carr} {s : List Shr} {sent : List Int} {w w' : World} {m : Nat} (hm : m = s.length) (h : turnE l s sent = 0) (hb : Below w.heap.size w w') : TurnPost l s sent w (.returned (.tuple #[.string ⟨(turnK s sent).toArray⟩, .bool (decide (0 < (m : Int))), .int .i64 0])) w' := by
  unfold TurnPost
  rw [h, if_pos rfl]
  refine ⟨?_, hb⟩
  rw [show decide ((0 : Int) = 0 ∧ s.length ≠ 0) = decide (0 < (m : Int)) from by congr 1; exact propext ⟨fun h => by omega, fun h => ⟨rfl, by omega⟩⟩]
theorem sent_bad {s : List Shr} {sent : List Int} {k : Nat} (hl : s.length = sent.length) (hk : k < sent.length) (h : inB (sent.getD k 0) 0 1000000000000 = false) : sentErr s sent = 1 := by
  unfold sentErr
  rw [if_neg (by simp [hl]), if_pos]
  rw [List.any_eq_true]
  refine ⟨sent.getD k 0, ?_, by rw [h]; rfl⟩
  rw [List.getD_eq_getElem?_getD, List.getElem?_eq_getElem hk]
  exact List.getElem_mem hk
theorem sent_ok {s : List Shr} {sent : List Int} (hl : s.length = sent.length) (h : ∀ j, j < sent.length → inB (sent.getD j 0) 0 1000000000000 = true) : sentErr s sent = 0 := by
  unfold sentErr
  rw [if_neg (by simp [hl]), if_neg]
  rw [List.any_eq_true]
  rintro ⟨x, hx, h2⟩
  obtain ⟨j, hj, rfl⟩ := List.getElem_of_mem hx
  have := h j hj
  rw [List.getD_eq_getElem?_getD, List.getElem?_eq_getElem hj] at this
  rw [show inB sent[j] 0 1000000000000 = true from this] at h2
  cases h2
theorem sum_few {l : List Int} : ∀ {k : Nat}, (∀ j, j < k → inB (l.getD j 0) 0 1000000000000 = true) → 0 ≤ sumTo l k ∧ sumTo l k ≤ 1000000000000 * k
  | 0, _ => by simp [sumTo]
  | k + 1, h => by
    have h1 := sum_few (k := k) (fun j hj => h j (by omega))
    have h2 := h k (by omega)
    unfold inB at h2
    simp only [Bool.and_eq_true, decide_eq_true_eq] at h2
    unfold sumTo
    omega

set_option maxRecDepth 100000 in
set_option maxHeartbeats 4000000 in
theorem turn_any (w : World) (a : Option Addr) (n cap : Nat) (l : List Carr) (hl : CarrRow w a n l) (hcap : n ≤ cap) (a2 : Option Addr) (m cap2 : Nat) (s : List Shr) (hs : ShrRow w a2 m s) (hcap2 : m ≤ cap2) (a3 : Option Addr) (q cap3 : Nat) (sent : List Int) (hn : IRow .i64 w a3 q sent) (hcap3 : q ≤ cap3) (hq : q ≤ 100) : Calls Tryz.prog 18 #[.slice a n cap, .slice a2 m cap2, .slice a3 q cap3] w (TurnPost l s sent w) := by
  have hfew := hs.few
  have hlf := hl.few
  have HLL := Lib.hid hl.len
  have HLEN := Lib.hid hs.len
  have HNL := Lib.hid hn.1
  have HCR := Lib.hid hl
  have HSW := Lib.hid hs
  have HNW := Lib.hid hn
  have HBAD : Hid (∀ E w', turnE l s sent = E → E ≠ 0 → Below w.heap.size w w' → TurnPost l s sent w (.returned (.tuple #[.string ⟨#[]⟩, .bool false, .int .i64 E])) w') := fun E w' h1 h2 h3 => turn_bad h1 h2 h3
  have HOK : Hid (∀ w', turnE l s sent = 0 → Below w.heap.size w w' → TurnPost l s sent w (.returned (.tuple #[.string ⟨(turnK s sent).toArray⟩, .bool (decide (0 < (m : Int))), .int .i64 0])) w') := fun w' h1 h2 => turn_ok HLEN.out h1 h2
  have HTD : Hid (turnE l s sent = if carrsErr l ≠ 0 then carrsErr l else if s.length ≠ 0 ∧ sharesErr l s ≠ 0 then sharesErr l s else sentErr s sent) := rfl
  have HSD : Hid (shrE l s = if carrsErr l ≠ 0 then carrsErr l else sharesErr l s) := rfl
  have HPK : Hid (carrsErr l = 0 → sharesErr l s = 0 → ∀ i, i < m → (s.getD i noShr).c ≠ [] ∧ 1 ≤ (s.getD i noShr).part ∧ (s.getD i noShr).part ≤ 1000) := fun h1 h2 i hi => shares_keys (by rw [← HLL.out]; exact hlf) h1 h2 (by rw [← HLEN.out]; exact hfew) i (by rw [← HLEN.out]; exact hi)
  rw [← HLEN.out] at HTD
  clear hl hs hn
  go_enter Tryz.func18, Tryz.ntmps18
  go_wp2_with fail
  refine (checkCarr_any w a n cap l HCR.out hcap).mono ?_
  rintro e w1 ⟨rfl, hb1⟩
  have HB1 := Lib.hid hb1
  clear hb1
  generalize carrsErr l = C at HTD HSD HPK ⊢
  by_cases hC : C = 0
  case neg =>
    have HX : Hid (turnE l s sent = C) := by show _ = _; rw [HTD.out, if_pos hC]
    have hCb : (C != 0) = true := by simp [hC]
    clear HTD HSD HPK
    as_aux_lemma =>
      go_wp2_with fail
      go_ret3
      exact HBAD.out C _ HX.out hC HB1.out
  subst hC
  by_cases hm0 : m = 0
  · have HTE : Hid (turnE l s sent = sentErr s sent) := by show _ = _; rw [HTD.out, if_neg (by simp), if_neg (fun h => h.1 hm0)]
    have HPT : Hid (∀ i, i < m → (s.getD i noShr).c ≠ [] ∧ 1 ≤ (s.getD i noShr).part ∧ (s.getD i noShr).part ≤ 1000) := fun i hi => by omega
    have HB2 := HB1
    obtain ⟨w2, rfl⟩ : ∃ w2 : World, w2 = w1 := ⟨_, rfl⟩
    clear HTD HSD HPK HB1
    have hmI : ¬ (0 : Int) < m := by omega
    have HSR0 := Lib.hid (HSW.out.below HB2.out)
    have HNR0 := Lib.hid (HNW.out.below HB2.out)
    clear HSW HNW
    by_cases hmq : q = m
    case neg =>
      have HX : Hid (turnE l s sent = 3) := by show _ = _; rw [HTE.out]; unfold sentErr; rw [if_pos (by rw [← HLEN.out, ← HNL.out]; exact fun h => hmq h.symm)]
      have hqb : ((q : Int) != (m : Int)) = true := by simp; omega
      clear HTE HPT HOK
      skip
      as_aux_lemma =>
        go_wp2_with fail
        go_ret3
        exact HBAD.out 3 _ HX.out (by decide) HB2.out
    subst hmq
    obtain ⟨w0, rfl⟩ : ∃ w0 : World, w0 = w2 := ⟨_, rfl⟩
    skip
    as_aux_lemma =>
      go_wp2_with fail
      go_loopw [11, 40] (fun al it wr => ∃ k : Nat, k ≤ q ∧ al = .int .i64 (sumTo sent k) ∧ it = .int .i64 k ∧ Hid (∀ j, j < k → inB (sent.getD j 0) 0 1000000000000 = true) ∧ wr = w0) (fun _ it _ => q - (intOf it).toNat)
      case atStart => exact ⟨0, Nat.zero_le _, rfl, rfl, fun j hj => by omega, rfl⟩
      case round =>
        obtain ⟨k, hk, rfl, rfl, HZ, rfl⟩ := hrel
        obtain ⟨hs0, hs1⟩ := sum_few HZ.out
        by_cases hlt : k < q
        · exact absurd hlt (by omega)
        · obtain rfl : k = q := by omega
          have HXT : Hid (∀ i, i < k → 0 ≤ sent.getD i 0 ∧ sent.getD i 0 ≤ 1000000000000) := fun i hi => by have := HZ.out i hi; unfold inB at this; simpa using this
          have HX0 : Hid (turnE l s sent = 0) := by
            show _ = _
            rw [HTE.out]
            exact sent_ok (by rw [← HLEN.out, ← HNL.out]) (fun j hj => HZ.out j (by rw [HNL.out]; exact hj))
          have HTK : Hid (turnK s sent = (turnTo s sent k).1) := by show turnK s sent = _; unfold turnK; rw [← HLEN.out]
          have HOK2 : Hid (∀ w', Below w.heap.size w w' → TurnPost l s sent w (.returned (.tuple #[.string ⟨(turnTo s sent k).1.toArray⟩, .bool (decide (0 < (k : Int))), .int .i64 0])) w') := fun w' h => by rw [← HTK.out]; exact HOK.out w' HX0.out h
          have HAA : Hid (∃ A, sumTo sent k = A) := ⟨_, rfl⟩
          obtain ⟨A, hAA⟩ := HAA.out
          rw [hAA] at hs0 hs1 ⊢
          have HAA := Lib.hid hAA
          have HSB : Hid (0 ≤ A ∧ A ≤ 1000000000000 * (k : Int)) := ⟨hs0, hs1⟩
          clear hs0 hs1 hAA HBAD HOK HTE HZ HTK HX0
          obtain ⟨m, rfl⟩ : ∃ m : Nat, m = k := ⟨_, rfl⟩
          have HSR := HSR0
          have HNR := HNR0
          obtain ⟨w0, rfl⟩ : ∃ w0 : World, w0 = wr := ⟨_, rfl⟩
          as_aux_lemma =>
            go_wp2_with fail
            obtain ⟨hA0, hA1⟩ := HSB.out
            have HTS : Hid (∀ k, k < m → behind s sent k = (s.getD k noShr).part * (A + 1) - 1000 * sent.getD k 0) := fun k hk => by unfold behind; rw [← HLEN.out, HAA.out]
            go_loopw [14, 15, 53] (fun bs ms it wr => ∃ k : Nat, k ≤ m ∧ it = .int .i64 k ∧ bs = .string ⟨(turnTo s sent k).1.toArray⟩ ∧ ms = .int .i64 (turnTo s sent k).2 ∧ Hid (Below w0.heap.size w0 wr)) (fun _ _ it _ => m - (intOf it).toNat)
            case atStart => exact ⟨0, Nat.zero_le _, rfl, rfl, rfl, Below.refl _ _⟩
            case round =>
              obtain ⟨k, hk, rfl, rfl, rfl, HB⟩ := hrel
              by_cases hlt : k < m
              case neg =>
                obtain rfl : k = m := by omega
                have HBE := Lib.hid (ext_trans HB2.out HB.out)
                as_aux_lemma =>
                  go_wp2_with fail
                  go_ret3
                  have := HOK2.out _ HBE.out
                  rw [decide_eq_false (show ¬ (0 : Int) < (k : Int) by omega)] at this
                  exact this

              exact absurd hlt (by omega)
  have HB2b : Hid (∀ W, Below w1.heap.size w1 W → Below w.heap.size w W) := fun W h => ext_trans HB1.out h
  have HSH := Lib.hid (checkShr_any w1 a n cap l (HCR.out.below HB1.out) hcap a2 m cap2 s (HSW.out.below HB1.out) hcap2)
  have HTD2 : Hid (turnE l s sent = if sharesErr l s ≠ 0 then sharesErr l s else sentErr s sent) := by
    show _ = _
    rw [HTD.out, if_neg (by simp)]
    congr 1
    exact propext ⟨fun h => h.2, fun h => ⟨hm0, h⟩⟩
  rw [HSD.out, if_neg (by simp)] at HSH
  clear HTD HSD
  have hmI : (0 : Int) < m := by omega
  skip
  as_aux_lemma =>
    go_wp2_with fail
    refine HSH.out.mono ?_
    rintro e w2 ⟨rfl, hb2⟩
    have HB2 := Lib.hid (HB2b.out _ hb2)
    clear hb2 HSH HB2b HB1
    generalize sharesErr l s = D at HTD2 HPK ⊢
    by_cases hD : D = 0
    case neg =>
      have HX : Hid (turnE l s sent = D) := by show _ = _; rw [HTD2.out, if_pos hD]
      have hDb : (D != 0) = true := by simp [hD]
      clear HTD2 HPK
      skip
      as_aux_lemma =>
        go_wp2_with fail
        go_ret3
        exact HBAD.out D _ HX.out hD HB2.out
    subst hD
    have HTE : Hid (turnE l s sent = sentErr s sent) := by show _ = _; rw [HTD2.out, if_neg (by simp)]
    have HPT := Lib.hid (HPK.out trivial rfl)
    clear HTD2 HPK
    have HSR0 := Lib.hid (HSW.out.below HB2.out)
    have HNR0 := Lib.hid (HNW.out.below HB2.out)
    clear HSW HNW
    by_cases hmq : q = m
    case neg =>
      have HX : Hid (turnE l s sent = 3) := by show _ = _; rw [HTE.out]; unfold sentErr; rw [if_pos (by rw [← HLEN.out, ← HNL.out]; exact fun h => hmq h.symm)]
      have hqb : ((q : Int) != (m : Int)) = true := by simp; omega
      clear HTE HPT HOK
      skip
      as_aux_lemma =>
        go_wp2_with fail
        go_ret3
        exact HBAD.out 3 _ HX.out (by decide) HB2.out
    subst hmq
    obtain ⟨w0, rfl⟩ : ∃ w0 : World, w0 = w2 := ⟨_, rfl⟩
    skip
    as_aux_lemma =>
      go_wp2_with fail
      go_loopw [11, 40] (fun al it wr => ∃ k : Nat, k ≤ q ∧ al = .int .i64 (sumTo sent k) ∧ it = .int .i64 k ∧ Hid (∀ j, j < k → inB (sent.getD j 0) 0 1000000000000 = true) ∧ wr = w0) (fun _ it _ => q - (intOf it).toNat)
      case atStart => exact ⟨0, Nat.zero_le _, rfl, rfl, fun j hj => by omega, rfl⟩
      case round =>
        obtain ⟨k, hk, rfl, rfl, HZ, rfl⟩ := hrel
        obtain ⟨hs0, hs1⟩ := sum_few HZ.out
        by_cases hlt : k < q
        · obtain ⟨b3, off3, rfl, hb3, hc3⟩ := HNR0.out.2.resolve_left (by omega)
          have n0 := hc3 k hlt
          have HBD : Hid (inB (sent.getD k 0) 0 1000000000000 = false → turnE l s sent = 1) := fun h => by
            rw [HTE.out]
            exact sent_bad (by rw [← HLEN.out, ← HNL.out]) (by rw [← HNL.out]; exact hlt) h
          have HZN : Hid (inB (sent.getD k 0) 0 1000000000000 = true → ∀ j, j < k + 1 → inB (sent.getD j 0) 0 1000000000000 = true) := fun h j hj => by
            rcases Nat.lt_succ_iff_lt_or_eq.1 hj with h9 | rfl
            · exact HZ.out j h9
            · exact h
          have HSN : Hid (sumTo sent (k + 1) = sumTo sent k + sent.getD k 0) := rfl
          clear hc3 HZ HTE
          generalize sent.getD k 0 = x at n0 HSN HBD HZN
          generalize sumTo sent k = A at HSN hs0 hs1 ⊢
          as_aux_lemma =>
            go_wp2_with fail
            refine (within_c x 0 1000000000000 _).mono ?_
            rintro e w4 ⟨rfl, rfl⟩
            have HXB : Hid (inB x 0 1000000000000 = true → 0 ≤ x ∧ x ≤ 1000000000000) := fun h => by unfold inB at h; simpa using h
            generalize inB x 0 1000000000000 = g at HBD HZN HXB ⊢
            cases g
            · have HX := Lib.hid (HBD.out rfl)
              clear HBD HZN HXB HOK
              skip
              as_aux_lemma =>
                go_wp2_with fail
                go_ret3
                exact HBAD.out 1 _ HX.out (by decide) HB2.out
            · obtain ⟨hx1, hx2⟩ := HXB.out rfl
              have HZ2 := Lib.hid (HZN.out rfl)
              have w1 : IntKind.i64.wrap (A + x) = A + x := IntWalk.i64_in _ (by omega)
              clear HBD HZN HXB
              skip
              as_aux_lemma =>
                go_wp2_with fail
                go_roundw
                case rel => exact ⟨k + 1, by omega, by rw [HSN.out], by go_num, HZ2.out, trivial⟩
                case measure => simp [intOf]; omega
        · obtain rfl : k = q := by omega
          have HXT : Hid (∀ i, i < k → 0 ≤ sent.getD i 0 ∧ sent.getD i 0 ≤ 1000000000000) := fun i hi => by have := HZ.out i hi; unfold inB at this; simpa using this
          have HX0 : Hid (turnE l s sent = 0) := by
            show _ = _
            rw [HTE.out]
            exact sent_ok (by rw [← HLEN.out, ← HNL.out]) (fun j hj => HZ.out j (by rw [HNL.out]; exact hj))
          have HTK : Hid (turnK s sent = (turnTo s sent k).1) := by show turnK s sent = _; unfold turnK; rw [← HLEN.out]
          have HOK2 : Hid (∀ w', Below w.heap.size w w' → TurnPost l s sent w (.returned (.tuple #[.string ⟨(turnTo s sent k).1.toArray⟩, .bool (decide (0 < (k : Int))), .int .i64 0])) w') := fun w' h => by rw [← HTK.out]; exact HOK.out w' HX0.out h
          have HAA : Hid (∃ A, sumTo sent k = A) := ⟨_, rfl⟩
          obtain ⟨A, hAA⟩ := HAA.out
          rw [hAA] at hs0 hs1 ⊢
          have HAA := Lib.hid hAA
          have HSB : Hid (0 ≤ A ∧ A ≤ 1000000000000 * (k : Int)) := ⟨hs0, hs1⟩
          clear hs0 hs1 hAA HBAD HOK HTE HZ HTK HX0
          obtain ⟨m, rfl⟩ : ∃ m : Nat, m = k := ⟨_, rfl⟩
          have HSR := HSR0
          have HNR := HNR0
          obtain ⟨w0, rfl⟩ : ∃ w0 : World, w0 = wr := ⟨_, rfl⟩
          as_aux_lemma =>
            go_wp2_with fail
            obtain ⟨hA0, hA1⟩ := HSB.out
            have HTS : Hid (∀ k, k < m → behind s sent k = (s.getD k noShr).part * (A + 1) - 1000 * sent.getD k 0) := fun k hk => by unfold behind; rw [← HLEN.out, HAA.out]
            go_loopw [14, 15, 53] (fun bs ms it wr => ∃ k : Nat, k ≤ m ∧ it = .int .i64 k ∧ bs = .string ⟨(turnTo s sent k).1.toArray⟩ ∧ ms = .int .i64 (turnTo s sent k).2 ∧ Hid (Below w0.heap.size w0 wr)) (fun _ _ it _ => m - (intOf it).toNat)
            case atStart => exact ⟨0, Nat.zero_le _, rfl, rfl, rfl, Below.refl _ _⟩
            case round =>
              obtain ⟨k, hk, rfl, rfl, rfl, HB⟩ := hrel
              by_cases hlt : k < m
              case neg =>
                obtain rfl : k = m := by omega
                have HBE := Lib.hid (ext_trans HB2.out HB.out)
                as_aux_lemma =>
                  go_wp2_with fail
                  go_ret3
                  have := HOK2.out _ HBE.out
                  rw [decide_eq_true (show (0 : Int) < (k : Int) by omega)] at this
                  exact this

              obtain ⟨b, off, rfl, hb, hc⟩ := HSR.out.at (by omega)
              obtain ⟨q0, q1⟩ := hc k hlt
              have c0 := (HB.out.cell (p := ⟨b, off + k * 2, none⟩) hb).trans q0
              have c1 := (HB.out.cell (p := ⟨b, off + k * 2 + 1, none⟩) hb).trans q1
              obtain ⟨b3, off3, rfl, hb3, hc3⟩ := HNR.out.2.resolve_left (by omega)
              have n0 := (HB.out.cell (p := ⟨b3, off3 + k, none⟩) hb3).trans (hc3 k (by omega))
              obtain ⟨hne, hp1, hp2⟩ := HPT.out k hlt
              obtain ⟨hx1, hx2⟩ := HXT.out k (by omega)
              have HV := Lib.hid (HTS.out k hlt)
              have HTN : Hid (turnTo s sent (k + 1) = if k = 0 ∨ (turnTo s sent k).2 < behind s sent k then ((s.getD k noShr).c, behind s sent k) else turnTo s sent k) := rfl
              clear q0 q1 hc hc3
              have hb3w : b3 < wr.heap.size := Nat.lt_of_lt_of_le hb3 HB.out.size
              generalize behind s sent k = V at HV HTN
              generalize s.getD k noShr = c at c0 c1 hne hp1 hp2 HV HTN
              generalize sent.getD k 0 = x at n0 hx1 hx2 HV
              generalize turnTo s sent k = t1 at HTN ⊢
              obtain ⟨cc, cp⟩ := c
              obtain ⟨tb, tm⟩ := t1
              simp only at c0 c1 hne hp1 hp2 HV HTN
              have hM0 : 0 ≤ cp * (A + 1) := Int.mul_nonneg (by omega) (by omega)
              have hM1 : cp * (A + 1) ≤ 1000 * 1000000000000001 := Int.mul_le_mul hp2 (by omega) (by omega) (by omega)
              have w1 : IntKind.i64.wrap (A + 1) = A + 1 := IntWalk.i64_in _ (by omega)
              have w2 : IntKind.i64.wrap (cp * (A + 1)) = cp * (A + 1) := IntWalk.i64_in _ (by omega)
              have w3 : IntKind.i64.wrap (1000 * x) = 1000 * x := IntWalk.i64_in _ (by omega)
              have w4 : IntKind.i64.wrap (cp * (A + 1) - 1000 * x) = V := by rw [HV.out]; exact IntWalk.i64_in _ (by omega)
              clear HV
              as_aux_lemma =>
                go_wp2_with fail
                go_quiet (fail)
                have HBA : Hid (Below w0.heap.size w0 (wr.alloc (.cells #[.string ⟨cc.toArray⟩, .int .i64 cp] 110))) := ext_alloc HB.out
                by_cases hk0 : k = 0
                · subst hk0
                  have HT2 : Hid (turnTo s sent (0 + 1) = (cc, V)) := by show _ = _; rw [HTN.out, if_pos (Or.inl rfl)]
                  clear HTN
                  as_aux_lemma =>
                    go_wp2_with fail
                    go_roundw
                    case rel => exact ⟨1, by omega, by go_num, by rw [HT2.out], by rw [HT2.out], ext_drewN HBA.out⟩
                    case measure => simp [intOf]; omega
                · have hkb : ((k : Int) == 0) = false := by simp; omega
                  by_cases hlt2 : tm < V
                  · have HT2 : Hid (turnTo s sent (k + 1) = (cc, V)) := by show _ = _; rw [HTN.out, if_pos (Or.inr hlt2)]
                    clear HTN
                    as_aux_lemma =>
                      go_wp2_with fail
                      go_roundw
                      case rel => exact ⟨k + 1, by omega, by go_num, by rw [HT2.out], by rw [HT2.out], ext_drewN HBA.out⟩
                      case measure => simp [intOf]; omega
                  · have HT2 : Hid (turnTo s sent (k + 1) = (tb, tm)) := by show _ = _; rw [HTN.out, if_neg (fun h => h.elim hk0 hlt2)]
                    clear HTN
                    as_aux_lemma =>
                      go_wp2_with fail
                      go_roundw
                      case rel => exact ⟨k + 1, by omega, by go_num, by rw [HT2.out], by rw [HT2.out], ext_drewN HBA.out⟩
                      case measure => simp [intOf]; omega
end Go.Proofs.YtppinnjdaoaddaaGreatDoor

set_option linter.unusedVariables false
set_option linter.unusedSimpArgs false
namespace Go.Proofs.YtppinnjdaoaddaaGreatDoor
open Go.RowKit

def PartsOk (s : List Shr) : Prop := ∀ i, i < s.length → (s.getD i noShr).c ≠ [] ∧ 1 ≤ (s.getD i noShr).part ∧ (s.getD i noShr).part ≤ 1000
def SentOk (sent : List Int) : Prop := ∀ i, i < sent.length → 0 ≤ sent.getD i 0 ∧ sent.getD i 0 ≤ 1000000000000
set_option maxRecDepth 100000 in
set_option maxHeartbeats 4000000 in
theorem turnOf_any (w : World) (a2 : Option Addr) (m cap2 : Nat) (s : List Shr) (hs : ShrRow w a2 m s) (hcap2 : m ≤ cap2) (a3 : Option Addr) (q cap3 : Nat) (sent : List Int) (hn : IRow .i64 w a3 q sent) (hcap3 : q ≤ cap3) (hqm : q = m) (hpt : PartsOk s) (hxt : SentOk sent) : Calls Tryz.prog 20 #[.slice a2 m cap2, .slice a3 q cap3] w fun e w' => e = .returned (.string ⟨(turnK s sent).toArray⟩) ∧ Below w.heap.size w w' := by
  subst hqm
  have hfew := hs.few
  have HLEN := Lib.hid hs.len
  have HNL := Lib.hid hn.1
  have HSR0 := Lib.hid hs
  have HNR0 := Lib.hid hn
  have HPT : Hid (∀ i, i < q → (s.getD i noShr).c ≠ [] ∧ 1 ≤ (s.getD i noShr).part ∧ (s.getD i noShr).part ≤ 1000) := fun i hi => hpt i (by rw [← HLEN.out]; exact hi)
  have HXT : Hid (∀ i, i < q → 0 ≤ sent.getD i 0 ∧ sent.getD i 0 ≤ 1000000000000) := fun i hi => hxt i (by rw [← HNL.out]; exact hi)
  have HSB0 := Lib.hid (sum_bound hxt)
  have HTK : Hid (turnK s sent = (turnTo s sent q).1) := by show turnK s sent = _; unfold turnK; rw [← HLEN.out]
  have HSO0 : Hid (∀ k, k ≤ q → ((turnTo s sent k).1 = [] ↔ k = 0)) := fun k hk => turn_some (fun i hi => (hpt i hi).1) k (by rw [← HLEN.out]; exact hk)
  rw [HTK.out]
  clear hs hn hpt hxt HTK
  obtain ⟨w0, rfl⟩ : ∃ w0 : World, w0 = w := ⟨_, rfl⟩
  go_enter Tryz.func20, Tryz.ntmps20
  go_wp2_with fail
  go_loopw [5, 15] (fun al it wr => ∃ k : Nat, k ≤ q ∧ al = .int .i64 (sumTo sent k + 1) ∧ it = .int .i64 k ∧ wr = w0) (fun _ it _ => q - (intOf it).toNat)
  case atStart => exact ⟨0, Nat.zero_le _, rfl, rfl, rfl⟩
  case round =>
    obtain ⟨k, hk, rfl, rfl, rfl⟩ := hrel
    obtain ⟨hs0, hs1⟩ := HSB0.out k (by rw [← HNL.out]; exact hk)
    by_cases hlt : k < q
    · obtain ⟨b3, off3, rfl, hb3, hc3⟩ := HNR0.out.2.resolve_left (by omega)
      have n0 := hc3 k hlt
      obtain ⟨hx1, hx2⟩ := HXT.out k hlt
      have HSN : Hid (sumTo sent (k + 1) = sumTo sent k + sent.getD k 0) := rfl
      clear hc3
      generalize sent.getD k 0 = x at n0 hx1 hx2 HSN
      generalize sumTo sent k = A at HSN hs0 hs1 ⊢
      have w1 : IntKind.i64.wrap (A + 1 + x) = A + 1 + x := IntWalk.i64_in _ (by omega)
      as_aux_lemma =>
        go_wp2_with fail
        go_roundw
        case rel => exact ⟨k + 1, by omega, by rw [HSN.out]; congr 1; omega, by go_num, trivial⟩
        case measure => simp [intOf]; omega
    · obtain rfl : k = q := by omega
      have HAA : Hid (∃ A, sumTo sent k = A) := ⟨_, rfl⟩
      obtain ⟨A, hAA⟩ := HAA.out
      rw [hAA] at hs0 hs1 ⊢
      have HAA := Lib.hid hAA
      have HSB : Hid (0 ≤ A ∧ A ≤ 1000000000000 * (k : Int)) := ⟨hs0, hs1⟩
      clear hs0 hs1 hAA HSB0
      obtain ⟨m, rfl⟩ : ∃ m : Nat, m = k := ⟨_, rfl⟩
      have HSR := HSR0
      have HNR := HNR0
      obtain ⟨w0, rfl⟩ : ∃ w0 : World, w0 = wr := ⟨_, rfl⟩
      as_aux_lemma =>
        go_wp2_with fail
        obtain ⟨hA0, hA1⟩ := HSB.out
        have HTS : Hid (∀ k, k < m → behind s sent k = (s.getD k noShr).part * (A + 1) - 1000 * sent.getD k 0) := fun k hk => by unfold behind; rw [← HLEN.out, HAA.out] 
        go_loopw [6, 7, 25] (fun ms bs it wr => ∃ k : Nat, k ≤ m ∧ it = .int .i64 k ∧ bs = .string ⟨(turnTo s sent k).1.toArray⟩ ∧ ms = .int .i64 (turnTo s sent k).2 ∧ Hid (Below w0.heap.size w0 wr)) (fun _ _ it _ => m - (intOf it).toNat)
        case atStart => exact ⟨0, Nat.zero_le _, rfl, rfl, rfl, Below.refl _ _⟩
        case round =>
          obtain ⟨k, hk, rfl, rfl, rfl, HB⟩ := hrel
          by_cases hlt : k < m
          case neg =>
            obtain rfl : k = m := by omega
            as_aux_lemma =>
              go_wp2_with fail
              go_ret
              exact ⟨rfl, HB.out⟩

          obtain ⟨b, off, rfl, hb, hc⟩ := HSR.out.at (by omega)
          obtain ⟨q0, q1⟩ := hc k hlt
          have c0 := (HB.out.cell (p := ⟨b, off + k * 2, none⟩) hb).trans q0
          have c1 := (HB.out.cell (p := ⟨b, off + k * 2 + 1, none⟩) hb).trans q1
          obtain ⟨b3, off3, rfl, hb3, hc3⟩ := HNR.out.2.resolve_left (by omega)
          have n0 := (HB.out.cell (p := ⟨b3, off3 + k, none⟩) hb3).trans (hc3 k (by omega))
          obtain ⟨hne, hp1, hp2⟩ := HPT.out k hlt
          obtain ⟨hx1, hx2⟩ := HXT.out k (by omega)
          have HV := Lib.hid (HTS.out k hlt)
          have HTN : Hid (turnTo s sent (k + 1) = if k = 0 ∨ (turnTo s sent k).2 < behind s sent k then ((s.getD k noShr).c, behind s sent k) else turnTo s sent k) := rfl
          have HSO := Lib.hid (HSO0.out k (by omega))
          clear q0 q1 hc hc3
          have hb3w : b3 < wr.heap.size := Nat.lt_of_lt_of_le hb3 HB.out.size
          generalize behind s sent k = V at HV HTN
          generalize s.getD k noShr = c at c0 c1 hne hp1 hp2 HV HTN
          generalize sent.getD k 0 = x at n0 hx1 hx2 HV
          generalize turnTo s sent k = t1 at HTN HSO ⊢
          obtain ⟨cc, cp⟩ := c
          obtain ⟨tb, tm⟩ := t1
          simp only at c0 c1 hne hp1 hp2 HV HTN
          have hM0 : 0 ≤ cp * (A + 1) := Int.mul_nonneg (by omega) (by omega)
          have hM1 : cp * (A + 1) ≤ 1000 * 1000000000000001 := Int.mul_le_mul hp2 (by omega) (by omega) (by omega)
          have w1 : IntKind.i64.wrap (A + 1) = A + 1 := IntWalk.i64_in _ (by omega)
          have w2 : IntKind.i64.wrap (cp * (A + 1)) = cp * (A + 1) := IntWalk.i64_in _ (by omega)
          have w3 : IntKind.i64.wrap (1000 * x) = 1000 * x := IntWalk.i64_in _ (by omega)
          have w4 : IntKind.i64.wrap (cp * (A + 1) - 1000 * x) = V := by rw [HV.out]; exact IntWalk.i64_in _ (by omega)
          clear HV
          as_aux_lemma =>
            go_wp2_with fail
            go_quiet (fail)
            have HBA : Hid (Below w0.heap.size w0 (wr.alloc (.cells #[.string ⟨cc.toArray⟩, .int .i64 cp] 110))) := ext_alloc HB.out
            by_cases hk0 : k = 0
            · have htb : tb = [] := HSO.out.2 hk0
              subst htb
              subst hk0
              have HT2 : Hid (turnTo s sent (0 + 1) = (cc, V)) := by show _ = _; rw [HTN.out, if_pos (Or.inl rfl)]
              clear HTN HSO
              as_aux_lemma =>
                go_wp2_with fail
                go_quiet (fail)
                go_wp2_with fail
                go_roundw
                case rel => exact ⟨1, by omega, by go_num, by rw [HT2.out], by rw [HT2.out], ext_drewN HBA.out⟩
                case measure => simp [intOf]; omega
            · have htb : tb ≠ [] := fun h => hk0 (HSO.out.1 h)
              obtain ⟨z, tb, rfl⟩ : ∃ z r, tb = z :: r := by
                cases tb with
                | nil => exact absurd rfl htb
                | cons z r => exact ⟨z, r, rfl⟩
              clear htb HSO
              by_cases hlt2 : tm < V
              · have HT2 : Hid (turnTo s sent (k + 1) = (cc, V)) := by show _ = _; rw [HTN.out, if_pos (Or.inr hlt2)]
                clear HTN
                as_aux_lemma =>
                  go_wp2_with fail
                  go_quiet (fail)
                  go_wp2_with fail
                  go_roundw
                  case rel => exact ⟨k + 1, by omega, by go_num, by rw [HT2.out], by rw [HT2.out], ext_drewN HBA.out⟩
                  case measure => simp [intOf]; omega
              · have HT2 : Hid (turnTo s sent (k + 1) = (z :: tb, tm)) := by show _ = _; rw [HTN.out, if_neg (fun h => h.elim hk0 hlt2)]
                clear HTN
                as_aux_lemma =>
                  go_wp2_with fail
                  go_roundw
                  case rel => exact ⟨k + 1, by omega, by go_num, by rw [HT2.out], by rw [HT2.out], ext_drewN HBA.out⟩
                  case measure => simp [intOf]; omega
end Go.Proofs.YtppinnjdaoaddaaGreatDoor
