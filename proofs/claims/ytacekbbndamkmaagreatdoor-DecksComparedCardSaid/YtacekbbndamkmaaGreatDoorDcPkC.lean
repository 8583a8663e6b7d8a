/- What is proved here: lemmas and contracts for the statement, put together out of smaller texts (OrErr, SplitPost, Numbered, PortSmall, CarrSmall, CarrLaw, CarrDeck, Blk, CarrRate, CarrRows, CarrMsrA, CarrPrice, CarrRfr, DkmMath). No condition beyond those stated. -/
import Derived.Test.YtacekbbndamkmaaGreatDoorDcPkB
import Derived.Test.YtacekbbndamkmaaGreatDoorDcPkA
import Derived.Deep.MidRow
import Derived.Maps.AppendAt
import Derived.Lib.ConvBytes
import Derived.Test.YtacekbbndamkmaaGreatDoorShelfPort
import Derived.Test.YtacekbbndamkmaaGreatDoorShelfCarr
import Derived.Deep.RegionWith
import Derived.StillTailTactics
import Derived.Test.YtacekbbndamkmaaGreatDoorShelfNum
set_option linter.unusedVariables false
set_option linter.unusedSimpArgs false
namespace Go.Proofs.YtacekbbndamkmaaGreatDoor
open Go.RowKit

def firstE (a b : Int) : Int := if a ≠ 0 then a else b
set_option maxRecDepth 100000 in
theorem or_any (a b : Int) (B : Nat) (w : World) (hB : B < w.heap.size) (h0 : w.cell? ⟨B, 0, none⟩ = some (.int .i64 a)) (h1 : w.cell? ⟨B, 1, none⟩ = some (.int .i64 b)) : Calls Tryz.prog 8 #[.slice (some ⟨B, 0, none⟩) 2 2] w fun r w' => r = .returned (.int .i64 (firstE a b)) ∧ w = w' := by
  by_cases ha : a = 0
  · subst ha
    by_cases hb : b = 0
    · subst hb
      go_enter Tryz.func8, Tryz.ntmps8
      go_wp2_with fail
      go_loopw [8] (fun i wr => ∃ k : Nat, k ≤ 2 ∧ i = .int .i64 k ∧ wr = w) (fun i _ => 2 - (intOf i).toNat)
      case atStart => exact ⟨0, by omega, rfl, rfl⟩
      case round =>
        obtain ⟨k, hk, rfl, rfl⟩ := hrel
        have hkc : k = 0 ∨ k = 1 ∨ k = 2 := by omega
        rcases hkc with rfl | rfl | rfl
        · go_wp2_with fail
          go_roundw
          case rel => exact ⟨1, by omega, by go_num, trivial⟩
          case measure => simp [intOf]
        · go_wp2_with fail
          go_roundw
          case rel => exact ⟨2, by omega, by go_num, trivial⟩
          case measure => simp [intOf]
        · go_wp2_with fail
          go_ret
          exact ⟨rfl, rfl⟩
    · have hbb : (b == 0) = false := by simpa using hb
      go_enter Tryz.func8, Tryz.ntmps8
      go_wp2_with fail
      go_loopw [8] (fun i wr => ∃ k : Nat, k ≤ 1 ∧ i = .int .i64 k ∧ wr = w) (fun i _ => 2 - (intOf i).toNat)
      case atStart => exact ⟨0, by omega, rfl, rfl⟩
      case round =>
        obtain ⟨k, hk, rfl, rfl⟩ := hrel
        have hkc : k = 0 ∨ k = 1 := by omega
        rcases hkc with rfl | rfl
        · go_wp2_with fail
          go_roundw
          case rel => exact ⟨1, by omega, by go_num, trivial⟩
          case measure => simp [intOf]
        · go_wp2_with fail
          go_ret
          exact ⟨rfl, rfl⟩
  · have hab : (a == 0) = false := by simpa using ha
    have HF : Hid (firstE a b = a) := by show _ = _; unfold firstE; rw [if_pos ha]
    go_enter Tryz.func8, Tryz.ntmps8
    go_wp2_with fail
    go_loopw [8] (fun i wr => i = .int .i64 0 ∧ wr = w) (fun i _ => 0)
    case atStart => exact ⟨rfl, rfl⟩
    case round =>
      obtain ⟨rfl, rfl⟩ := hrel
      go_wp2_with fail
      go_ret
      exact ⟨by rw [HF.out]; rfl, rfl⟩

end Go.Proofs.YtacekbbndamkmaaGreatDoor

set_option linter.unusedVariables false
set_option linter.unusedSimpArgs false
namespace Go.Proofs.YtacekbbndamkmaaGreatDoor
open Go.RowKit

def PartsPost (x : Spl) (w : World) (e : Ending) (w' : World) : Prop := e = .returned (.tuple #[.agg #[.string ⟨x.code.toArray⟩, .string ⟨x.area.toArray⟩, .string ⟨x.rest.toArray⟩], .int .i64 x.err]) ∧ Below w.heap.size w w'
theorem row3 (w : World) (B : Nat) (v0 v1 v2 : Value) : ((w.setCell ⟨B, 0, none⟩ v0).setCell ⟨B, 1, none⟩ v1).setCell ⟨B, 2, none⟩ v2 = w.setCells B 0 [v0, v1, v2] := rfl
theorem there3 {w : World} {B : Nat} {v0 v1 v2 : Value} (h0 : w.cell? ⟨B, 0, none⟩ = some v0) (h1 : w.cell? ⟨B, 1, none⟩ = some v1) (h2 : w.cell? ⟨B, 2, none⟩ = some v2) (hf : ∀ j, w.frozen? ⟨B, j, none⟩ = false) : w.there B 0 3 := fun j hj => by
  match j, hj with
  | 0, _ => exact ⟨by rw [h0]; rfl, hf _⟩
  | 1, _ => exact ⟨by rw [h1]; rfl, hf _⟩
  | 2, _ => exact ⟨by rw [h2]; rfl, hf _⟩

end Go.Proofs.YtacekbbndamkmaaGreatDoor

set_option linter.unusedVariables false
set_option linter.unusedSimpArgs false
namespace Go.Proofs.YtacekbbndamkmaaGreatDoor
open Go.RowKit

theorem atoi_l (s : List UInt8) (n : Int) (hl : s.length ≤ 18) (h : Lib.atoi s = some n) (w : World) : Calls Tryz.prog 109 #[.string ⟨s.toArray⟩] w fun e w' => e = .returned (.tuple #[.int .i64 n, .nilIface]) ∧ Below w.heap.size w w' := (Tryz.strconv_Atoi ⟨s.toArray⟩ n hl h w).mono (fun e w' ⟨h1, t, h2⟩ => ⟨h1, by rw [h2]; exact ⟨rfl, rfl, rfl, by rw [Lib.bytesWorld_size]; omega, fun k hk => Lib.bytesWorld_at_old w _ _ k hk⟩⟩)

def r0S : List UInt8 := [43, 49, 48, 48, 48]
def r1S : List UInt8 := [43, 49, 48, 48, 57]
end Go.Proofs.YtacekbbndamkmaaGreatDoor

set_option linter.unusedVariables false
set_option linter.unusedSimpArgs false
namespace Go.Proofs.YtacekbbndamkmaaGreatDoor
open Go.RowKit

set_option maxRecDepth 100000 in
theorem orI_any (a b : Int) (B : Nat) (w : World) (hB : B < w.heap.size) (h0 : w.cell? ⟨B, 0, none⟩ = some (.int .i64 a)) (h1 : w.cell? ⟨B, 1, none⟩ = some (.int .i64 b)) : Calls Tryz.prog 57 #[.slice (some ⟨B, 0, none⟩) 2 2] w fun r w' => r = .returned (.int .i64 (firstE a b)) ∧ w = w' := by
  by_cases ha : a = 0
  · subst ha
    by_cases hb : b = 0
    · subst hb
      go_enter Tryz.func57, Tryz.ntmps57
      go_wp2_with fail
      go_loopw [8] (fun i wr => ∃ k : Nat, k ≤ 2 ∧ i = .int .i64 k ∧ wr = w) (fun i _ => 2 - (intOf i).toNat)
      case atStart => exact ⟨0, by omega, rfl, rfl⟩
      case round =>
        obtain ⟨k, hk, rfl, rfl⟩ := hrel
        have hkc : k = 0 ∨ k = 1 ∨ k = 2 := by omega
        rcases hkc with rfl | rfl | rfl
        · go_wp2_with fail
          go_roundw
          case rel => exact ⟨1, by omega, by go_num, trivial⟩
          case measure => simp [intOf]
        · go_wp2_with fail
          go_roundw
          case rel => exact ⟨2, by omega, by go_num, trivial⟩
          case measure => simp [intOf]
        · go_wp2_with fail
          go_ret
          exact ⟨rfl, rfl⟩
    · have hbb : (b == 0) = false := by simpa using hb
      have HF : Hid (firstE 0 b = b) := by show _ = _; unfold firstE; rw [if_neg (by simp)]
      go_enter Tryz.func57, Tryz.ntmps57
      go_wp2_with fail
      go_loopw [8] (fun i wr => ∃ k : Nat, k ≤ 1 ∧ i = .int .i64 k ∧ wr = w) (fun i _ => 2 - (intOf i).toNat)
      case atStart => exact ⟨0, by omega, rfl, rfl⟩
      case round =>
        obtain ⟨k, hk, rfl, rfl⟩ := hrel
        have hkc : k = 0 ∨ k = 1 := by omega
        rcases hkc with rfl | rfl
        · go_wp2_with fail
          go_roundw
          case rel => exact ⟨1, by omega, by go_num, trivial⟩
          case measure => simp [intOf]
        · go_wp2_with fail
          go_ret
          exact ⟨by rw [HF.out]; rfl, rfl⟩
  · have hab : (a == 0) = false := by simpa using ha
    have HF : Hid (firstE a b = a) := by show _ = _; unfold firstE; rw [if_pos ha]
    go_enter Tryz.func57, Tryz.ntmps57
    go_wp2_with fail
    go_loopw [8] (fun i wr => i = .int .i64 0 ∧ wr = w) (fun i _ => 0)
    case atStart => exact ⟨rfl, rfl⟩
    case round =>
      obtain ⟨rfl, rfl⟩ := hrel
      go_wp2_with fail
      go_ret
      exact ⟨by rw [HF.out]; rfl, rfl⟩

/-- The sign says how two things stand. -/
def SignPost (lt eq : Prop) (w : World) (e : Ending) (w' : World) : Prop := ∃ r : Int, e = .returned (.int .i64 r) ∧ (r < 0 ↔ lt) ∧ (r = 0 ↔ eq) ∧ w' = w
theorem cmpI_any (x y : Int) (w : World) : Calls Tryz.prog 58 #[.int .i64 x, .int .i64 y] w (SignPost (x < y) (x = y) w) := by
  refine (Tryz.cmp_Compare x y w).mono ?_
  rintro e w' ⟨rfl, rfl⟩
  refine ⟨_, rfl, ?_, ?_, rfl⟩ <;> unfold Lib.compareInt <;> split <;> first | omega | (split <;> omega)
theorem cmpB_any (x y : List UInt8) (w : World) : Calls Tryz.prog 59 #[.string ⟨x.toArray⟩, .string ⟨y.toArray⟩] w (SignPost (Op.bytesLess x y = true) (x = y) w) := by
  refine (Tryz.strings_Compare ⟨x.toArray⟩ ⟨y.toArray⟩ w).mono ?_
  rintro e w' ⟨rfl, rfl⟩
  exact ⟨_, rfl, cmp_neg x y, cmp_zero x y, rfl⟩
theorem nanS_any (x : List UInt8) (w : World) : Calls Tryz.prog 173 #[.string ⟨x.toArray⟩] w fun e w' => e = .returned (.bool false) ∧ w' = w := by
  go_enter Tryz.func173, Tryz.ntmps173
  go_wp2_with fail
  go_ret
  exact ⟨by first | rfl | simp, rfl⟩
theorem less_asym {x y : List UInt8} (h : Op.bytesLess x y = true) : Op.bytesLess y x = false ∧ x ≠ y := by
  refine ⟨?_, ?_⟩
  · cases h2 : Op.bytesLess y x with
    | false => rfl
    | true => rw [← less_irrefl x, ← less_trans h h2]
  · rintro rfl
    rw [less_irrefl] at h
    cases h
theorem first_sign {a b : Int} {P Q R : Prop} (h1 : a < 0 ↔ P) (h2 : a = 0 ↔ Q) (h3 : b < 0 ↔ R) : firstE a b < 0 ↔ (P ∨ Q ∧ R) := by
  unfold firstE
  rw [← h1, ← h2, ← h3]
  split <;> omega

theorem idxS (n : Nat) (hn : n < 256) : Lib.indexByte [97, 98, 99, 100, 101, 102, 103, 104, 105, 106, 107, 108, 109, 110, 111, 112, 113, 114, 115, 116, 117, 118, 119, 120, 121, 122] ((n : Int).toNat.toUInt8) = if 97 ≤ n ∧ n ≤ 122 then ((n - 97 : Nat) : Int) else -1 := by
  have : ∀ i : Fin 256, Lib.indexByte [97, 98, 99, 100, 101, 102, 103, 104, 105, 106, 107, 108, 109, 110, 111, 112, 113, 114, 115, 116, 117, 118, 119, 120, 121, 122] ((i.val : Int).toNat.toUInt8) = if 97 ≤ i.val ∧ i.val ≤ 122 then ((i.val - 97 : Nat) : Int) else -1 := by decide +kernel
  exact this ⟨n, hn⟩
theorem smallS (n : Nat) (hn : n < 256) (w : World) : Calls Tryz.prog 185 #[.string ⟨#[97, 98, 99, 100, 101, 102, 103, 104, 105, 106, 107, 108, 109, 110, 111, 112, 113, 114, 115, 116, 117, 118, 119, 120, 121, 122]⟩, .int .u8 n] w fun e w' => e = .returned (.int .i64 (if 97 ≤ n ∧ n ≤ 122 then ((n - 97 : Nat) : Int) else -1)) ∧ w' = w := by
  rw [← idxS n hn]
  exact Tryz.strings_IndexByte _ _ w
theorem formFault_any (l : List UInt8) (w : World) (hs : l.length ≤ 1000) : Calls Tryz.prog 28 #[.string ⟨l.toArray⟩] w (ErrPost (if isNumB l = true then 0 else 3) w) := by
  have HD := Lib.hid (fun W => form_l l W hs)
  generalize isNumB l = g at HD ⊢
  cases g <;>
  · go_enter Tryz.func28, Tryz.ntmps28
    go_wp2_with fail
    refine (HD.out _).mono ?_
    rintro e w1 ⟨rfl, hb1⟩
    have HB := Lib.hid hb1
    clear hb1
    go_wp2_with fail
    go_ret
    exact ⟨rfl, HB.out⟩
theorem momentFault_any (n : Int) (w : World) : Calls Tryz.prog 41 #[.int .i64 n] w (ErrPost (if isMomB n = true then 0 else 1) w) := by
  have HG : Hid ((decide (0 ≤ n) && decide (n ≤ 345686399999)) = isMomB n) := by
    show _ = _
    unfold isMomB
    congr 1
    congr 1
    exact propext (by omega)
  generalize isMomB n = g at HG ⊢
  cases g <;>
  · go_enter Tryz.func41, Tryz.ntmps41
    go_wp2_with fail
    refine (in_any _ 0 345686399999 _).mono ?_
    rintro e w1 ⟨rfl, rfl⟩
    rw [HG.out]
    go_wp2_with fail
    go_ret
    exact ⟨rfl, Below.refl _ _⟩
end Go.Proofs.YtacekbbndamkmaaGreatDoor

set_option linter.unusedVariables false
set_option linter.unusedSimpArgs false
namespace Go.Proofs.YtacekbbndamkmaaGreatDoor
open Go.RowKit

theorem within_c (n lo hi : Int) (w : World) : Calls Tryz.prog 55 #[.int .i64 n, .int .i64 lo, .int .i64 hi] w fun e w' => e = .returned (.bool (inB n lo hi)) ∧ w = w' := by
  unfold inB
  by_cases h1 : lo ≤ n
  · go_enter Tryz.func55, Tryz.ntmps55
    go_wp2
    go_ret
    exact ⟨by rw [decide_eq_true h1]; rfl, rfl⟩
  · go_enter Tryz.func55, Tryz.ntmps55
    go_wp2
    go_ret
    exact ⟨by rw [decide_eq_false (show ¬ lo ≤ n by omega)]; rfl, rfl⟩
instance : Inhabited Carr := ⟨noCarr⟩
def idxC (l : List Carr) (key : List UInt8) : Int := Lib.idxBy (fun _ (y : Carr) => decide (y.key = key)) l default
theorem idxC_has (l : List Carr) (key : List UInt8) : decide (0 ≤ idxC l key) = hasC l key := Lib.idxBy_nonneg_iff (fun _ (y : Carr) => decide (y.key = key)) l default
theorem idxC_neg {l : List Carr} {key : List UInt8} : idxC l key < 0 ↔ hasC l key = false := by
  rw [← idxC_has]
  simp
theorem pre48 (c : UInt8) (s : List UInt8) : Lib.hasPrefix (c :: s) [48] = (c == 48) := by
  by_cases h : c = 48
  · subst h; rfl
  · rw [beq_eq_false_iff_ne.2 h]
    have h2 : ((48 : UInt8) == c) = false := beq_eq_false_iff_ne.2 (Ne.symm h)
    show ((48 : UInt8) == c && List.isPrefixOf [] s) = false
    rw [h2]; rfl
theorem isPrefix_c (s : List UInt8) (w : World) (hs : s.length ≤ 1000000) : Calls Tryz.prog 65 #[.string ⟨s.toArray⟩] w fun e w' => e = .returned (.bool (preB s)) ∧ Below w.heap.size w w' := by
  have hcon := fun w => trim_digits ⟨s.toArray⟩ w (by show s.length ≤ _; omega)
  have hd : Hid (preB s = (decide ((s.length : Int) ≤ 15) && ((Lib.trimS s digitSet).isEmpty && !(Lib.hasPrefix s [48])))) := by
    show preB s = _
    have h0 : decide ((0 : Int) ≤ (s.length : Int)) = true := by simp
    unfold preB digitsB allIn
    rw [h0, Bool.true_and, Bool.and_assoc]
  have hcon : ∀ w, Calls Tryz.prog 85 #[.string ⟨s.toArray⟩, .string ⟨#[48, 49, 50, 51, 52, 53, 54, 55, 56, 57]⟩] w fun e w' => e = .returned (.string ⟨(Lib.trimS s digitSet).toArray⟩) ∧ Below w.heap.size w w' := hcon
  have HCON := Lib.hid hcon
  clear hcon
  generalize Lib.trimS s digitSet = r at HCON hd
  generalize preB s = R at hd ⊢
  by_cases hl : (s.length : Int) ≤ 15
  case neg =>
    have HF : Hid (R = false) := by show _ = _; rw [hd.out, decide_eq_false hl]; rfl
    clear hd
    go_enter Tryz.func65, Tryz.ntmps65
    go_wp2_with fail
    go_ret
    exact ⟨by rw [HF.out]; rfl, Below.refl _ _⟩
  rw [decide_eq_true hl, Bool.true_and] at hd
  cases r with
  | cons x r' =>
    have HF : Hid (R = false) := hd.out
    clear hd
    go_enter Tryz.func65, Tryz.ntmps65
    go_wp2_with (go_at_call 85; refine (HCON.out _).mono ?_; rintro e w2 ⟨rfl, hb2⟩)
    go_ret
    exact ⟨by rw [HF.out]; rfl, hb2⟩
  | nil =>
    cases s with
    | nil =>
      have HF : Hid (R = true) := hd.out
      clear hd
      go_enter Tryz.func65, Tryz.ntmps65
      go_wp2_with (go_at_call 85; refine (HCON.out _).mono ?_; rintro e w2 ⟨rfl, hb2⟩)
      go_ret
      exact ⟨by rw [HF.out]; rfl, hb2⟩
    | cons c l' =>
      have HF : Hid (R = (c != 48)) := by show _ = _; rw [hd.out, pre48]; rfl
      clear hd
      go_enter Tryz.func65, Tryz.ntmps65
      go_wp2_with (go_at_call 85; refine (HCON.out _).mono ?_; rintro e w2 ⟨rfl, hb2⟩)
      go_ret
      exact ⟨by rw [HF.out, ← byte_bne48]; rfl, hb2⟩
theorem in_same (n lo hi : Int) (w : World) : Calls Tryz.prog 42 #[.int .i64 n, .int .i64 lo, .int .i64 hi] w fun e w' => e = .returned (.bool (inB n lo hi)) ∧ w = w' := in_any n lo hi w
theorem momF_same (n : Int) (w : World) : Calls Tryz.prog 41 #[.int .i64 n] w fun e w' => e = .returned (.int .i64 (if isMomB n = true then 0 else 1)) ∧ w = w' := by
  have HG : Hid ((decide (0 ≤ n) && decide (n ≤ 345686399999)) = isMomB n) := by
    show _ = _
    unfold isMomB
    congr 1
    congr 1
    exact propext (by omega)
  generalize isMomB n = g at HG ⊢
  cases g <;>
  · go_enter Tryz.func41, Tryz.ntmps41
    go_wp2_with fail
    refine (in_any _ 0 345686399999 _).mono ?_
    rintro e w1 ⟨rfl, rfl⟩
    rw [HG.out]
    go_wp2_with fail
    go_ret
    exact ⟨rfl, rfl⟩
end Go.Proofs.YtacekbbndamkmaaGreatDoor

set_option linter.unusedVariables false
set_option linter.unusedSimpArgs false
namespace Go.Proofs.YtacekbbndamkmaaGreatDoor
open Go.RowKit

theorem deck_cases (d : Deck) (h : d.rates.length ≤ 5000) : (deckNum d = false → deckErr d = 1) ∧ (deckNum d = true →
    (∀ k, k < d.rates.length → (∀ j, j < k → rateErr d.rates j = 0) → rateErr d.rates k ≠ 0 → deckErr d = rateErr d.rates k) ∧ ((∀ j, j < d.rates.length → rateErr d.rates j = 0) → deckErr d = 0)) := by
  unfold deckErr
  refine ⟨fun h1 => by rw [if_pos h1], fun h1 => ⟨fun k k1 k2 k3 => ?_, fun k1 => ?_⟩⟩
  · rw [if_neg (by rw [h1]; decide), if_neg (by omega), first_some k2 k1 k3]
  · rw [if_neg (by rw [h1]; decide), if_neg (by omega), first_none k1]
theorem carrs_cases (l : List Carr) (h : l.length ≤ 50) :
    (∀ k, k < l.length → (∀ j, j < k → carrErr l j = 0) → carrErr l k ≠ 0 → carrsErr l = carrErr l k) ∧ ((∀ j, j < l.length → carrErr l j = 0) → carrsErr l = 0) := by
  unfold carrsErr
  refine ⟨fun k k1 k2 k3 => ?_, fun k1 => ?_⟩
  · rw [if_neg (by omega), first_some k2 k1 k3]
  · rw [if_neg (by omega), first_none k1]
theorem shares_cases (l : List Carr) (s : List Shr) :
    (50 < s.length → sharesErr l s = 2) ∧ (s.length ≤ 50 →
    (∀ k, k < s.length → (∀ j, j < k → shareErr l s j = 0) → shareErr l s k ≠ 0 → sharesErr l s = shareErr l s k) ∧ ((∀ j, j < s.length → shareErr l s j = 0) → sharesErr l s = if partSum s s.length ≠ 1000 then 16 else 0)) := by
  unfold sharesErr
  refine ⟨fun h => by rw [if_pos h], fun h => ⟨fun k k1 k2 k3 => ?_, fun k1 => ?_⟩⟩
  · rw [if_neg (by omega), first_some k2 k1 k3, if_pos k3]
  · rw [if_neg (by omega), first_none k1, if_neg (by simp)]
theorem recs_cases (l : List Carr) (rs : List Rcd) (f t : Int) (h : rs.length ≤ 3000) :
    (∀ k, k < rs.length → (∀ j, j < k → recErr l rs j = 0) → recErr l rs k ≠ 0 → recsErr l rs f t = recErr l rs k) ∧ ((∀ j, j < rs.length → recErr l rs j = 0) → recsErr l rs f t = winErr f t) := by
  unfold recsErr
  refine ⟨fun k k1 k2 k3 => ?_, fun k1 => ?_⟩
  · rw [if_neg (by omega), first_some k2 k1 k3, if_pos k3]
  · rw [if_neg (by omega), first_none k1, if_neg (by simp)]
/-- Parts of the first shares are right, so is their sum. -/
theorem part_bound {l : List Carr} {s : List Shr} : ∀ k, (∀ j, j < k → shareErr l s j = 0) → 0 ≤ partSum s k ∧ partSum s k ≤ 1000 * k
  | 0, _ => by simp [partSum]
  | k + 1, h => by
    have h1 := part_bound k (fun j hj => h j (by omega))
    have h2 := h k (by omega)
    unfold shareErr at h2
    have h3 : inB (s.getD k noShr).part 1 1000 = true := by
      cases h9 : inB (s.getD k noShr).part 1 1000 with
      | true => rfl
      | false => exact absurd h2 (by rw [h9]; split; decide; split; decide; decide)
    unfold inB at h3
    simp only [Bool.and_eq_true, decide_eq_true_eq] at h3
    unfold partSum
    omega
/-- A share of right ones has a right part and a carrier that is there. -/
theorem share_zero {l : List Carr} {s : List Shr} {k : Nat} (h2 : shareErr l s k = 0) : hasC l (s.getD k noShr).c = true ∧ 1 ≤ (s.getD k noShr).part ∧ (s.getD k noShr).part ≤ 1000 := by
  unfold shareErr at h2
  have h4 : hasC l (s.getD k noShr).c = true := by
    cases h9 : hasC l (s.getD k noShr).c with
    | true => rfl
    | false => rw [h9] at h2; simp at h2
  have h3 : inB (s.getD k noShr).part 1 1000 = true := by
    cases h9 : inB (s.getD k noShr).part 1 1000 with
    | true => rfl
    | false => exact absurd h2 (by rw [h9]; split; decide; split; decide; decide)
  unfold inB at h3
  simp only [Bool.and_eq_true, decide_eq_true_eq] at h3
  exact ⟨h4, h3⟩
theorem carr_key {l : List Carr} {k : Nat} (h : carrErr l k = 0) : (l.getD k noCarr).key ≠ [] := by
  intro h9
  unfold carrErr at h
  rw [h9] at h
  have : isKeyB [] = false := rfl
  rw [this] at h
  simp at h
/-- Shares of right carriers name carriers with keys. -/
theorem shares_keys {l : List Carr} {s : List Shr} (hl : l.length ≤ 50) (h : carrsErr l = 0) (hs : sharesErr l s = 0) (hf : s.length ≤ 50) : ∀ i, i < s.length → (s.getD i noShr).c ≠ [] ∧ 1 ≤ (s.getD i noShr).part ∧ (s.getD i noShr).part ≤ 1000 := by
  have z1 : ∀ j, j < l.length → carrErr l j = 0 := first_zero (by unfold carrsErr at h; rw [if_neg (by omega)] at h; exact h)
  have z2 : ∀ j, j < s.length → shareErr l s j = 0 := first_zero (by
    unfold sharesErr at hs
    rw [if_neg (by omega)] at hs
    by_cases h0 : firstErr (shareErr l s) s.length = 0
    · exact h0
    · rw [if_pos h0] at hs; exact absurd hs h0)
  intro i hi
  obtain ⟨h1, h2⟩ := share_zero (z2 i hi)
  refine ⟨fun h9 => ?_, h2⟩
  rw [h9] at h1
  unfold hasC at h1
  rw [List.any_eq_true] at h1
  obtain ⟨x, hx, hx2⟩ := h1
  obtain ⟨j, hj, rfl⟩ := List.getElem_of_mem hx
  have := carr_key (z1 j hj)
  rw [List.getD_eq_getElem?_getD, List.getElem?_eq_getElem hj] at this
  exact this (of_decide_eq_true hx2)
end Go.Proofs.YtacekbbndamkmaaGreatDoor

set_option linter.unusedVariables false
set_option linter.unusedSimpArgs false
namespace Go.Proofs.YtacekbbndamkmaaGreatDoor
open Go.RowKit

set_option maxRecDepth 100000 in
set_option maxHeartbeats 4000000 in
theorem checkDeck_any (w : World) (d : Deck) (hd : DeckFine w d) : Calls Tryz.prog 25 #[.agg d.cells.toArray] w (ErrPost (deckErr d) w) := by
  have hlen := hd.row.len
  have hfew := hd.row.few
  have HC0 := Lib.hid (deck_cases d (by omega))
  have HDN : Hid (deckNum d = (isMomB d.from_ && (inB d.setup 0 100000000 && (inB d.least 0 86400000 && inB d.step 1 86400000)))) := rfl
  have HR0 := Lib.hid hd.row
  have hcap := hd.cap
  clear hd
  obtain ⟨df, ds, dl, dp, ra, rn, rc, rates⟩ := d
  simp only at hlen hfew HC0 HDN HR0 hcap
  generalize deckErr ⟨df, ds, dl, dp, ra, rn, rc, rates⟩ = R at HC0 ⊢
  generalize deckNum ⟨df, ds, dl, dp, ra, rn, rc, rates⟩ = G at HC0 HDN
  rw [← hlen] at HC0
  have HLEN := Lib.hid hlen
  clear hlen
  show Calls Tryz.prog 25 #[.agg #[.int .i64 df, .int .i64 ds, .int .i64 dl, .int .i64 dp, .slice ra rn rc]] w _
  go_enter Tryz.func25, Tryz.ntmps25
  go_wp2_with fail
  refine (isMoment_any df _).mono ?_
  rintro e w1 ⟨rfl, rfl⟩
  generalize isMomB df = g1 at HDN ⊢
  cases g1
  · obtain rfl : R = 1 := HC0.out.1 HDN.out
    clear HC0 HDN
    skip
    as_aux_lemma =>
      go_wp2_with fail
      go_ret
      exact ⟨rfl, ext_alloc (Below.refl _ _)⟩
  skip
  as_aux_lemma =>
    go_wp2_with fail
    refine (within_c ds 0 100000000 _).mono ?_
    rintro e w1 ⟨rfl, rfl⟩
    generalize inB ds 0 100000000 = g2 at HDN ⊢
    cases g2
    · obtain rfl : R = 1 := HC0.out.1 HDN.out
      clear HC0 HDN
      skip
      as_aux_lemma =>
        go_wp2_with fail
        go_ret
        exact ⟨rfl, ext_alloc (Below.refl _ _)⟩
    skip
    as_aux_lemma =>
      go_wp2_with fail
      refine (within_c dl 0 86400000 _).mono ?_
      rintro e w1 ⟨rfl, rfl⟩
      generalize inB dl 0 86400000 = g3 at HDN ⊢
      cases g3
      · obtain rfl : R = 1 := HC0.out.1 HDN.out
        clear HC0 HDN
        skip
        as_aux_lemma =>
          go_wp2_with fail
          go_ret
          exact ⟨rfl, ext_alloc (Below.refl _ _)⟩
      skip
      as_aux_lemma =>
        go_wp2_with fail
        refine (within_c dp 1 86400000 _).mono ?_
        rintro e w1 ⟨rfl, rfl⟩
        generalize inB dp 1 86400000 = g4 at HDN ⊢
        cases g4
        · obtain rfl : R = 1 := HC0.out.1 HDN.out
          clear HC0 HDN
          skip
          as_aux_lemma =>
            go_wp2_with fail
            go_ret
            exact ⟨rfl, ext_alloc (Below.refl _ _)⟩
        have HC := Lib.hid (HC0.out.2 HDN.out)
        have hbig : ¬ (5000 : Int) < rn := by omega
        clear HC0 HDN
        skip
        as_aux_lemma =>
          go_wp2_with fail
          clear hbig
          have HB0 : Hid (Below w.heap.size w (w.alloc (.cells #[.int .i64 df, .int .i64 ds, .int .i64 dl, .int .i64 dp, .slice ra rn rc] 28))) := ext_alloc (Below.refl _ _)
          have b4 : (w.alloc (.cells #[.int .i64 df, .int .i64 ds, .int .i64 dl, .int .i64 dp, .slice ra rn rc] 28)).cell? ⟨w.heap.size, 4, none⟩ = some (.slice ra rn rc) := by go_simp
          have hTl : w.heap.size < (w.alloc (.cells #[.int .i64 df, .int .i64 ds, .int .i64 dl, .int .i64 dp, .slice ra rn rc] 28)).heap.size := by simp
          generalize w.alloc (.cells #[.int .i64 df, .int .i64 ds, .int .i64 dl, .int .i64 dp, .slice ra rn rc] 28) = W0 at HB0 b4 hTl ⊢
          have HR := Lib.hid (HR0.out.below HB0.out)
          clear HR0
          generalize hTT : w.heap.size = T at b4 hTl ⊢
          have HTT := Lib.hid hTT
          clear hTT
          go_loopw [34] (fun it wr => ∃ k : Nat, k ≤ rn ∧ it = .int .i64 k ∧ Hid (∀ j, j < k → rateErr rates j = 0) ∧ Hid (Below W0.heap.size W0 wr)) (fun it _ => rn - (intOf it).toNat)
          case atStart => exact ⟨0, Nat.zero_le _, rfl, fun j hj => by omega, Below.refl _ _⟩
          case round =>
            obtain ⟨k, hk, rfl, HZ, HB⟩ := hrel
            by_cases hlt : k < rn
            case neg =>
              obtain rfl : k = rn := by omega
              obtain rfl : R = 0 := HC.out.2 HZ.out
              clear HC HZ
              as_aux_lemma =>
                go_wp2_with fail
                go_ret
                exact ⟨rfl, ext_trans HB0.out HB.out⟩
            obtain ⟨b, off, rfl, hb, hc⟩ := HR.out.at (by omega)
            have HCC := Lib.hid hc
            obtain ⟨q0, q1, q2⟩ := hc k hlt
            have c0 := (HB.out.cell (p := ⟨b, off + k * 3, none⟩) hb).trans q0
            have c1 := (HB.out.cell (p := ⟨b, off + k * 3 + 1, none⟩) hb).trans q1
            have c2 := (HB.out.cell (p := ⟨b, off + k * 3 + 2, none⟩) hb).trans q2
            have d4 := (HB.out.cell (p := ⟨T, 4, none⟩) hTl).trans b4
            obtain ⟨hpl, hp1, hp2⟩ := HR.out.each k (by rw [← HLEN.out]; exact hlt)
            have HER : Hid (rateErr rates k = if preB (rates.getD k noRate).p = false then 3
              else if 0 < k ∧ Op.bytesLess (rates.getD (k - 1) noRate).p (rates.getD k noRate).p = false then 7
              else if inB (rates.getD k noRate).price 0 100000000 = false then 1
              else if (rates.getD k noRate).closed = true ∧ (rates.getD k noRate).price ≠ 0 then 3
              else 0) := rfl
            have HSTOP := Lib.hid (HC.out.1 k hlt HZ.out)
            have HNX : Hid (rateErr rates k = 0 → ∀ j, j < k + 1 → rateErr rates j = 0) := fun h j hj => by
              rcases Nat.lt_succ_iff_lt_or_eq.1 hj with h9 | rfl
              · exact HZ.out j h9
              · exact h
            have HPV : Hid (0 < k → W0.cell? ⟨b, off + (k - 1) * 3, none⟩ = some (.string ⟨(rates.getD (k - 1) noRate).p.toArray⟩)) := fun h => (HCC.out (k - 1) (by omega)).1
            clear q0 q1 q2 hc HZ HCC HC
            generalize rateErr rates k = X at HER HSTOP HNX
            generalize rates.getD k noRate = r at c0 c1 c2 hpl hp1 hp2 HER
            generalize rates.getD (k - 1) noRate = q at HER HPV
            obtain ⟨rp, rpr, rcl⟩ := r
            obtain ⟨qp, qpr, qcl⟩ := q
            simp only at c0 c1 c2 hpl hp1 hp2 HER HPV
            as_aux_lemma =>
              go_wp2_with fail
              refine (isPrefix_c rp _ (by omega)).mono ?_
              rintro e w3 ⟨rfl, hb3⟩
              obtain ⟨qc, qf⟩ := bcell hb3
              have hz3 : wr.heap.size < w3.heap.size := by have := hb3.size; simp at this; omega
              have e0 : w3.cell? ⟨wr.heap.size, 0, none⟩ = some (.string ⟨rp.toArray⟩) := (qc _ 0 (by simp)).trans (by go_simp)
              have e1 : w3.cell? ⟨wr.heap.size, 1, none⟩ = some (.int .i64 rpr) := (qc _ 1 (by simp)).trans (by go_simp)
              have e2 : w3.cell? ⟨wr.heap.size, 2, none⟩ = some (.bool rcl) := (qc _ 2 (by simp)).trans (by go_simp)
              have HB3 : Hid (Below W0.heap.size W0 w3) := ext_trans (ext_alloc HB.out) hb3
              have d4 := (HB3.out.cell (p := ⟨T, 4, none⟩) hTl).trans b4
              generalize wr.heap.size = Tr at e0 e1 e2 hz3 ⊢
              clear qc qf hb3 c0 c1 c2
              generalize preB rp = g1 at HER ⊢
              cases g1
              · obtain rfl : X = 3 := by rw [HER.out, if_pos rfl]
                obtain rfl : R = 3 := HSTOP.out (by decide)
                clear HER HSTOP HNX HPV
                skip
                as_aux_lemma =>
                  go_wp2_with fail
                  go_ret
                  exact ⟨rfl, ext_trans HB0.out HB3.out⟩
              have HER1 : Hid (X = if 0 < k ∧ Op.bytesLess qp rp = false then 7
                else if inB rpr 0 100000000 = false then 1
                else if rcl = true ∧ rpr ≠ 0 then 3
                else 0) := by show _ = _; rw [HER.out, if_neg (by decide)]
              clear HER
              by_cases hk0 : k = 0
              · subst hk0
                have HER2 : Hid (X = if inB rpr 0 100000000 = false then 1
                  else if rcl = true ∧ rpr ≠ 0 then 3
                  else 0) := by show _ = _; rw [HER1.out, if_neg (fun h => by omega)]
                clear HER1 HPV
                skip
                as_aux_lemma =>
                  go_wp2_with fail
                  go_quiet (fail)
                  go_wp2_with fail
                  refine (within_c rpr 0 100000000 _).mono ?_
                  rintro e w4 ⟨rfl, rfl⟩
                  generalize inB rpr 0 100000000 = g2 at HER2 ⊢
                  cases g2
                  · obtain rfl : X = 1 := by rw [HER2.out, if_pos rfl]
                    obtain rfl : R = 1 := HSTOP.out (by decide)
                    clear HER2 HSTOP HNX
                    skip
                    as_aux_lemma =>
                      go_wp2_with fail
                      go_ret
                      exact ⟨rfl, ext_trans HB0.out (ext_drewN HB3.out)⟩
                  cases rcl
                  · skip
                    have HZ2 := Lib.hid (HNX.out (by rw [HER2.out, if_neg (by decide), if_neg (by simp)]))
                    clear HER2 HSTOP HNX
                    skip
                    as_aux_lemma =>
                      go_wp2_with fail
                      go_roundw
                      case rel => exact ⟨0 + 1, by omega, by go_num, HZ2.out, ext_drewN HB3.out⟩
                      case measure => simp [intOf]; omega
                  by_cases hp0 : rpr = 0
                  · have hpb : (rpr != 0) = false := by simp [hp0]
                    have HP0 := Lib.hid hp0
                    clear hp0
                    have HZ2 := Lib.hid (HNX.out (by rw [HER2.out, if_neg (by decide), if_neg (fun h => h.2 HP0.out)]))
                    clear HER2 HSTOP HNX
                    skip
                    as_aux_lemma =>
                      go_wp2_with fail
                      go_roundw
                      case rel => exact ⟨0 + 1, by omega, by go_num, HZ2.out, ext_drewN HB3.out⟩
                      case measure => simp [intOf]; omega
                  have hpb : (rpr != 0) = true := by simp [hp0]
                  obtain rfl : X = 3 := by rw [HER2.out, if_neg (by decide), if_pos ⟨rfl, hp0⟩]
                  obtain rfl : R = 3 := HSTOP.out (by decide)
                  clear hp0
                  clear HER2 HSTOP HNX
                  skip
                  as_aux_lemma =>
                    go_wp2_with fail
                    go_ret
                    exact ⟨rfl, ext_trans HB0.out (ext_drewN HB3.out)⟩
              obtain ⟨j, rfl⟩ : ∃ j, k = j + 1 := ⟨k - 1, by omega⟩
              have p0 := HPV.out (by omega)
              rw [Nat.add_sub_cancel] at p0
              have g0 := (HB3.out.cell (p := ⟨b, off + j * 3, none⟩) hb).trans p0
              have w1 : IntKind.i64.wrap (j : Int) = j := IntWalk.i64_in _ (by omega)
              have w2 : IntKind.i64.wrap ((j : Int) + 1 - 1) = j := by rw [Int.add_sub_cancel]; exact w1
              have w3 : (j : Int) < rn := by omega
              have w4 : (0 : Int) ≤ (j : Int) := by omega
              clear HPV p0 hk0
              cases hls : Op.bytesLess qp rp
              · obtain rfl : X = 7 := by rw [HER1.out, if_pos ⟨by omega, hls⟩]
                obtain rfl : R = 7 := HSTOP.out (by decide)
                clear HER1 HSTOP HNX
                by_cases hxe : rp = qp
                · subst hxe
                  skip
                  as_aux_lemma =>
                    go_wp2_with fail
                    go_quiet (fail)
                    go_wp2_with fail
                    go_ret
                    exact ⟨rfl, ext_trans HB0.out (ext_drewN HB3.out)⟩
                · have hx1 : Op.bytesLess rp qp = true := less_total qp rp hls (Ne.symm hxe)
                  skip
                  as_aux_lemma =>
                    go_wp2_with fail
                    go_quiet (fail)
                    go_wp2_with fail
                    go_ret
                    exact ⟨rfl, ext_trans HB0.out (ext_drewN HB3.out)⟩
              have HER2 : Hid (X = if inB rpr 0 100000000 = false then 1
                else if rcl = true ∧ rpr ≠ 0 then 3
                else 0) := by show _ = _; rw [HER1.out, if_neg (fun h => by rw [hls] at h; cases h.2)]
              obtain ⟨hx1, hx2⟩ := less_asym hls
              have hx3 : (rp == qp) = false := beq_eq_false_iff_ne.2 (fun e => hx2 e.symm)
              clear HER1 hx2
              skip
              as_aux_lemma =>
                go_wp2_with fail
                go_quiet (fail)
                go_wp2_with fail
                refine (within_c rpr 0 100000000 _).mono ?_
                rintro e w4 ⟨rfl, rfl⟩
                generalize inB rpr 0 100000000 = g2 at HER2 ⊢
                cases g2
                · obtain rfl : X = 1 := by rw [HER2.out, if_pos rfl]
                  obtain rfl : R = 1 := HSTOP.out (by decide)
                  clear HER2 HSTOP HNX
                  skip
                  as_aux_lemma =>
                    go_wp2_with fail
                    go_ret
                    exact ⟨rfl, ext_trans HB0.out (ext_drewN HB3.out)⟩
                cases rcl
                · skip
                  have HZ2 := Lib.hid (HNX.out (by rw [HER2.out, if_neg (by decide), if_neg (by simp)]))
                  clear HER2 HSTOP HNX
                  skip
                  as_aux_lemma =>
                    go_wp2_with fail
                    go_roundw
                    case rel => exact ⟨j + 1 + 1, by omega, by go_num, HZ2.out, ext_drewN HB3.out⟩
                    case measure => simp [intOf]; omega
                by_cases hp0 : rpr = 0
                · have hpb : (rpr != 0) = false := by simp [hp0]
                  have HP0 := Lib.hid hp0
                  clear hp0
                  have HZ2 := Lib.hid (HNX.out (by rw [HER2.out, if_neg (by decide), if_neg (fun h => h.2 HP0.out)]))
                  clear HER2 HSTOP HNX
                  skip
                  as_aux_lemma =>
                    go_wp2_with fail
                    go_roundw
                    case rel => exact ⟨j + 1 + 1, by omega, by go_num, HZ2.out, ext_drewN HB3.out⟩
                    case measure => simp [intOf]; omega
                have hpb : (rpr != 0) = true := by simp [hp0]
                obtain rfl : X = 3 := by rw [HER2.out, if_neg (by decide), if_pos ⟨rfl, hp0⟩]
                obtain rfl : R = 3 := HSTOP.out (by decide)
                clear hp0
                clear HER2 HSTOP HNX
                skip
                as_aux_lemma =>
                  go_wp2_with fail
                  go_ret
                  exact ⟨rfl, ext_trans HB0.out (ext_drewN HB3.out)⟩
end Go.Proofs.YtacekbbndamkmaaGreatDoor

set_option linter.unusedVariables false
set_option linter.unusedSimpArgs false
namespace Go.Proofs.YtacekbbndamkmaaGreatDoor
open Go.RowKit

/-- Block B holds just these cells. -/
structure Blk (w : World) (B : Nat) (cs : List Value) (ty : TypeId) : Prop where
  at_ : w.heap[B]? = some (.cells cs.toArray ty (0, 0))
theorem Blk.lt {w : World} {B : Nat} {cs : List Value} {ty : TypeId} (h : Blk w B cs ty) : B < w.heap.size := (Array.getElem?_eq_some_iff.1 h.at_).1
theorem Blk.cell {w : World} {B : Nat} {cs : List Value} {ty : TypeId} (h : Blk w B cs ty) (i : Nat) {v : Value} (hv : cs[i]? = some v) : w.cell? ⟨B, i, none⟩ = some v := by
  simp [World.cell?, h.at_, hv]
theorem Blk.fr {w : World} {B : Nat} {cs : List Value} {ty : TypeId} (h : Blk w B cs ty) (j : Nat) : w.frozen? ⟨B, j, none⟩ = false := by
  simp [World.frozen?, h.at_]
theorem Blk.same {w w' : World} {B : Nat} {cs : List Value} {ty : TypeId} (h : Blk w B cs ty) (hb : w'.heap[B]? = w.heap[B]?) : Blk w' B cs ty := ⟨hb.trans h.at_⟩
theorem Blk.keeps {S : Nat} {w w' : World} {B : Nat} {cs : List Value} {ty : TypeId} (h : Blk w B cs ty) (hk : Keeps S w w') (hn : B ≠ S) : Blk w' B cs ty := h.same (hk.block B h.lt hn)
theorem Blk.below {w w' : World} {B : Nat} {cs : List Value} {ty : TypeId} (h : Blk w B cs ty) (hb : Below w.heap.size w w') : Blk w' B cs ty := h.same (hb.block B h.lt)
theorem Blk.grown {w w' : World} {B : Nat} {cs : List Value} {ty : TypeId} {row : Option Nat} (h : Blk w B cs ty) (hg : w.grownBy w' row) (hn : row ≠ some B) : Blk w' B cs ty := h.same (hg.block B h.lt (fun e => hn e.symm))
theorem Blk.far {w : World} {B : Nat} {cs : List Value} {ty : TypeId} {p : Addr} {u : Value} (h : Blk w B cs ty) (hn : p.block ≠ B) : Blk (w.setCell p u) B cs ty := h.same (Below.heap_setCell _ _ _ _ (Ne.symm hn))
theorem Blk.alloc {w : World} {B : Nat} {cs : List Value} {ty : TypeId} (h : Blk w B cs ty) (o : Obj) : Blk (w.alloc o) B cs ty := h.same (Below.heap_alloc _ _ _ h.lt)
theorem Blk.new (w : World) (cs : List Value) (ty : TypeId) : Blk (w.alloc (.cells cs.toArray ty)) w.heap.size cs ty := ⟨by
  show (w.heap.push _)[w.heap.size]? = _
  simp⟩
theorem Blk.put {w : World} {B : Nat} {cs : List Value} {ty : TypeId} (h : Blk w B cs ty) (i : Nat) (u : Value) : Blk (w.setCell ⟨B, i, none⟩ u) B (cs.set i u) ty := ⟨by
  simp [World.setCell, Array.getElem?_modify, h.at_]⟩
theorem Blk.size {w : World} {B : Nat} {cs : List Value} {ty : TypeId} (h : Blk w B cs ty) : (w.cell? ⟨B, cs.length, none⟩) = none := by
  simp [World.cell?, h.at_]
theorem Blk.th {w : World} {B : Nat} {cs : List Value} {ty : TypeId} (h : Blk w B cs ty) (n : Nat) (hn : n ≤ cs.length) : w.there B 0 n := fun j hj => by
  refine ⟨?_, ?_⟩
  · simp [World.cell?, h.at_]; omega
  · simp [World.frozen?, h.at_]
end Go.Proofs.YtacekbbndamkmaaGreatDoor

set_option linter.unusedVariables false
set_option linter.unusedSimpArgs false
namespace Go.Proofs.YtacekbbndamkmaaGreatDoor
open Go.RowKit

/-- The rates are in order, each before the next. -/
def RSorted (cs : List Rate) : Prop := ∀ i, 0 < i → i < cs.length → Op.bytesLess (cs.getD (i - 1) noRate).p (cs.getD i noRate).p = true
theorem RSorted.lt {cs : List Rate} (h : RSorted cs) : ∀ (i d : Nat), i + (d + 1) < cs.length → Op.bytesLess (cs.getD i noRate).p (cs.getD (i + (d + 1)) noRate).p = true
  | i, 0, hi => h (i + 1) (by omega) hi
  | i, d + 1, hi => by
    have h1 := RSorted.lt h i d (by omega)
    have h2 := h (i + (d + 1) + 1) (by omega) (by omega)
    exact less_trans h1 h2
theorem RSorted.lt' {cs : List Rate} (h : RSorted cs) {i j : Nat} (hij : i < j) (hj : j < cs.length) : Op.bytesLess (cs.getD i noRate).p (cs.getD j noRate).p = true := by
  have := h.lt i (j - i - 1) (by omega)
  rwa [show i + (j - i - 1 + 1) = j by omega] at this
def rcmp (cs : List Rate) (t : List UInt8) (i : Nat) : Int := Lib.compareBytes (cs.getD i noRate).p t
theorem rcmp_mono {cs : List Rate} (h : RSorted cs) {t : List UInt8} {i j : Nat} (hij : i ≤ j) (hj : j < cs.length) (hc : rcmp cs t j < 0) : rcmp cs t i < 0 := by
  rcases Nat.lt_or_eq_of_le hij with h' | rfl
  · unfold rcmp at hc ⊢
    rw [cmp_neg] at hc ⊢
    exact less_trans (h.lt' h' hj) hc
  · exact hc
def findR (cs : List Rate) (t : List UInt8) : Option Rate := cs.find? (fun c => c.p == t)
theorem findR_hit {cs : List Rate} (h : RSorted cs) {t : List UInt8} {i : Nat} (hi : i < cs.length) (hc : rcmp cs t i = 0) : findR cs t = some (cs.getD i noRate) := by
  unfold rcmp at hc
  rw [cmp_zero] at hc
  unfold findR
  rw [List.find?_eq_some_iff_getElem]
  have e : cs.getD i noRate = cs[i] := by simp [List.getD_eq_getElem?_getD, List.getElem?_eq_getElem hi]
  refine ⟨by simpa using hc, i, hi, e.symm, fun j hj => ?_⟩
  have e2 : cs.getD j noRate = cs[j] := by simp [List.getD_eq_getElem?_getD, List.getElem?_eq_getElem (Nat.lt_trans hj hi)]
  have := h.lt' hj hi
  rw [hc, e2] at this
  simp only [Bool.not_eq_true', beq_eq_false_iff_ne]
  intro e3
  rw [e3, less_irrefl] at this
  cases this
theorem findR_miss {cs : List Rate} (h : RSorted cs) {t : List UInt8} {i : Nat} (hi : i ≤ cs.length) (h1 : ∀ m, m < i → rcmp cs t m < 0) (h2 : ∀ m, i ≤ m → m < cs.length → ¬ rcmp cs t m < 0) (h3 : i < cs.length → rcmp cs t i ≠ 0) : findR cs t = none := by
  unfold findR
  rw [List.find?_eq_none]
  intro c hc hp
  obtain ⟨j, hj, rfl⟩ := List.getElem_of_mem hc
  have e : cs.getD j noRate = cs[j] := by simp [List.getD_eq_getElem?_getD, List.getElem?_eq_getElem hj]
  have hp' : cs[j].p = t := by simpa using hp
  have hz : rcmp cs t j = 0 := by unfold rcmp; rw [cmp_zero, e]; exact hp'
  by_cases hji : j < i
  · have := h1 j hji; omega
  · by_cases hje : j = i
    · subst hje; exact h3 hj hz
    · have hlt : i < j := by omega
      have := h2 i (Nat.le_refl _) (by omega)
      apply this
      unfold rcmp
      rw [cmp_neg]
      have hl := h.lt' hlt hj
      rw [e, hp'] at hl
      exact hl
theorem rate1_any (p t : List UInt8) (a : Int) (b : Bool) (w : World) :
    Calls Tryz.prog 93 #[.agg #[.string ⟨p.toArray⟩, .int .i64 a, .bool b], .string ⟨t.toArray⟩] w fun e w' => e = .returned (.int .i64 (Lib.compareBytes p t)) ∧ Below w.heap.size w w' := by
  have hcon := fun w => Tryz.strings_Compare ⟨p.toArray⟩ ⟨t.toArray⟩ w
  change ∀ w, Calls _ _ _ w fun e w' => e = .returned (.int .i64 (Lib.compareBytes p t)) ∧ w' = w at hcon
  generalize Lib.compareBytes p t = r at hcon ⊢
  go_enter Tryz.func93, Tryz.ntmps93
  go_wp2_with (go_at_call 59; refine (hcon _).mono ?_; rintro e w' ⟨rfl, rfl⟩)
  go_ret
  exact ⟨rfl, (by (try show Below _ _ _); repeat (with_reducible first | exact Below.refl _ _ | assumption | exact Hid.out (by assumption) | refine ext_alloc ?_ | refine ext_drewN ?_ | refine ext_drew ?_ | refine ext_setCell ?_ (Nat.le_refl _) | refine ext_setCell ?_ (Nat.le_succ _) | refine ext_trans ?_ (by assumption) | (refine ext_setCell ?_ (by simp)) | (refine ext_setCell ?_ (by simp at *; omega))))⟩
/-- What the search comes to. -/
def RFound (cs : List Rate) (t : List UInt8) (n : Nat) (w : World) (e : Ending) (w' : World) : Prop :=
  Below w.heap.size w w' ∧ ((∃ i, i < n ∧ e = .returned (.tuple #[.int .i64 (i : Nat), .bool true]) ∧ findR cs t = some (cs.getD i noRate)) ∨ ∃ i : Int, e = .returned (.tuple #[.int .i64 i, .bool false]) ∧ findR cs t = none)

set_option maxHeartbeats 1000000 in
theorem searchR_any (w : World) (a : Option Addr) (n cap : Nat) (cs : List Rate) (t : List UInt8) (hr : RateRow w a n cs) (ho : RSorted cs) :
    Calls Tryz.prog 92 #[.slice a n cap, .string ⟨t.toArray⟩, .func (.func 93) #[] #[]] w (RFound cs t n w) := by
  have Hn := Lib.hid hr.len
  have hn2 := hr.few
  have Hr := Lib.hid hr
  have Ho := Lib.hid ho
  clear hr ho
  go_enter Tryz.func92, Tryz.ntmps92
  go_wp2_with fail
  go_loopw [9, 10] (fun s9 s10 wr => ∃ i j : Nat, i ≤ j ∧ j ≤ n ∧ s9 = .int .i64 i ∧ s10 = .int .i64 j ∧ Hid (Below w.heap.size w wr) ∧ Hid (∀ m, m < i → rcmp cs t m < 0) ∧ Hid (∀ m, j ≤ m → m < n → 0 ≤ rcmp cs t m)) (fun s9 s10 _ => (intOf s10).toNat - (intOf s9).toNat)
  case atStart => exact ⟨0, n, Nat.zero_le _, Nat.le_refl _, rfl, rfl, Below.refl _ _, fun m hm => absurd hm (by omega), fun m h1 h2 => absurd h1 (by omega)⟩
  case round =>
    obtain ⟨i, j, hij, hjn, rfl, rfl, HB, HL, HU⟩ := hrel
    by_cases hlt : i < j
    · obtain ⟨b, off, rfl, hb, hc⟩ := Hr.out.at (by omega)
      obtain ⟨q0, q1, q2⟩ := hc ((i + j) / 2) (by omega)
      have c0 := (HB.out.cell (p := ⟨b, off + ((i + j) / 2) * 3, none⟩) hb).trans q0
      have c1 := (HB.out.cell (p := ⟨b, off + ((i + j) / 2) * 3 + 1, none⟩) hb).trans q1
      have c2 := (HB.out.cell (p := ⟨b, off + ((i + j) / 2) * 3 + 2, none⟩) hb).trans q2
      have hcmp : Hid (rcmp cs t ((i + j) / 2) = Lib.compareBytes (cs.getD ((i + j) / 2) noRate).p t) := rfl
      clear hc Hr q0 q1 q2
      generalize cs.getD ((i + j) / 2) noRate = cl at c0 c1 c2 hcmp
      go_wp2_with fail
      refine (rate1_any _ _ _ _ _).mono ?_
      rintro e w1 ⟨rfl, hB1⟩
      generalize Lib.compareBytes cl.p t = r at hcmp
      by_cases hr0 : r < 0
      · go_wp2_with fail
        go_roundw
        case rel => exact ⟨(i + j) / 2 + 1, j, by omega, hjn, by go_num, rfl, ext_trans HB.out hB1, fun m hm => rcmp_mono Ho.out (j := (i + j) / 2) (by omega) (by rw [← Hn.out]; omega) (by rw [hcmp.out]; exact hr0), HU⟩
        case measure => simp [intOf]; omega
      · go_wp2_with fail
        go_roundw
        case rel => exact ⟨i, (i + j) / 2, by omega, by omega, rfl, by go_num, ext_trans HB.out hB1, HL, fun m h1 h2 => Int.not_lt.1 (fun hm => absurd (show r < 0 by rw [← hcmp.out]; exact rcmp_mono Ho.out h1 (by rw [← Hn.out]; exact h2) hm) (by omega))⟩
        case measure => simp [intOf]; omega
    · obtain rfl : i = j := by omega
      by_cases hin : i < n
      · obtain ⟨b, off, rfl, hb, hc⟩ := Hr.out.at (by omega)
        obtain ⟨q0, q1, q2⟩ := hc i hin
        have c0 := (HB.out.cell (p := ⟨b, off + i * 3, none⟩) hb).trans q0
        have c1 := (HB.out.cell (p := ⟨b, off + i * 3 + 1, none⟩) hb).trans q1
        have c2 := (HB.out.cell (p := ⟨b, off + i * 3 + 2, none⟩) hb).trans q2
        have hcmp : Hid (rcmp cs t i = Lib.compareBytes (cs.getD i noRate).p t) := rfl
        have hin2 : (i : Int) < (n : Int) := by omega
        clear hc Hr q0 q1 q2
        generalize hcl : cs.getD i noRate = cl at c0 c1 c2 hcmp
        have Hcl := Lib.hid hcl
        clear hcl
        go_wp2_with fail
        refine (rate1_any _ _ _ _ _).mono ?_
        rintro e w1 ⟨rfl, hB1⟩
        generalize Lib.compareBytes cl.p t = r at hcmp
        by_cases hr0 : r = 0
        · subst hr0
          go_wp2_with fail
          go_ret2
          exact ⟨ext_trans HB.out hB1, Or.inl ⟨i, hin, rfl, findR_hit Ho.out (by rw [← Hn.out]; exact hin) hcmp.out⟩⟩
        · have hr1 : (r == 0) = false := by simpa using hr0
          go_wp2_with fail
          go_ret2
          exact ⟨ext_trans HB.out hB1, Or.inr ⟨_, rfl, findR_miss Ho.out (by rw [← Hn.out]; omega) HL.out (by rw [← Hn.out]; exact fun m h1 h2 => Int.not_lt.2 (HU.out m h1 h2)) (fun _ => by rw [hcmp.out]; exact hr0)⟩⟩
      · have hin2 : ¬ (i : Int) < (n : Int) := by omega
        go_wp2_with fail
        go_ret2
        exact ⟨HB.out, Or.inr ⟨_, rfl, findR_miss Ho.out (by rw [← Hn.out]; omega) HL.out (by rw [← Hn.out]; exact fun m h1 h2 => Int.not_lt.2 (HU.out m h1 h2)) (fun h => absurd h (by rw [← Hn.out]; omega))⟩⟩
def RFoundP (cs : List Rate) (t : List UInt8) (n : Nat) (i : Int) (f : Bool) : Prop := (f = true → ∃ m : Nat, m < n ∧ i = m ∧ findR cs t = some (cs.getD m noRate)) ∧ (f = false → findR cs t = none)
def RFound2 (cs : List Rate) (t : List UInt8) (n : Nat) (w : World) (e : Ending) (w' : World) : Prop :=
  ∃ (i : Int) (f : Bool), e = .returned (.tuple #[.int .i64 i, .bool f]) ∧ Below w.heap.size w w' ∧ RFoundP cs t n i f
theorem searchR_str (w : World) (a : Option Addr) (n cap : Nat) (cs : List Rate) (t : List UInt8) (s : ByteArray) (hs : s.data.toList = t) (hr : RateRow w a n cs) (ho : RSorted cs) :
    Calls Tryz.prog 92 #[.slice a n cap, .string s, .func (.func 93) #[] #[]] w (RFound2 cs t n w) := by
  have h := searchR_any w a n cap cs t hr ho
  have e : (⟨t.toArray⟩ : ByteArray) = s := by rw [← hs]
  rw [e] at h
  refine h.mono ?_
  rintro e w' ⟨hb, ⟨i, hi, rfl, hf⟩ | ⟨i, rfl, hf⟩⟩
  · exact ⟨_, _, rfl, hb, (fun _ => ⟨i, hi, rfl, hf⟩), (fun h => by cases h)⟩
  · exact ⟨_, _, rfl, hb, (fun h => by cases h), fun _ => hf⟩
theorem extractR_take (l : List UInt8) (k : Nat) : ((⟨l.toArray⟩ : ByteArray).extract 0 k).data.toList = l.take k := by
  simp [ByteArray.extract, ByteArray.copySlice]
/-- The rate of digits: that of the longest of their beginnings of at most k bytes. -/
def rateTo (cs : List Rate) (l : List UInt8) : Nat → Option Rate
  | 0 => findR cs (l.take 0)
  | k + 1 => (findR cs (l.take (k + 1))).or (rateTo cs l k)
def rateOf (cs : List Rate) (l : List UInt8) (m : Nat) : Option Rate := rateTo cs l (min l.length m)
def RatePost (o : Option Rate) (w : World) (e : Ending) (w' : World) : Prop :=
  Below w.heap.size w w' ∧ e = .returned (.tuple #[.agg #[.string ⟨(o.getD noRate).p.toArray⟩, .int .i64 (o.getD noRate).price, .bool (o.getD noRate).closed], .bool o.isSome])

set_option maxRecDepth 100000 in
set_option maxHeartbeats 4000000 in
theorem rate_any (w : World) (df ds dl dp : Int) (ra : Option Addr) (rn rc : Nat) (cs : List Rate) (l : List UInt8) (m : Nat) (hr : RateRow w ra rn cs) (ho : RSorted cs) (hl : l.length ≤ 1000) (hm : m ≤ 1000) :
    Calls Tryz.prog 51 #[.agg #[.int .i64 df, .int .i64 ds, .int .i64 dl, .int .i64 dp, .slice ra rn rc], .string ⟨l.toArray⟩, .int .i64 m] w (RatePost (rateOf cs l m) w) := by
  have Hr := Lib.hid hr
  have Ho := Lib.hid ho
  clear hr ho
  go_enter Tryz.func51, Tryz.ntmps51
  have HD0 : Hid (Blk ((w.alloc (.cells #[.int .i64 df, .int .i64 ds, .int .i64 dl, .int .i64 dp, .slice ra rn rc] 28)).alloc (.cells #[.string ⟨#[]⟩, .int .i64 0, .bool false] 51)) w.heap.size [.int .i64 df, .int .i64 ds, .int .i64 dl, .int .i64 dp, .slice ra rn rc] 28) := (Blk.new w [.int .i64 df, .int .i64 ds, .int .i64 dl, .int .i64 dp, .slice ra rn rc] 28).alloc _
  have HZ0 : Hid (Blk ((w.alloc (.cells #[.int .i64 df, .int .i64 ds, .int .i64 dl, .int .i64 dp, .slice ra rn rc] 28)).alloc (.cells #[.string ⟨#[]⟩, .int .i64 0, .bool false] 51)) (w.heap.size + 1) [.string ⟨#[]⟩, .int .i64 0, .bool false] 51) := by
    have := Blk.new (w.alloc (.cells #[.int .i64 df, .int .i64 ds, .int .i64 dl, .int .i64 dp, .slice ra rn rc] 28)) [.string ⟨#[]⟩, .int .i64 0, .bool false] 51
    show Blk _ _ _ _
    simpa using this
  have HB0 : Hid (Below w.heap.size w ((w.alloc (.cells #[.int .i64 df, .int .i64 ds, .int .i64 dl, .int .i64 dp, .slice ra rn rc] 28)).alloc (.cells #[.string ⟨#[]⟩, .int .i64 0, .bool false] 51))) := ext_alloc (ext_alloc (Below.refl _ _))
  go_wp2_with fail
  go_loopw [8] (fun s8 wr => ∃ k : Nat, k ≤ min l.length m + 1 ∧ s8 = .int .i64 ((k : Int) - 1) ∧ Hid (Blk wr w.heap.size [.int .i64 df, .int .i64 ds, .int .i64 dl, .int .i64 dp, .slice ra rn rc] 28) ∧ Hid (Blk wr (w.heap.size + 1) [.string ⟨#[]⟩, .int .i64 0, .bool false] 51) ∧ Hid (Below w.heap.size w wr) ∧ Hid (rateOf cs l m = match k with | 0 => none | q + 1 => rateTo cs l q)) (fun s8 _ => ((intOf s8) + 1).toNat)
  case atStart => exact ⟨min l.length m + 1, Nat.le_refl _, by congr 1; omega, HD0.out, HZ0.out, HB0.out, rfl⟩
  case round =>
    clear HD0 HZ0 HB0
    obtain ⟨k, hk, rfl, HD, HZ, HB, HC⟩ := hrel
    have d4 := HD.out.cell 4 rfl
    have z0 := HZ.out.cell 0 rfl
    have z1 := HZ.out.cell 1 rfl
    have z2 := HZ.out.cell 2 rfl
    have zf := HZ.out.fr
    cases k with
    | zero =>
      go_wp2_with fail
      refine bodyPost_ret (v := .tuple #[.agg #[.string ⟨#[]⟩, .int .i64 0, .bool false], .bool false]) (by simp [results, Tryz.results51, go_sem, z0, z1, z2]) rfl ⟨?_, ?_⟩
      · exact (by (try show Below _ _ _); repeat (with_reducible first | exact Below.refl _ _ | assumption | exact Hid.out (by assumption) | refine ext_alloc ?_ | refine ext_drewN ?_ | refine ext_drew ?_ | refine ext_setCell ?_ (Nat.le_refl _) | refine ext_setCell ?_ (Nat.le_succ _) | refine ext_trans ?_ (by assumption) | (refine ext_setCell ?_ (by simp)) | (refine ext_setCell ?_ (by simp at *; omega))))
      · rw [HC.out]; rfl
    | succ k =>
      have hk1 : ((k + 1 : Nat) : Int) - 1 = (k : Int) := by omega
      rw [hk1]
      clear hk1
      have kl : (k : Int) ≤ (l.length : Int) := by omega
      have kl2 : k ≤ l.length := by omega
      go_wp2_with fail
      go_region_with (go_at_call 92; refine (searchR_str _ ra rn rc cs (l.take k) _ (extractR_take l k) ?hx Ho.out).mono ?_; exact Hr.out.below (ext_drew HB.out); rintro e w1 ⟨i, f, rfl, hB1, hfp⟩)
      have hw1 : Below w.heap.size w w1 := ext_trans (ext_drew HB.out) hB1
      have HB1 := Lib.hid hw1
      have HX : Below wr.heap.size wr w1 := ext_trans (ext_drew (Below.refl _ _)) hB1
      have HD1 := Lib.hid (HD.out.below HX)
      have HZ1 := Lib.hid (HZ.out.below HX)
      clear HX HD HZ HB d4 z0 z1 z2 zf hB1
      cases f with
      | false =>
        have hnone := hfp.2 rfl
        clear hfp hw1
        go_wp2_with fail
        go_roundw
        case rel => exact ⟨k, by omega, rfl, HD1.out, HZ1.out, HB1.out, by
          show rateOf cs l m = _
          rw [HC.out]
          cases k with
          | zero => exact hnone
          | succ m => show (findR cs (l.take (m + 1))).or (rateTo cs l m) = _; rw [hnone]; rfl⟩
        case measure => simp [intOf]
      | true =>
        obtain ⟨q, hq, rfl, hsome⟩ := hfp.1 rfl
        have hrow := Hr.out.below hw1
        have hfin : Hid (rateOf cs l m = some (cs.getD q noRate)) := by
          show rateOf cs l m = _
          rw [HC.out]
          cases k with
          | zero => exact hsome
          | succ q => show (findR cs (l.take (q + 1))).or (rateTo cs l q) = _; rw [hsome]; rfl
        clear hsome hfp
        obtain ⟨b, off, rfl, hb, hc⟩ := hrow.at (by omega)
        obtain ⟨c0, c1, c2⟩ := hc q hq
        clear hc hrow hw1
        have d4 := HD1.out.cell 4 rfl
        have z0 := HZ1.out.cell 0 rfl
        have z1 := HZ1.out.cell 1 rfl
        have z2 := HZ1.out.cell 2 rfl
        have zf := HZ1.out.fr
        generalize cs.getD q noRate = cl at c0 c1 c2 hfin
        go_wp2_with fail
        refine bodyPost_ret (v := .tuple #[.agg #[.string ⟨cl.p.toArray⟩, .int .i64 cl.price, .bool cl.closed], .bool true]) (by simp [results, Tryz.results51, go_sem, z0, z1, z2]) rfl ⟨?_, ?_⟩
        · have HB1 := HB1.out; exact (by (try show Below _ _ _); repeat (with_reducible first | exact Below.refl _ _ | assumption | exact Hid.out (by assumption) | refine ext_alloc ?_ | refine ext_drewN ?_ | refine ext_drew ?_ | refine ext_setCell ?_ (Nat.le_refl _) | refine ext_setCell ?_ (Nat.le_succ _) | refine ext_trans ?_ (by assumption) | (refine ext_setCell ?_ (by simp)) | (refine ext_setCell ?_ (by simp at *; omega))))
        · rw [hfin.out]; rfl
end Go.Proofs.YtacekbbndamkmaaGreatDoor

set_option linter.unusedVariables false
set_option linter.unusedSimpArgs false
namespace Go.Proofs.YtacekbbndamkmaaGreatDoor
open Go.RowKit

structure ShrRow (w : World) (a : Option Addr) (n : Nat) (l : List Shr) : Prop where
  cells : Cells w 2 a n (l.map Shr.cells)
  few : n ≤ 50
  each : ∀ i, i < l.length → (l.getD i noShr).c.length ≤ 100 ∧ -2000000000000 ≤ (l.getD i noShr).part ∧ (l.getD i noShr).part ≤ 2000000000000
theorem ShrRow.below {w w' : World} {a : Option Addr} {n : Nat} {l : List Shr} (h : ShrRow w a n l) (hb : Below w.heap.size w w') : ShrRow w' a n l := ⟨h.cells.below hb, h.few, h.each⟩
theorem ShrRow.len {w : World} {a : Option Addr} {n : Nat} {l : List Shr} (h : ShrRow w a n l) : n = l.length := by have := h.cells.len; simpa using this
theorem ShrRow.at {w : World} {a : Option Addr} {n : Nat} {l : List Shr} (h : ShrRow w a n l) (hn : 0 < n) : ∃ b off, a = some ⟨b, off, none⟩ ∧ b < w.heap.size ∧ ∀ i, i < n → w.cell? ⟨b, off + i * 2, none⟩ = some (.string ⟨(l.getD i noShr).c.toArray⟩) ∧ w.cell? ⟨b, off + i * 2 + 1, none⟩ = some (.int .i64 (l.getD i noShr).part) := by
  have hl := h.len
  rcases h.cells.row with h0 | ⟨b, off, ha, hb, hc⟩
  · omega
  · refine ⟨b, off, ha, hb, fun i hi => ?_⟩
    have k0 := hc i hi 0 (by omega)
    have k1 := hc i hi 1 (by omega)
    rw [getD_map Shr.cells l i noShr [] (by omega)] at k0 k1
    exact ⟨k0, k1⟩
theorem ShrRow.of_own {w : World} {base : Nat} {e : TypeId} {v : Value} {n : Nat} {l : List Shr} (h : w.ownsRow base e 2 v n ((l.map Shr.cells).flatten)) (hf : n ≤ 50) (he : ∀ i, i < l.length → (l.getD i noShr).c.length ≤ 100 ∧ -2000000000000 ≤ (l.getD i noShr).part ∧ (l.getD i noShr).part ≤ 2000000000000) : ∃ a c, v = .slice a n c ∧ n ≤ c ∧ ShrRow w a n l := by
  obtain ⟨a, c, rfl, hcs⟩ := Cells.of_own h (fun x hx => by obtain ⟨y, _, rfl⟩ := List.mem_map.1 hx; rfl) (by decide)
  exact ⟨a, c, rfl, (own_caps h).2, ⟨hcs, hf, he⟩⟩
structure RcdRow (w : World) (a : Option Addr) (n : Nat) (l : List Rcd) : Prop where
  cells : Cells w 8 a n (l.map Rcd.cells)
  few : n ≤ 100
  each : ∀ i, i < l.length → (l.getD i noRcd).id.length ≤ 100 ∧ (l.getD i noRcd).fr.length ≤ 100 ∧ (l.getD i noRcd).to_.length ≤ 100 ∧ (l.getD i noRcd).carrier.length ≤ 100 ∧ (-2000000000000 ≤ (l.getD i noRcd).at_ ∧ (l.getD i noRcd).at_ ≤ 2000000000000) ∧ (-2000000000000 ≤ (l.getD i noRcd).ring ∧ (l.getD i noRcd).ring ≤ 2000000000000) ∧ (-2000000000000 ≤ (l.getD i noRcd).talk ∧ (l.getD i noRcd).talk ≤ 2000000000000) ∧ (-2000000000000 ≤ (l.getD i noRcd).how ∧ (l.getD i noRcd).how ≤ 2000000000000)
theorem RcdRow.below {w w' : World} {a : Option Addr} {n : Nat} {l : List Rcd} (h : RcdRow w a n l) (hb : Below w.heap.size w w') : RcdRow w' a n l := ⟨h.cells.below hb, h.few, h.each⟩
theorem RcdRow.len {w : World} {a : Option Addr} {n : Nat} {l : List Rcd} (h : RcdRow w a n l) : n = l.length := by have := h.cells.len; simpa using this
theorem RcdRow.at {w : World} {a : Option Addr} {n : Nat} {l : List Rcd} (h : RcdRow w a n l) (hn : 0 < n) : ∃ b off, a = some ⟨b, off, none⟩ ∧ b < w.heap.size ∧ ∀ i, i < n → w.cell? ⟨b, off + i * 8, none⟩ = some (.string ⟨(l.getD i noRcd).id.toArray⟩) ∧ w.cell? ⟨b, off + i * 8 + 1, none⟩ = some (.string ⟨(l.getD i noRcd).fr.toArray⟩) ∧ w.cell? ⟨b, off + i * 8 + 2, none⟩ = some (.string ⟨(l.getD i noRcd).to_.toArray⟩) ∧ w.cell? ⟨b, off + i * 8 + 3, none⟩ = some (.int .i64 (l.getD i noRcd).at_) ∧ w.cell? ⟨b, off + i * 8 + 4, none⟩ = some (.int .i64 (l.getD i noRcd).ring) ∧ w.cell? ⟨b, off + i * 8 + 5, none⟩ = some (.int .i64 (l.getD i noRcd).talk) ∧ w.cell? ⟨b, off + i * 8 + 6, none⟩ = some (.int .i64 (l.getD i noRcd).how) ∧ w.cell? ⟨b, off + i * 8 + 7, none⟩ = some (.string ⟨(l.getD i noRcd).carrier.toArray⟩) := by
  have hl := h.len
  rcases h.cells.row with h0 | ⟨b, off, ha, hb, hc⟩
  · omega
  · refine ⟨b, off, ha, hb, fun i hi => ?_⟩
    have k0 := hc i hi 0 (by omega)
    have k1 := hc i hi 1 (by omega)
    have k2 := hc i hi 2 (by omega)
    have k3 := hc i hi 3 (by omega)
    have k4 := hc i hi 4 (by omega)
    have k5 := hc i hi 5 (by omega)
    have k6 := hc i hi 6 (by omega)
    have k7 := hc i hi 7 (by omega)
    rw [getD_map Rcd.cells l i noRcd [] (by omega)] at k0 k1 k2 k3 k4 k5 k6 k7
    exact ⟨k0, k1, k2, k3, k4, k5, k6, k7⟩
theorem RcdRow.of_own {w : World} {base : Nat} {e : TypeId} {v : Value} {n : Nat} {l : List Rcd} (h : w.ownsRow base e 8 v n ((l.map Rcd.cells).flatten)) (hf : n ≤ 100) (he : ∀ i, i < l.length → (l.getD i noRcd).id.length ≤ 100 ∧ (l.getD i noRcd).fr.length ≤ 100 ∧ (l.getD i noRcd).to_.length ≤ 100 ∧ (l.getD i noRcd).carrier.length ≤ 100 ∧ (-2000000000000 ≤ (l.getD i noRcd).at_ ∧ (l.getD i noRcd).at_ ≤ 2000000000000) ∧ (-2000000000000 ≤ (l.getD i noRcd).ring ∧ (l.getD i noRcd).ring ≤ 2000000000000) ∧ (-2000000000000 ≤ (l.getD i noRcd).talk ∧ (l.getD i noRcd).talk ≤ 2000000000000) ∧ (-2000000000000 ≤ (l.getD i noRcd).how ∧ (l.getD i noRcd).how ≤ 2000000000000)) : ∃ a c, v = .slice a n c ∧ n ≤ c ∧ RcdRow w a n l := by
  obtain ⟨a, c, rfl, hcs⟩ := Cells.of_own h (fun x hx => by obtain ⟨y, _, rfl⟩ := List.mem_map.1 hx; rfl) (by decide)
  exact ⟨a, c, rfl, (own_caps h).2, ⟨hcs, hf, he⟩⟩
end Go.Proofs.YtacekbbndamkmaaGreatDoor

set_option linter.unusedVariables false
set_option linter.unusedSimpArgs false
namespace Go.Proofs.YtacekbbndamkmaaGreatDoor
open Go.RowKit

theorem rec_zero {l : List Carr} {rs : List Rcd} {k : Nat} (h : recErr l rs k = 0) : 0 ≤ (rs.getD k noRcd).talk ∧ (rs.getD k noRcd).talk ≤ 86400000 := by
  have : inB (rs.getD k noRcd).talk 0 86400000 = true := by
    cases h9 : inB (rs.getD k noRcd).talk 0 86400000 with
    | true => rfl
    | false => unfold recErr at h; rw [if_pos (Or.inr h9)] at h; cases h
  unfold inB at this
  simpa using this
theorem recs_zero {l : List Carr} {rs : List Rcd} {f t : Int} (hl : rs.length ≤ 3000) (h : recsErr l rs f t = 0) : (∀ i, i < rs.length → 0 ≤ (rs.getD i noRcd).talk ∧ (rs.getD i noRcd).talk ≤ 86400000) ∧ 0 ≤ f ∧ f ≤ t ∧ t ≤ 345686400000 := by
  unfold recsErr at h
  rw [if_neg (by omega)] at h
  by_cases h0 : firstErr (recErr l rs) rs.length = 0
  · rw [if_neg (by simp [h0])] at h
    refine ⟨fun i hi => rec_zero (first_zero h0 i hi), ?_⟩
    unfold winErr at h
    split at h
    · assumption
    · cases h
  · rw [if_pos h0] at h; exact absurd h h0
theorem quals_len (l : List Carr) (rs : List Rcd) (f t : Int) (k : Nat) : (quals l rs f t k).length ≤ k := by
  unfold quals
  exact Nat.le_trans (List.length_filterMap_le _ _) (by simp)
theorem cnt_succ (rs : List Rcd) (key : List UInt8) (f t : Int) (k : Nat) :
    (((rs.getD k noRcd).carrier = key ∧ f ≤ (rs.getD k noRcd).at_ ∧ (rs.getD k noRcd).at_ < t) → (rs.getD k noRcd).how = 1 → cntTo rs key f t (k + 1) = ⟨(cntTo rs key f t k).calls + 1, (cntTo rs key f t k).good + 1, (cntTo rs key f t k).talk + (rs.getD k noRcd).talk⟩) ∧
    (((rs.getD k noRcd).carrier = key ∧ f ≤ (rs.getD k noRcd).at_ ∧ (rs.getD k noRcd).at_ < t) → (rs.getD k noRcd).how ≠ 1 → cntTo rs key f t (k + 1) = ⟨(cntTo rs key f t k).calls + 1, (cntTo rs key f t k).good, (cntTo rs key f t k).talk⟩) ∧
    (¬ ((rs.getD k noRcd).carrier = key ∧ f ≤ (rs.getD k noRcd).at_ ∧ (rs.getD k noRcd).at_ < t) → cntTo rs key f t (k + 1) = ⟨(cntTo rs key f t k).calls, (cntTo rs key f t k).good, (cntTo rs key f t k).talk⟩) := by
  have e : cntTo rs key f t (k + 1) = if inWin key f t (rs.getD k noRcd) then (if (rs.getD k noRcd).how = 1 then ⟨(cntTo rs key f t k).calls + 1, (cntTo rs key f t k).good + 1, (cntTo rs key f t k).talk + (rs.getD k noRcd).talk⟩ else ⟨(cntTo rs key f t k).calls + 1, (cntTo rs key f t k).good, (cntTo rs key f t k).talk⟩) else cntTo rs key f t k := rfl
  rw [e]
  have i : inWin key f t (rs.getD k noRcd) ↔ ((rs.getD k noRcd).carrier = key ∧ f ≤ (rs.getD k noRcd).at_ ∧ (rs.getD k noRcd).at_ < t) := Iff.rfl
  exact ⟨fun h1 h2 => by rw [if_pos (i.2 h1), if_pos h2], fun h1 h2 => by rw [if_pos (i.2 h1), if_neg h2], fun h1 => by rw [if_neg (fun h => h1 (i.1 h))]⟩
theorem qcells_snoc (l : List Qual) (q : Qual) : ((l ++ [q]).map Qual.cells).flatten = (l.map Qual.cells).flatten ++ Qual.cells q := by simp
theorem wp_val {P : Program} {o : Oper} {a : Act} {w w' : World} {v : Value} {K : Act → World → Prop} {Q : Exit → Act → World → Prop} (h : (execOp a.eval o).run P w = .ok (.value v) w') (hk : K (a.put o.dst v) w') : o.wp P a w K Q := by
  unfold Oper.wp
  rw [h]
  exact hk
end Go.Proofs.YtacekbbndamkmaaGreatDoor

set_option linter.unusedVariables false
set_option linter.unusedSimpArgs false
namespace Go.Proofs.YtacekbbndamkmaaGreatDoor
open Go.RowKit

theorem Tryz.deckSz : (Tryz.prog.info? 28).map (·.size) = some 5 := by kernel_rfl
theorem Tryz.rateSz : (Tryz.prog.info? 51).map (·.size) = some 3 := by kernel_rfl
/-- What a call by a rate costs. -/
def paidR (dl dp talk : Int) : Int := if dl < talk then dl + (talk - dl + dp - 1) / dp * dp else dl
def priceR (ds dl dp pr talk : Int) : Int := if talk = 0 then ds else ds + (pr * paidR dl dp talk + 59999) / 60000
theorem paid_bound {dl dp talk : Int} (h2 : 0 ≤ dl ∧ dl ≤ 86400000) (h3 : 1 ≤ dp ∧ dp ≤ 86400000) (h5 : 0 ≤ talk ∧ talk ≤ 86400000) : 0 ≤ paidR dl dp talk ∧ paidR dl dp talk ≤ 200000000 := by
  unfold paidR
  split
  · rename_i h
    have q1 := Int.ediv_mul_le (talk - dl + dp - 1) (show dp ≠ 0 by omega)
    have q2 : 0 ≤ (talk - dl + dp - 1) / dp * dp := Int.mul_nonneg (Int.ediv_nonneg (by omega) (by omega)) (by omega)
    omega
  · omega

set_option maxRecDepth 100000 in
set_option maxHeartbeats 2000000 in
theorem priceC_any (w : World) (df ds dl dp : Int) (ra : Option Addr) (rn rc : Nat) (p : List UInt8) (pr : Int) (cl : Bool) (talk : Int) (h1 : 0 ≤ ds ∧ ds ≤ 100000000) (h2 : 0 ≤ dl ∧ dl ≤ 86400000) (h3 : 1 ≤ dp ∧ dp ≤ 86400000) (h4 : 0 ≤ pr ∧ pr ≤ 100000000) (h5 : 0 ≤ talk ∧ talk ≤ 86400000) :
    Calls Tryz.prog 95 #[.agg #[.int .i64 df, .int .i64 ds, .int .i64 dl, .int .i64 dp, .slice ra rn rc], .agg #[.string ⟨p.toArray⟩, .int .i64 pr, .bool cl], .int .i64 talk] w fun e w' => e = .returned (.int .i64 (priceR ds dl dp pr talk)) ∧ Below w.heap.size w w' := by
  have hd : Hid (priceR ds dl dp pr talk = if talk = 0 then ds else ds + (pr * paidR dl dp talk + 59999) / 60000) := rfl
  have hp : Hid (paidR dl dp talk = if dl < talk then dl + (talk - dl + dp - 1) / dp * dp else dl) := rfl
  have hpb := paid_bound h2 h3 h5
  have q0 : 0 ≤ (talk - dl + dp - 1) / dp * dp ∨ ¬ dl < talk := by
    by_cases h : dl < talk
    · exact Or.inl (Int.mul_nonneg (Int.ediv_nonneg (by omega) (by omega)) (by omega))
    · exact Or.inr h
  have q1 := Int.ediv_mul_le (talk - dl + dp - 1) (show dp ≠ 0 by omega)
  generalize priceR ds dl dp pr talk = R at hd ⊢
  generalize paidR dl dp talk = M at hd hp hpb
  go_enter Tryz.func95, Tryz.ntmps95
  go_upto_region 1 with (fail)
  have HD : Hid (Blk ((w.alloc (.cells #[.int .i64 df, .int .i64 ds, .int .i64 dl, .int .i64 dp, .slice ra rn rc] 28)).alloc (.cells #[.string ⟨p.toArray⟩, .int .i64 pr, .bool cl] 51)) w.heap.size [.int .i64 df, .int .i64 ds, .int .i64 dl, .int .i64 dp, .slice ra rn rc] 28) := (Blk.new w [.int .i64 df, .int .i64 ds, .int .i64 dl, .int .i64 dp, .slice ra rn rc] 28).alloc _
  have HZ : Hid (Blk ((w.alloc (.cells #[.int .i64 df, .int .i64 ds, .int .i64 dl, .int .i64 dp, .slice ra rn rc] 28)).alloc (.cells #[.string ⟨p.toArray⟩, .int .i64 pr, .bool cl] 51)) (w.heap.size + 1) [.string ⟨p.toArray⟩, .int .i64 pr, .bool cl] 51) := by
    have := Blk.new (w.alloc (.cells #[.int .i64 df, .int .i64 ds, .int .i64 dl, .int .i64 dp, .slice ra rn rc] 28)) [.string ⟨p.toArray⟩, .int .i64 pr, .bool cl] 51
    show Blk _ _ _ _
    simpa using this
  have HB : Hid (Below w.heap.size w ((w.alloc (.cells #[.int .i64 df, .int .i64 ds, .int .i64 dl, .int .i64 dp, .slice ra rn rc] 28)).alloc (.cells #[.string ⟨p.toArray⟩, .int .i64 pr, .bool cl] 51))) := ext_alloc (ext_alloc (Below.refl _ _))
  generalize World.alloc (World.alloc w _) _ = W at HD HZ HB ⊢
  have k1 := HD.out.cell 1 rfl
  have k2 := HD.out.cell 2 rfl
  have k3 := HD.out.cell 3 rfl
  have k4 := HZ.out.cell 1 rfl
  clear HD HZ
  by_cases ht : talk = 0
  · have ht2 : (talk == 0) = true := by simpa using ht
    have hR : Hid (R = ds) := by show R = ds; rw [hd.out, if_pos ht]
    clear hd hp hpb q0 q1 h5 ht
    as_aux_lemma =>
      go_wp2_with fail
      go_ret
      exact ⟨by rw [hR.out]; rfl, HB.out⟩
  · have ht2 : (talk == 0) = false := by simpa using ht
    have hR : Hid (R = ds + (pr * M + 59999) / 60000) := by show R = _; rw [hd.out, if_neg ht]
    have m0 : 0 ≤ pr * M := Int.mul_nonneg h4.1 hpb.1
    have m1 : pr * M ≤ 100000000 * 200000000 := Int.mul_le_mul h4.2 hpb.2 hpb.1 (by omega)
    have v1 : IntKind.i64.wrap (pr * M) = pr * M := IntWalk.i64_in _ (by omega)
    have v2 : IntKind.i64.wrap (pr * M + 59999) = pr * M + 59999 := IntWalk.i64_in _ (by omega)
    have v3 : (pr * M + 59999).tdiv 60000 = (pr * M + 59999) / 60000 := Int.tdiv_eq_ediv_of_nonneg (by omega)
    have v4 : IntKind.i64.wrap ((pr * M + 59999) / 60000) = (pr * M + 59999) / 60000 := IntWalk.i64_in _ (by omega)
    have v5 : IntKind.i64.wrap (ds + (pr * M + 59999) / 60000) = ds + (pr * M + 59999) / 60000 := IntWalk.i64_in _ (by omega)
    clear hd ht
    by_cases hlt : dl < talk
    · obtain rfl : M = dl + (talk - dl + dp - 1) / dp * dp := by rw [hp.out, if_pos hlt]
      have q2 : 0 ≤ (talk - dl + dp - 1) / dp * dp := by omega
      have q3 : (talk - dl + dp - 1).tdiv dp = (talk - dl + dp - 1) / dp := Int.tdiv_eq_ediv_of_nonneg (by omega)
      have q4 : 0 ≤ (talk - dl + dp - 1) / dp := Int.ediv_nonneg (by omega) (by omega)
      have q5 : (talk - dl + dp - 1) / dp ≤ 172800000 := Int.ediv_le_of_le_mul (by omega) (by have : (172800000 : Int) * 1 ≤ 172800000 * dp := Int.mul_le_mul_of_nonneg_left h3.1 (by omega); omega)
      have u1 : IntKind.i64.wrap (talk - dl) = talk - dl := IntWalk.i64_in _ (by omega)
      have u2 : IntKind.i64.wrap (talk - dl + dp) = talk - dl + dp := IntWalk.i64_in _ (by omega)
      have u3 : IntKind.i64.wrap (talk - dl + dp - 1) = talk - dl + dp - 1 := IntWalk.i64_in _ (by omega)
      generalize (talk - dl + dp - 1) / dp = q at hp q0 q1 q2 q3 q4 q5 hpb hR m0 m1 v1 v2 v3 v4 v5
      have u4 : IntKind.i64.wrap q = q := IntWalk.i64_in _ (by omega)
      have u5 : IntKind.i64.wrap (q * dp) = q * dp := IntWalk.i64_in _ (by omega)
      have u6 : IntKind.i64.wrap (dl + q * dp) = dl + q * dp := IntWalk.i64_in _ (by omega)
      have hz : ¬ dp = 0 := by omega
      clear hp q0 q1 q2 q4 q5 hpb m0 m1 h1 h4 h5
      as_aux_lemma =>
        go_wp2_with fail
        go_quiet (fail)
        go_wp2_with fail
        go_ret
        exact ⟨by rw [hR.out]; rfl, (by (try show Below _ _ _); repeat (with_reducible first | exact Below.refl _ _ | assumption | exact Hid.out (by assumption) | refine ext_alloc ?_ | refine ext_drewN ?_ | refine ext_drew ?_ | refine ext_setCell ?_ (Nat.le_refl _) | refine ext_setCell ?_ (Nat.le_succ _) | refine ext_trans ?_ (by assumption) | (refine ext_setCell ?_ (by simp)) | (refine ext_setCell ?_ (by simp at *; omega))))⟩
    · obtain rfl : M = dl := by rw [hp.out, if_neg hlt]
      clear hp q0 q1 hpb m0 m1 h1 h4 h5
      as_aux_lemma =>
        go_wp2_with fail
        go_ret
        exact ⟨by rw [hR.out]; rfl, HB.out⟩
theorem findR_mem {cs : List Rate} {t : List UInt8} {r : Rate} (h : findR cs t = some r) : r ∈ cs := List.mem_of_find?_eq_some h
theorem rateTo_mem {cs : List Rate} {l : List UInt8} {r : Rate} : ∀ k, rateTo cs l k = some r → r ∈ cs
  | 0, h => findR_mem h
  | k + 1, h => by
    unfold rateTo at h
    cases h9 : findR cs (l.take (k + 1)) with
    | none => rw [h9] at h; exact rateTo_mem k h
    | some x => rw [h9] at h; injection h with h; subst h; exact findR_mem h9
/-- What a call costs, and whether it can be. -/
def priceV (ds dl dp : Int) (cs : List Rate) (l : List UInt8) (talk : Int) : Int × Bool :=
  match rateOf cs l 15 with
  | none => (0, false)
  | some r => if r.closed = true then (0, false) else (priceR ds dl dp r.price talk, true)
/-- Numbers of a deck, and its rates, are right. -/
structure DeckGood (ds dl dp : Int) (cs : List Rate) : Prop where
  h1 : 0 ≤ ds ∧ ds ≤ 100000000
  h2 : 0 ≤ dl ∧ dl ≤ 86400000
  h3 : 1 ≤ dp ∧ dp ≤ 86400000
  sorted : RSorted cs
  each : ∀ r ∈ cs, 0 ≤ r.price ∧ r.price ≤ 100000000
theorem deck_good {d : Deck} (hl : d.rates.length ≤ 5000) (h : deckErr d = 0) : DeckGood d.setup d.least d.step d.rates := by
  have hn : deckNum d = true := by
    cases h9 : deckNum d with
    | true => rfl
    | false => unfold deckErr at h; rw [if_pos h9] at h; cases h
  unfold deckErr at h
  rw [if_neg (by rw [hn]; decide), if_neg (by omega)] at h
  have hz := first_zero h
  unfold deckNum inB at hn
  simp only [Bool.and_eq_true, decide_eq_true_eq] at hn
  have each : ∀ i, i < d.rates.length → (0 < i → Op.bytesLess (d.rates.getD (i - 1) noRate).p (d.rates.getD i noRate).p = true) ∧ 0 ≤ (d.rates.getD i noRate).price ∧ (d.rates.getD i noRate).price ≤ 100000000 := fun i hi => by
    have h9 := hz i hi
    unfold rateErr at h9
    split at h9
    · cases h9
    · split at h9
      · cases h9
      · rename_i h2
        split at h9
        · cases h9
        · rename_i h3
          refine ⟨fun h0 => ?_, ?_⟩
          · cases h4 : Op.bytesLess (d.rates.getD (i - 1) noRate).p (d.rates.getD i noRate).p with
            | true => rfl
            | false => exact absurd ⟨h0, h4⟩ h2
          · have h3 : inB (d.rates.getD i noRate).price 0 100000000 = true := by simpa using h3
            unfold inB at h3
            simpa using h3
  refine ⟨hn.2.1, hn.2.2.1, hn.2.2.2, fun i h0 hi => (each i hi).1 h0, fun r hr => ?_⟩
  obtain ⟨j, hj, rfl⟩ := List.getElem_of_mem hr
  have := (each j hj).2
  rwa [List.getD_eq_getElem?_getD, List.getElem?_eq_getElem hj] at this
def PriceOfPost (r : Int × Bool) (w : World) (e : Ending) (w' : World) : Prop := e = .returned (.tuple #[.int .i64 r.1, .bool r.2]) ∧ Below w.heap.size w w'
set_option maxRecDepth 100000 in
set_option maxHeartbeats 2000000 in
theorem priceOf_any (w : World) (df ds dl dp : Int) (ra : Option Addr) (rn rc : Nat) (cs : List Rate) (l : List UInt8) (talk : Int) (hr : RateRow w ra rn cs) (hg : DeckGood ds dl dp cs) (hl : l.length ≤ 1000) (h5 : 0 ≤ talk ∧ talk ≤ 86400000) :
    Calls Tryz.prog 56 #[.agg #[.int .i64 df, .int .i64 ds, .int .i64 dl, .int .i64 dp, .slice ra rn rc], .string ⟨l.toArray⟩, .int .i64 talk] w (PriceOfPost (priceV ds dl dp cs l talk) w) := by
  obtain ⟨h1, h2, h3, ho, he⟩ := hg
  have HR := Lib.hid (rate_any (w.alloc (.cells #[.int .i64 df, .int .i64 ds, .int .i64 dl, .int .i64 dp, .slice ra rn rc] 28)) df ds dl dp ra rn rc cs l 15 (hr.below (ext_alloc (Below.refl _ _))) ho hl (by omega))
  have HV : Hid (priceV ds dl dp cs l talk = match rateOf cs l 15 with | none => (0, false) | some r => if r.closed = true then (0, false) else (priceR ds dl dp r.price talk, true)) := rfl
  have HM : Hid (∀ r, rateOf cs l 15 = some r → 0 ≤ r.price ∧ r.price ≤ 100000000) := fun r h => he r (rateTo_mem _ h)
  generalize priceV ds dl dp cs l talk = V at HV ⊢
  generalize rateOf cs l 15 = o at HV HR HM
  clear hr ho he hl
  go_enter Tryz.func56, Tryz.ntmps56
  go_upto_region 1 with (fail)
  have HD : Hid (Blk (w.alloc (.cells #[.int .i64 df, .int .i64 ds, .int .i64 dl, .int .i64 dp, .slice ra rn rc] 28)) w.heap.size [.int .i64 df, .int .i64 ds, .int .i64 dl, .int .i64 dp, .slice ra rn rc] 28) := Blk.new w [.int .i64 df, .int .i64 ds, .int .i64 dl, .int .i64 dp, .slice ra rn rc] 28
  have HB : Hid (Below w.heap.size w (w.alloc (.cells #[.int .i64 df, .int .i64 ds, .int .i64 dl, .int .i64 dp, .slice ra rn rc] 28))) := ext_alloc (Below.refl _ _)
  have hsz : w.heap.size < (w.alloc (.cells #[.int .i64 df, .int .i64 ds, .int .i64 dl, .int .i64 dp, .slice ra rn rc] 28)).heap.size := by simp
  generalize w.alloc _ = W at HD HB HR hsz ⊢
  have HRA : Hid (W.rangeAt w.heap.size 0 [.int .i64 df, .int .i64 ds, .int .i64 dl, .int .i64 dp, .slice ra rn rc]) := fun j v hj => by rw [Nat.zero_add]; exact HD.out.cell j hj
  as_aux_lemma =>
    go_wp2_with (refine wpList_load_mid rfl 28 (.tmp 3) rfl w.heap.size 0 rfl [.int .i64 df, .int .i64 ds, .int .i64 dl, .int .i64 dp, .slice ra rn rc] _ HRA.out Tryz.underlying28 rfl Tryz.deckSz ?_)
    refine HR.out.mono ?_
    rintro e w1 ⟨hb1, rfl⟩
    have HB1 := Lib.hid (ext_trans HB.out hb1)
    have HD1 := Lib.hid (HD.out.below hb1)
    have hz1 : w.heap.size < w1.heap.size := by have := hb1.size; omega
    clear hb1 HB HD HRA HR hsz
    cases o with
    | none =>
      obtain rfl : V = (0, false) := HV.out
      clear HV HM
      as_aux_lemma =>
        go_wp2_with fail
        go_ret2
        exact ⟨rfl, (by (try show Below _ _ _); repeat (with_reducible first | exact Below.refl _ _ | assumption | exact Hid.out (by assumption) | refine ext_alloc ?_ | refine ext_drewN ?_ | refine ext_drew ?_ | refine ext_setCell ?_ (Nat.le_refl _) | refine ext_setCell ?_ (Nat.le_succ _) | refine ext_trans ?_ (by assumption) | (refine ext_setCell ?_ (by simp)) | (refine ext_setCell ?_ (by simp at *; omega))))⟩
    | some r =>
      obtain ⟨rp, pr, cl⟩ := r
      obtain ⟨h40, h41⟩ := HM.out _ rfl
      clear HM
      simp only [Option.getD_some, Option.isSome_some] at h40 h41 ⊢
      cases cl with
      | true =>
        obtain rfl : V = (0, false) := HV.out
        clear HV
        as_aux_lemma =>
          go_wp2_with fail
          go_ret2
          exact ⟨rfl, (by (try show Below _ _ _); repeat (with_reducible first | exact Below.refl _ _ | assumption | exact Hid.out (by assumption) | refine ext_alloc ?_ | refine ext_drewN ?_ | refine ext_drew ?_ | refine ext_setCell ?_ (Nat.le_refl _) | refine ext_setCell ?_ (Nat.le_succ _) | refine ext_trans ?_ (by assumption) | (refine ext_setCell ?_ (by simp)) | (refine ext_setCell ?_ (by simp at *; omega))))⟩
      | false =>
        obtain rfl : V = (priceR ds dl dp pr talk, true) := HV.out
        clear HV
        have HP := Lib.hid (fun W => priceC_any W df ds dl dp ra rn rc rp pr false talk h1 h2 h3 ⟨h40, h41⟩ h5)
        have d0 := HD1.out.cell 0 rfl
        have d1 := HD1.out.cell 1 rfl
        have d2 := HD1.out.cell 2 rfl
        have d3 := HD1.out.cell 3 rfl
        have d4 := HD1.out.cell 4 rfl
        have hne : w.heap.size ≠ w1.heap.size := by omega
        have hne2 : w1.heap.size ≠ w.heap.size := by omega
        as_aux_lemma =>
          go_wp2_with fail
          refine (HP.out _).mono ?_
          rintro e w2 ⟨rfl, hb2⟩
          have HB2 := Lib.hid hb2
          go_wp2_with fail
          go_ret2
          exact ⟨rfl, (by (try show Below _ _ _); repeat (with_reducible first | exact Below.refl _ _ | assumption | exact Hid.out (by assumption) | refine ext_alloc ?_ | refine ext_drewN ?_ | refine ext_drew ?_ | refine ext_setCell ?_ (Nat.le_refl _) | refine ext_setCell ?_ (Nat.le_succ _) | refine ext_trans ?_ (by assumption) | (refine ext_setCell ?_ (by simp)) | (refine ext_setCell ?_ (by simp at *; omega))))⟩
theorem priceOf_str (w : World) (df ds dl dp : Int) (ra : Option Addr) (rn rc : Nat) (cs : List Rate) (l : List UInt8) (s : ByteArray) (hs : s = ⟨l.toArray⟩) (talk : Int) (hr : RateRow w ra rn cs) (hg : DeckGood ds dl dp cs) (hl : l.length ≤ 1000) (h5 : 0 ≤ talk ∧ talk ≤ 86400000) :
    Calls Tryz.prog 56 #[.agg #[.int .i64 df, .int .i64 ds, .int .i64 dl, .int .i64 dp, .slice ra rn rc], .string s, .int .i64 talk] w (PriceOfPost (priceV ds dl dp cs l talk) w) := by
  subst hs
  exact priceOf_any w df ds dl dp ra rn rc cs l talk hr hg hl h5
/-- The error of Price; what it answers. -/
def priceE (d : Deck) (n : List UInt8) (talk : Int) : Int := if deckErr d ≠ 0 then deckErr d else if isNumB n = false then 3 else if inB talk 0 86400000 = false then 1 else 0
def priceA (d : Deck) (n : List UInt8) (talk : Int) : Int × Bool := if priceE d n talk = 0 then priceV d.setup d.least d.step d.rates (n.drop 1) talk else (0, false)
def PricePost (d : Deck) (n : List UInt8) (talk : Int) (w : World) (e : Ending) (w' : World) : Prop := e = .returned (.tuple #[.int .i64 (priceA d n talk).1, .bool (priceA d n talk).2, .int .i64 (priceE d n talk)]) ∧ Below w.heap.size w w'
theorem price_bad {d : Deck} {n : List UInt8} {talk E : Int} {w w' : World} (h : priceE d n talk = E) (hE : E ≠ 0) (hb : Below w.heap.size w w') : PricePost d n talk w (.returned (.tuple #[.int .i64 0, .bool false, .int .i64 E])) w' := by
  unfold PricePost priceA
  rw [h, if_neg hE]
  exact ⟨rfl, hb⟩
theorem price_fine {d : Deck} {n : List UInt8} {talk : Int} {w w' : World} (h : priceE d n talk = 0) (hb : Below w.heap.size w w') : PricePost d n talk w (.returned (.tuple #[.int .i64 (priceV d.setup d.least d.step d.rates (n.drop 1) talk).1, .bool (priceV d.setup d.least d.step d.rates (n.drop 1) talk).2, .int .i64 0])) w' := by
  unfold PricePost priceA
  rw [h, if_pos rfl]
  exact ⟨rfl, hb⟩
set_option maxRecDepth 100000 in
set_option maxHeartbeats 2000000 in
theorem carPrice_any (w : World) (d : Deck) (hd : DeckFine w d) (n : List UInt8) (hn : n.length ≤ 1000) (talk : Int) : Calls Tryz.prog 27 #[.agg d.cells.toArray, .string ⟨n.toArray⟩, .int .i64 talk] w (PricePost d n talk w) := by
  have hlen := hd.row.len
  have hfew := hd.row.few
  have hgood := fun h => deck_good (d := d) (by omega) h
  have HG := Lib.hid hgood
  have HCD := Lib.hid (fun W (h : DeckFine W d) => checkDeck_any W d h)
  have HE : Hid (∀ E, priceE d n talk = E → priceE d n talk = E) := fun _ h => h
  have HR0 := Lib.hid hd
  have HBD : Hid (∀ W, Below w.heap.size w W → ∀ E, E ≠ 0 → priceE d n talk = E → PricePost d n talk w (.returned (.tuple #[.int .i64 0, .bool false, .int .i64 E])) W) := fun W hW E hE h => price_bad h hE hW
  have HOK : Hid (∀ W, Below w.heap.size w W → priceE d n talk = 0 → PricePost d n talk w (.returned (.tuple #[.int .i64 (priceV d.setup d.least d.step d.rates (n.drop 1) talk).1, .bool (priceV d.setup d.least d.step d.rates (n.drop 1) talk).2, .int .i64 0])) W) := fun W hW h => price_fine h hW
  have HEE : Hid (priceE d n talk = if deckErr d ≠ 0 then deckErr d else if isNumB n = false then 3 else if inB talk 0 86400000 = false then 1 else 0) := rfl
  generalize priceE d n talk = X at HBD HOK HEE
  clear hd hlen hfew hgood HE
  obtain ⟨df, ds, dl, dp, ra, rn, rc, rates⟩ := d
  generalize hpp : PricePost ⟨df, ds, dl, dp, ra, rn, rc, rates⟩ n talk w = PP at HBD HOK ⊢
  clear hpp
  generalize deckErr ⟨df, ds, dl, dp, ra, rn, rc, rates⟩ = DE at HEE HG HCD
  show Calls Tryz.prog 27 #[.agg #[.int .i64 df, .int .i64 ds, .int .i64 dl, .int .i64 dp, .slice ra rn rc], .string ⟨n.toArray⟩, .int .i64 talk] w _
  simp only [Deck.cells] at HG HOK HCD
  go_enter Tryz.func27, Tryz.ntmps27
  go_upto_region 1 with (fail)
  have HD : Hid (Blk (w.alloc (.cells #[.int .i64 df, .int .i64 ds, .int .i64 dl, .int .i64 dp, .slice ra rn rc] 28)) w.heap.size [.int .i64 df, .int .i64 ds, .int .i64 dl, .int .i64 dp, .slice ra rn rc] 28) := Blk.new w [.int .i64 df, .int .i64 ds, .int .i64 dl, .int .i64 dp, .slice ra rn rc] 28
  have HB : Hid (Below w.heap.size w (w.alloc (.cells #[.int .i64 df, .int .i64 ds, .int .i64 dl, .int .i64 dp, .slice ra rn rc] 28))) := ext_alloc (Below.refl _ _)
  have hsz : w.heap.size < (w.alloc (.cells #[.int .i64 df, .int .i64 ds, .int .i64 dl, .int .i64 dp, .slice ra rn rc] 28)).heap.size := by simp
  generalize w.alloc _ = W at HD HB hsz ⊢
  have HRA : Hid (W.rangeAt w.heap.size 0 [.int .i64 df, .int .i64 ds, .int .i64 dl, .int .i64 dp, .slice ra rn rc]) := fun j v hj => by rw [Nat.zero_add]; exact HD.out.cell j hj
  as_aux_lemma =>
    go_wp2_with (refine wpList_load_mid rfl 28 (.tmp 3) rfl w.heap.size 0 rfl [.int .i64 df, .int .i64 ds, .int .i64 dl, .int .i64 dp, .slice ra rn rc] _ HRA.out Tryz.underlying28 rfl Tryz.deckSz ?_)
    refine (HCD.out _ (HR0.out.below HB.out)).mono ?_
    rintro e w1 ⟨rfl, hb1⟩
    have HB1 := Lib.hid (ext_trans HB.out hb1)
    have HD1 := Lib.hid (HD.out.below hb1)
    have hz1 : w.heap.size < w1.heap.size := by have := hb1.size; omega
    clear hb1 HB HD HRA HCD hsz
    by_cases hDE : DE = 0
    case neg =>
      obtain rfl : X = DE := by rw [HEE.out, if_pos hDE]
      have HF := Lib.hid (HBD.out w1 HB1.out X hDE rfl)
      clear HBD HOK HEE HG
      as_aux_lemma =>
        go_wp2_with fail
        go_ret3
        exact HF.out
    subst hDE
    have HE1 : Hid (X = if isNumB n = false then 3 else if inB talk 0 86400000 = false then 1 else 0) := by show X = _; rw [HEE.out, if_neg (by decide)]
    clear HEE
    have HIN := Lib.hid (isNumber_l n w1 (by omega))
    have HNL : Hid (isNumB n = true → 1 ≤ n.length) := fun h => by obtain ⟨d, rfl, -⟩ := num_parts h; simp
    generalize isNumB n = g1 at HE1 HIN HNL
    skip
    as_aux_lemma =>
      go_wp2_with fail
      refine HIN.out.mono ?_
      rintro e w2 ⟨rfl, hb2⟩
      have HB2 := Lib.hid (ext_trans HB1.out hb2)
      have HD2 := Lib.hid (HD1.out.below hb2)
      have hz2 : w.heap.size < w2.heap.size := by have := hb2.size; omega
      clear hb2 HB1 HD1 HIN
      cases g1
      · obtain rfl : X = 3 := by rw [HE1.out, if_pos rfl]
        have HF := Lib.hid (HBD.out w2 HB2.out 3 (by decide) rfl)
        clear HBD HOK HE1 HG
        skip
        as_aux_lemma =>
          go_wp2_with fail
          go_ret3
          exact HF.out
      have HE2 : Hid (X = if inB talk 0 86400000 = false then 1 else 0) := by show X = _; rw [HE1.out, if_neg (by decide)]
      have HTK : Hid (inB talk 0 86400000 = true → 0 ≤ talk ∧ talk ≤ 86400000) := fun h => by unfold inB at h; simpa using h
      clear HE1
      skip
      as_aux_lemma =>
        go_wp2_with fail
        refine (within_c talk 0 86400000 _).mono ?_
        rintro e w3 ⟨rfl, rfl⟩
        generalize inB talk 0 86400000 = g2 at HE2 HTK ⊢
        cases g2
        · obtain rfl : X = 1 := by rw [HE2.out, if_pos rfl]
          have HF := Lib.hid (HBD.out w2 HB2.out 1 (by decide) rfl)
          clear HBD HOK HE2 HG
          skip
          as_aux_lemma =>
            go_wp2_with fail
            go_ret3
            exact HF.out
        obtain rfl : X = 0 := by rw [HE2.out, if_neg (by decide)]
        have ht := HTK.out rfl
        have HF := Lib.hid (fun W hW => HOK.out W hW rfl)
        have HDG := Lib.hid (HG.out (by trivial))
        clear HBD HOK HE2 HG HTK
        have HRA : Hid (w2.rangeAt w.heap.size 0 [.int .i64 df, .int .i64 ds, .int .i64 dl, .int .i64 dp, .slice ra rn rc]) := fun j v hj => by rw [Nat.zero_add]; exact HD2.out.cell j hj
        have HRR : Hid (RateRow w2 ra rn rates) := (HR0.out.below HB2.out).row
        have hnd : (n.drop 1).length ≤ 1000 := by rw [List.length_drop]; omega
        simp only [List.drop_one] at HF
        have hn1 : 1 ≤ n.length := HNL.out (by trivial)
        have d0 := HD2.out.cell 0 rfl
        have d1 := HD2.out.cell 1 rfl
        have d2 := HD2.out.cell 2 rfl
        have d3 := HD2.out.cell 3 rfl
        have d4 := HD2.out.cell 4 rfl
        clear HNL HR0 HD2
        have HPO : Hid (∀ W, Below w2.heap.size w2 W → Calls Tryz.prog 56 #[.agg #[.int .i64 df, .int .i64 ds, .int .i64 dl, .int .i64 dp, .slice ra rn rc], .string ((⟨n.toArray⟩ : ByteArray).extract 1 n.length), .int .i64 talk] W (PriceOfPost (priceV ds dl dp rates (n.drop 1) talk) W)) := fun W hW => priceOf_str W df ds dl dp ra rn rc rates (n.drop 1) _ (extract_drop n 1) talk (HRR.out.below hW) HDG.out hnd ht
        go_wp2_with fail
        go_region_with (go_at_call 56; refine (HPO.out _ (ext_drew (Below.refl _ _))).mono ?_; rintro e w3 ⟨rfl, hb3⟩)
        all_goals
          have HF3 := Lib.hid (HF.out _ (ext_trans (ext_drew HB2.out) hb3))
          clear HF hb3
          go_wp2_with fail
          go_ret3
          exact HF3.out
end Go.Proofs.YtacekbbndamkmaaGreatDoor

set_option linter.unusedVariables false
set_option linter.unusedSimpArgs false
namespace Go.Proofs.YtacekbbndamkmaaGreatDoor
open Go.RowKit

theorem hasPre_c (s p : List UInt8) (w : World) : Calls Tryz.prog 44 #[.string ⟨s.toArray⟩, .string ⟨p.toArray⟩] w fun e w' => e = .returned (.bool (Lib.hasPrefix s p)) ∧ w = w' := (Tryz.strings_HasPrefix ⟨s.toArray⟩ ⟨p.toArray⟩ w).mono (fun e w' h => ⟨h.1, h.2.symm⟩)
/-- The rate with the longest prefix, among the first. -/
def refTo (cs : List Rate) (s : List UInt8) : Nat → Option Rate
  | 0 => none
  | k + 1 => if Lib.hasPrefix s (cs.getD k noRate).p = true ∧ ((refTo cs s k).isSome = false ∨ ((refTo cs s k).getD noRate).p.length < (cs.getD k noRate).p.length) then some (cs.getD k noRate) else refTo cs s k
/-- What both searches find. -/
def BestR (cs : List Rate) (s : List UInt8) (o : Option Rate) : Prop :=
  match o with
  | none => ∀ r ∈ cs, Lib.hasPrefix s r.p = false
  | some r => r ∈ cs ∧ Lib.hasPrefix s r.p = true ∧ ∀ q ∈ cs, Lib.hasPrefix s q.p = true → q.p.length ≤ r.p.length
theorem refTo_best (cs : List Rate) (s : List UInt8) : ∀ k, k ≤ cs.length → (match refTo cs s k with
    | none => ∀ i, i < k → Lib.hasPrefix s (cs.getD i noRate).p = false
    | some r => r ∈ cs ∧ Lib.hasPrefix s r.p = true ∧ ∀ i, i < k → Lib.hasPrefix s (cs.getD i noRate).p = true → (cs.getD i noRate).p.length ≤ r.p.length)
  | 0, _ => by intro i hi; omega
  | k + 1, hk => by
    have ih := refTo_best cs s k (by omega)
    unfold refTo
    cases h9 : refTo cs s k with
    | none =>
      rw [h9] at ih
      simp only at ih
      by_cases h1 : Lib.hasPrefix s (cs.getD k noRate).p = true
      · rw [if_pos ⟨h1, Or.inl rfl⟩]
        refine ⟨mem_getD _ (by omega), h1, fun i hi h2 => ?_⟩
        rcases Nat.lt_succ_iff_lt_or_eq.1 hi with h3 | rfl
        · rw [ih i h3] at h2; cases h2
        · exact Nat.le_refl _
      · rw [if_neg (fun h => h1 h.1)]
        intro i hi
        rcases Nat.lt_succ_iff_lt_or_eq.1 hi with h3 | rfl
        · exact ih i h3
        · simpa using h1
    | some r =>
      rw [h9] at ih
      simp only at ih
      obtain ⟨i1, i2, i3⟩ := ih
      by_cases h1 : Lib.hasPrefix s (cs.getD k noRate).p = true ∧ r.p.length < (cs.getD k noRate).p.length
      · rw [if_pos ⟨h1.1, Or.inr h1.2⟩]
        refine ⟨mem_getD _ (by omega), h1.1, fun i hi h2 => ?_⟩
        rcases Nat.lt_succ_iff_lt_or_eq.1 hi with h3 | rfl
        · have := i3 i h3 h2; omega
        · exact Nat.le_refl _
      · rw [if_neg (fun h => h1 ⟨h.1, h.2.resolve_left (by simp)⟩)]
        refine ⟨i1, i2, fun i hi h2 => ?_⟩
        rcases Nat.lt_succ_iff_lt_or_eq.1 hi with h3 | rfl
        · exact i3 i h3 h2
        · by_cases h4 : (cs.getD i noRate).p.length ≤ r.p.length
          · exact h4
          · exact absurd ⟨h2, by omega⟩ h1
theorem refTo_is (cs : List Rate) (s : List UInt8) : BestR cs s (refTo cs s cs.length) := by
  have h := refTo_best cs s cs.length (Nat.le_refl _)
  unfold BestR
  cases h9 : refTo cs s cs.length with
  | none =>
    rw [h9] at h
    intro r hr
    obtain ⟨j, hj, rfl⟩ := List.getElem_of_mem hr
    have := h j hj
    rwa [List.getD_eq_getElem?_getD, List.getElem?_eq_getElem hj] at this
  | some r =>
    rw [h9] at h
    obtain ⟨h1, h2, h3⟩ := h
    refine ⟨h1, h2, fun q hq h4 => ?_⟩
    obtain ⟨j, hj, rfl⟩ := List.getElem_of_mem hq
    have := h3 j hj
    rw [List.getD_eq_getElem?_getD, List.getElem?_eq_getElem hj] at this
    exact this h4
theorem pre_take {s p : List UInt8} (h : Lib.hasPrefix s p = true) : s.take p.length = p := by
  have h1 := Lib.hasPrefix_of_take s p
  rw [h] at h1
  simp only [Bool.and_eq_true, decide_eq_true_eq] at h1
  simpa using h1.2
theorem prefix_len {s p : List UInt8} (h : Lib.hasPrefix s p = true) : p.length ≤ s.length := by
  have h1 := Lib.hasPrefix_of_take s p
  rw [h] at h1
  simp only [Bool.and_eq_true, decide_eq_true_eq] at h1
  exact h1.1
theorem take_pre {s : List UInt8} (k : Nat) : Lib.hasPrefix s (s.take k) = true := by
  rw [← Lib.hasPrefix_of_take]
  simp [Nat.min_le_right]
theorem findR_none {cs : List Rate} {t : List UInt8} (h : findR cs t = none) : ∀ r ∈ cs, r.p ≠ t := fun r hr h9 => by
  unfold findR at h
  rw [List.find?_eq_none] at h
  exact h r hr (by simpa using h9)
theorem findR_some {cs : List Rate} {t : List UInt8} {r : Rate} (h : findR cs t = some r) : r.p = t := by
  unfold findR at h
  have := List.find?_some h
  simpa using this
theorem rateTo_best (cs : List Rate) (s : List UInt8) : ∀ k, k ≤ s.length → (match rateTo cs s k with
    | none => ∀ r ∈ cs, r.p.length ≤ k → Lib.hasPrefix s r.p = false
    | some r => r ∈ cs ∧ Lib.hasPrefix s r.p = true ∧ ∀ q ∈ cs, q.p.length ≤ k → Lib.hasPrefix s q.p = true → q.p.length ≤ r.p.length)
  | 0, _ => by
    unfold rateTo
    cases h9 : findR cs (s.take 0) with
    | none =>
      intro r hr h1
      cases h2 : Lib.hasPrefix s r.p with
      | false => rfl
      | true =>
        have h3 := pre_take h2
        exact absurd (by rw [show r.p.length = 0 by omega] at h3; exact h3.symm) (findR_none h9 r hr)
    | some r =>
      have h1 := findR_some h9
      refine ⟨findR_mem h9, by rw [h1]; exact take_pre 0, fun q hq h2 _ => by omega⟩
  | k + 1, hk => by
    have ih := rateTo_best cs s k (by omega)
    unfold rateTo
    cases h9 : findR cs (s.take (k + 1)) with
    | some r =>
      have h1 := findR_some h9
      refine ⟨findR_mem h9, by rw [h1]; exact take_pre _, fun q hq h2 _ => by rw [h1, List.length_take]; omega⟩
    | none =>
      have hno : ∀ q ∈ cs, q.p.length ≤ k + 1 → Lib.hasPrefix s q.p = true → q.p.length ≤ k := fun q hq h2 h3 => by
        rcases Nat.lt_or_ge k q.p.length with h4 | h4
        · have h5 := pre_take h3
          exact absurd (by rw [show q.p.length = k + 1 by omega] at h5; exact h5.symm) (findR_none h9 q hq)
        · exact h4
      show (match (none : Option Rate).or (rateTo cs s k) with | none => _ | some r => _)
      simp only [Option.none_or]
      cases h8 : rateTo cs s k with
      | none =>
        rw [h8] at ih
        intro r hr h1
        cases h2 : Lib.hasPrefix s r.p with
        | false => rfl
        | true => rw [ih r hr (hno r hr h1 h2)] at h2; cases h2
      | some r =>
        rw [h8] at ih
        obtain ⟨i1, i2, i3⟩ := ih
        exact ⟨i1, i2, fun q hq h1 h2 => i3 q hq (hno q hq h1 h2) h2⟩
theorem rateOf_is (cs : List Rate) (s : List UInt8) (hs : s.length ≤ 15) : BestR cs s (rateOf cs s 15) := by
  have h := rateTo_best cs s s.length (Nat.le_refl _)
  unfold rateOf
  rw [show min s.length 15 = s.length by omega]
  unfold BestR
  cases h9 : rateTo cs s s.length with
  | none =>
    rw [h9] at h
    intro r hr
    cases h2 : Lib.hasPrefix s r.p with
    | false => rfl
    | true => rw [h r hr (prefix_len h2)] at h2; cases h2
  | some r =>
    rw [h9] at h
    obtain ⟨h1, h2, h3⟩ := h
    exact ⟨h1, h2, fun q hq h4 => h3 q hq (prefix_len h4) h4⟩
theorem RSorted.inj {cs : List Rate} (h : RSorted cs) {a b : Rate} (ha : a ∈ cs) (hb : b ∈ cs) (hp : a.p = b.p) : a = b := by
  obtain ⟨i, hi, rfl⟩ := List.getElem_of_mem ha
  obtain ⟨j, hj, rfl⟩ := List.getElem_of_mem hb
  have e1 : cs.getD i noRate = cs[i] := by simp [List.getD_eq_getElem?_getD, List.getElem?_eq_getElem hi]
  have e2 : cs.getD j noRate = cs[j] := by simp [List.getD_eq_getElem?_getD, List.getElem?_eq_getElem hj]
  rcases Nat.lt_trichotomy i j with h1 | rfl | h1
  · have h2 := h.lt' h1 hj
    rw [e1, e2, hp, less_irrefl] at h2; cases h2
  · rfl
  · have h2 := h.lt' h1 hi
    rw [e1, e2, hp, less_irrefl] at h2; cases h2
theorem best_same {cs : List Rate} {s : List UInt8} (h : RSorted cs) {o q : Option Rate} (ho : BestR cs s o) (hq : BestR cs s q) : o = q := by
  cases o with
  | none =>
    cases q with
    | none => rfl
    | some r => obtain ⟨h1, h2, -⟩ := hq; rw [ho r h1] at h2; cases h2
  | some r =>
    cases q with
    | none => obtain ⟨h1, h2, -⟩ := ho; rw [hq r h1] at h2; cases h2
    | some r' =>
      obtain ⟨h1, h2, h3⟩ := ho
      obtain ⟨g1, g2, g3⟩ := hq
      have hl : r.p.length = r'.p.length := Nat.le_antisymm (g3 r h1 h2) (h3 r' g1 g2)
      have hp : r.p = r'.p := by rw [← pre_take h2, ← pre_take g2, hl]
      rw [h.inj h1 g1 hp]
theorem ref_same {cs : List Rate} {s : List UInt8} (h : RSorted cs) (hs : s.length ≤ 15) : refTo cs s cs.length = rateOf cs s 15 := best_same h (refTo_is cs s) (rateOf_is cs s hs)

/-- Division, rounded up. -/
def upD (a b : Int) : Int := (a + b - 1) / b
set_option maxHeartbeats 2000000 in
theorem upward_any (a b : Int) (ha : 0 ≤ a ∧ a ≤ 1000000000000000000) (hb : 1 ≤ b ∧ b ≤ 1000000000000) (w : World) : Calls Tryz.prog 63 #[.int .i64 a, .int .i64 b] w fun e w' => e = .returned (.int .i64 (upD a b)) ∧ w = w' := by
  have q1 : a.tdiv b = a / b := Int.tdiv_eq_ediv_of_nonneg ha.1
  have q2 : a.tmod b = a % b := Int.tmod_eq_emod_of_nonneg ha.1
  have m0 := Int.emod_nonneg a (show b ≠ 0 by omega)
  have m1 := Int.emod_lt_of_pos a (show 0 < b by omega)
  have d1 : b * (a / b) + a % b = a := Int.mul_ediv_add_emod a b
  have d0 : 0 ≤ a / b := Int.ediv_nonneg ha.1 (by omega)
  have d2 : a / b ≤ a := Int.ediv_le_self b ha.1
  have hU : Hid (upD a b = if 0 < a % b then a / b + 1 else a / b) := by
    show (a + b - 1) / b = _
    split
    · rename_i h
      rw [show a + b - 1 = (a % b - 1) + (a / b + 1) * b by have := Int.mul_comm b (a / b); rw [Int.add_mul]; omega, Int.add_mul_ediv_right _ _ (by omega), Int.ediv_eq_zero_of_lt (by omega) (by omega)]
      omega
    · rename_i h
      rw [show a + b - 1 = (b - 1) + (a / b) * b by have := Int.mul_comm b (a / b); omega, Int.add_mul_ediv_right _ _ (by omega), Int.ediv_eq_zero_of_lt (by omega) (by omega)]
      omega
  generalize upD a b = U at hU ⊢
  generalize a / b = q at q1 d0 d1 d2 hU
  generalize a % b = r at q2 m0 m1 d1 hU
  have w1 : IntKind.i64.wrap q = q := IntWalk.i64_in _ (by omega)
  have w2 : IntKind.i64.wrap r = r := IntWalk.i64_in _ (by omega)
  have w3 : IntKind.i64.wrap (q + 1) = q + 1 := IntWalk.i64_in _ (by omega)
  have hb0 : ¬ b = 0 := by omega
  clear d1 m0 m1 d0 d2
  by_cases h : 0 < r
  · have HU : Hid (U = q + 1) := by show U = _; rw [hU.out, if_pos h]
    clear hU
    go_enter Tryz.func63, Tryz.ntmps63
    go_wp2_with fail
    go_ret
    exact ⟨by rw [HU.out]; rfl, rfl⟩
  · have HU : Hid (U = q) := by show U = _; rw [hU.out, if_neg h]
    clear hU
    go_enter Tryz.func63, Tryz.ntmps63
    go_wp2_with fail
    go_ret
    exact ⟨by rw [HU.out]; rfl, rfl⟩
end Go.Proofs.YtacekbbndamkmaaGreatDoor

set_option linter.unusedVariables false
set_option linter.unusedSimpArgs false
namespace Go.Proofs.YtacekbbndamkmaaGreatDoor
open Go.RowKit

def dig (j : Nat) : UInt8 := UInt8.ofNat (48 + j)
/-- In depth: the least of the shortest numbers that begin with s, and with no other prefix behind it. -/
def leastTo (K : List (List UInt8)) : Nat → List UInt8 → Option (List UInt8)
  | 0, s => some s
  | n + 1, s => (List.range 10).findSome? fun j => if (s = [] ∧ j = 0) ∨ (s ++ [dig j]) ∈ K then none else leastTo K n (s ++ [dig j])
def leastV (K : List (List UInt8)) (s : List UInt8) : Option (List UInt8) := leastTo K (4 - s.length) s
/-- In breadth. -/
def aliveB (K : List (List UInt8)) (p s : List UInt8) : Bool := decide (s = p ∨ s ∉ K)
def kids (s : List UInt8) : List (List UInt8) := (List.range 10).filterMap fun j => if s = [] ∧ j = 0 then none else some (s ++ [dig j])
def decR (K : List (List UInt8)) (p : List UInt8) : Nat → List (List UInt8) → Option (List UInt8)
  | 0, _ => none
  | r + 1, now => match now.find? (fun s => aliveB K p s && decide (4 ≤ s.length)) with
    | some s => some s
    | none => decR K p r (now.flatMap fun s => if aliveB K p s = true then kids s else [])
def decV (K : List (List UInt8)) (p : List UInt8) : Option (List UInt8) := decR K p 5 [p]
theorem kids_len {s t : List UInt8} (h : t ∈ kids s) : t.length = s.length + 1 := by
  unfold kids at h
  obtain ⟨j, _, hj⟩ := List.mem_filterMap.1 h
  split at hj
  · cases hj
  · injection hj with hj
    rw [← hj]; simp
theorem findSome_flatMap {α β : Type} (f : α → List β) {γ : Type} (g : β → Option γ) : ∀ l : List α, (l.flatMap f).findSome? g = l.findSome? fun x => (f x).findSome? g
  | [] => rfl
  | x :: l => by
    rw [List.flatMap_cons, List.findSome?_append, List.findSome?_cons, findSome_flatMap f g l]
    cases (f x).findSome? g <;> rfl
theorem findSome_congr {α γ : Type} {f g : α → Option γ} : ∀ {l : List α}, (∀ x ∈ l, f x = g x) → l.findSome? f = l.findSome? g
  | [], _ => rfl
  | x :: l, h => by
    rw [List.findSome?_cons, List.findSome?_cons, h x List.mem_cons_self, findSome_congr fun y hy => h y (List.mem_cons_of_mem _ hy)]
theorem findSome_filterMap {α β γ : Type} (f : α → Option β) (g : β → Option γ) : ∀ l : List α, (l.filterMap f).findSome? g = l.findSome? fun x => (f x).bind g
  | [] => rfl
  | x :: l => by
    rw [List.filterMap_cons, List.findSome?_cons]
    cases f x with
    | none => exact findSome_filterMap f g l
    | some y =>
      simp only [Option.bind_some, List.findSome?_cons]
      rw [findSome_filterMap f g l]
theorem find_findSome {α : Type} (q : α → Bool) : ∀ l : List α, l.find? q = l.findSome? fun x => if q x = true then some x else none
  | [] => rfl
  | x :: l => by
    rw [List.find?_cons, List.findSome?_cons]
    cases q x
    · simpa using find_findSome q l
    · rfl
theorem least_kids (K : List (List UInt8)) (p : List UInt8) (n : Nat) (s : List UInt8) (hs : p.length ≤ s.length) : leastTo K (n + 1) s = (kids s).findSome? fun t => if aliveB K p t = true then leastTo K n t else none := by
  unfold kids
  rw [findSome_filterMap]
  show (List.range 10).findSome? _ = _
  refine findSome_congr fun j _ => ?_
  by_cases h1 : s = [] ∧ j = 0
  · rw [if_pos (Or.inl h1), if_pos h1]; rfl
  · rw [if_neg h1, Option.bind_some]
    have hne : s ++ [dig j] ≠ p := fun e => by
      have := congrArg List.length e
      rw [List.length_append, List.length_singleton] at this
      omega
    unfold aliveB
    by_cases h2 : (s ++ [dig j]) ∈ K
    · rw [if_pos (Or.inr h2), if_neg (by simp [hne, h2])]
    · rw [if_neg (fun h => h.elim h1 h2), if_pos (by simp [h2])]
theorem decR_is (K : List (List UInt8)) (p : List UInt8) : ∀ (n r : Nat) (now : List (List UInt8)), n ≤ r → (∀ s ∈ now, p.length ≤ s.length ∧ (if n = 0 then 4 ≤ s.length else s.length + n = 4)) →
    decR K p (r + 1) now = now.findSome? fun s => if aliveB K p s = true then leastTo K n s else none
  | 0, r, now, hr, h => by
    unfold decR
    rw [find_findSome]
    have e : (now.findSome? fun s => if (aliveB K p s && decide (4 ≤ s.length)) = true then some s else none) = now.findSome? fun s => if aliveB K p s = true then leastTo K 0 s else none := findSome_congr fun s hs => by
      have := (h s hs).2
      rw [if_pos rfl] at this
      rw [decide_eq_true this, Bool.and_true]
      rfl
    rw [e]
    cases he : now.findSome? fun s => if aliveB K p s = true then leastTo K 0 s else none with
    | some x => rfl
    | none =>
      simp only
      have hnone : now.flatMap (fun s => if aliveB K p s = true then kids s else []) = [] := by
        rw [List.flatMap_eq_nil_iff]
        intro s hs
        rw [List.findSome?_eq_none_iff] at he
        have := he s hs
        split at this
        · cases this
        · rename_i h9; rw [if_neg h9]
      rw [hnone]
      cases r with
      | zero => rfl
      | succ r =>
        have : ∀ r, decR K p r [] = none := fun r => by
          induction r with
          | zero => rfl
          | succ r ih => exact ih
        exact this _
  | n + 1, r, now, hr, h => by
    unfold decR
    have hf : now.find? (fun s => aliveB K p s && decide (4 ≤ s.length)) = none := by
      rw [List.find?_eq_none]
      intro s hs
      have := (h s hs).2
      rw [if_neg (Nat.succ_ne_zero n)] at this
      simp; intro _; omega
    rw [hf]
    simp only
    obtain ⟨r', rfl⟩ : ∃ r', r = r' + 1 := ⟨r - 1, by omega⟩
    rw [decR_is K p n r' _ (by omega) (fun t ht => by
      obtain ⟨s, hs, hts⟩ := List.mem_flatMap.1 ht
      split at hts
      · have h1 := kids_len hts
        have h2 := h s hs
        rw [if_neg (Nat.succ_ne_zero n)] at h2
        refine ⟨by omega, ?_⟩
        split <;> omega
      · cases hts), findSome_flatMap]
    refine findSome_congr fun s hs => ?_
    by_cases ha : aliveB K p s = true
    · rw [if_pos ha, if_pos ha, least_kids K p n s (h s hs).1]
    · rw [if_neg ha, if_neg ha]; rfl
theorem dec_is (K : List (List UInt8)) (p : List UInt8) : decV K p = leastV K p := by
  have := decR_is K p (4 - p.length) 4 [p] (by omega) (fun s hs => by
    rw [List.mem_singleton.1 hs]
    refine ⟨Nat.le_refl _, ?_⟩
    split <;> omega)
  unfold decV leastV
  rw [this, List.findSome?_cons]
  have ha : aliveB K p p = true := by unfold aliveB; simp
  rw [if_pos ha]
  cases leastTo K (4 - p.length) p <;> rfl

/-- Rates that are needed. -/
def usedR (K : List (List UInt8)) (rs : List Rate) : List Rate := rs.filter fun r => (leastV K r.p).isSome
def redB (some_ : List Rate) (r : Rate) : Bool := decide (r.p ≠ []) && (match rateTo some_ r.p (r.p.length - 1) with
  | none => false
  | some x => decide (x.price = r.price) && decide (x.closed = r.closed))
def withoutV (rs : List Rate) : List Rate := (usedR (rs.map (·.p)) rs).filter fun r => !redB (usedR (rs.map (·.p)) rs) r
def othersR (us : List Rate) (p : List UInt8) : List Rate := us.filter fun o => !decide (o.p = p)
def redRB (us : List Rate) (r : Rate) : Bool := match refTo (othersR us r.p) r.p (othersR us r.p).length with
  | none => false
  | some x => decide (x.price = r.price) && decide (x.closed = r.closed)
/-- Prefixes ascend, said for pairs. -/
theorem RSorted.pair {cs : List Rate} (h : RSorted cs) : cs.Pairwise fun a b => Op.bytesLess a.p b.p = true := by
  rw [List.pairwise_iff_getElem]
  intro i j hi hj hij
  have := h.lt' hij hj
  rwa [List.getD_eq_getElem?_getD, List.getElem?_eq_getElem hi, List.getD_eq_getElem?_getD, List.getElem?_eq_getElem hj] at this
theorem RSorted.of_pair {cs : List Rate} (h : cs.Pairwise fun a b => Op.bytesLess a.p b.p = true) : RSorted cs := fun i h0 hi => by
  have := List.pairwise_iff_getElem.1 h (i - 1) i (by omega) hi (by omega)
  rwa [List.getD_eq_getElem?_getD, List.getElem?_eq_getElem (show i - 1 < cs.length by omega), List.getD_eq_getElem?_getD, List.getElem?_eq_getElem hi]
theorem RSorted.filter {cs : List Rate} (h : RSorted cs) (q : Rate → Bool) : RSorted (cs.filter q) := RSorted.of_pair (h.pair.filter q)
theorem rateTo_len {cs : List Rate} {l : List UInt8} {r : Rate} : ∀ k, rateTo cs l k = some r → r.p.length ≤ k
  | 0, h => by rw [findR_some h]; simp
  | k + 1, h => by
    unfold rateTo at h
    cases h9 : findR cs (l.take (k + 1)) with
    | none => rw [h9] at h; have := rateTo_len k h; omega
    | some x => rw [h9] at h; injection h with h; subst h; rw [findR_some h9, List.length_take]; omega
theorem red_same {us : List Rate} (h : RSorted us) (r : Rate) : redB us r = redRB us r := by
  unfold redB redRB
  by_cases hp : r.p = []
  · have hn : refTo (othersR us r.p) r.p (othersR us r.p).length = none := by
      have hb := refTo_is (othersR us r.p) r.p
      cases he : refTo (othersR us r.p) r.p (othersR us r.p).length with
      | none => rfl
      | some x =>
        rw [he] at hb
        have h1 := (List.mem_filter.1 hb.1).2
        have h2 := prefix_len hb.2.1
        rw [hp] at h2
        have h3 : x.p = [] := List.length_eq_zero_iff.1 (by simpa using h2)
        simp [h3, hp] at h1
    rw [hn, decide_eq_false (by simp [hp])]
    rfl
  · rw [decide_eq_true hp, Bool.true_and]
    have hl : 0 < r.p.length := List.length_pos_iff.2 hp
    have e : rateTo us r.p (r.p.length - 1) = refTo (othersR us r.p) r.p (othersR us r.p).length := by
      refine best_same (cs := othersR us r.p) (s := r.p) (h.filter _) ?_ (refTo_is _ _)
      have hb := rateTo_best us r.p (r.p.length - 1) (by omega)
      have hlen : ∀ q : Rate, Lib.hasPrefix r.p q.p = true → q.p ≠ r.p → q.p.length ≤ r.p.length - 1 := fun q h1 h2 => by
        have h3 := prefix_len h1
        rcases Nat.lt_or_ge q.p.length r.p.length with h4 | h4
        · omega
        · exact absurd (by have := pre_take h1; rw [← this, List.take_of_length_le (by omega)]) h2
      cases he : rateTo us r.p (r.p.length - 1) with
      | none =>
        rw [he] at hb
        intro q hq
        obtain ⟨h1, h2⟩ := List.mem_filter.1 hq
        cases hx : Lib.hasPrefix r.p q.p with
        | false => rfl
        | true => rw [hb q h1 (hlen q hx (by simpa using h2))] at hx; cases hx
      | some x =>
        rw [he] at hb
        refine ⟨List.mem_filter.2 ⟨hb.1, ?_⟩, hb.2.1, fun q hq hpq => ?_⟩
        · have hxl := rateTo_len (r.p.length - 1) he
          have : x.p ≠ r.p := fun e => by rw [e] at hxl; omega
          simpa using this
        · obtain ⟨h1, h2⟩ := List.mem_filter.1 hq
          exact hb.2.2 q h1 (hlen q hpq (by simpa using h2)) hpq
    rw [e]
theorem RSorted.used {rs : List Rate} (h : RSorted rs) (K : List (List UInt8)) : RSorted (usedR K rs) := h.filter _
/-- What the reference leaves of rates. -/
def leastR (rs : List Rate) : List Rate := (usedR (rs.map (·.p)) rs).filter fun r => !redRB (usedR (rs.map (·.p)) rs) r
theorem without_same {rs : List Rate} (h : RSorted rs) : withoutV rs = leastR rs := by
  unfold withoutV leastR
  refine List.filter_congr fun r _ => ?_
  rw [red_same (h.used _)]
end Go.Proofs.YtacekbbndamkmaaGreatDoor
