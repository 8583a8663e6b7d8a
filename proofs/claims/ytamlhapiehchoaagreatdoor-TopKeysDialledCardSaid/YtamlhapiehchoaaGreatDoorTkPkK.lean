/- What is proved here: lemmas and contracts for the statement, put together out of smaller texts (MediaMath, Ready, Great, Compress, Sounds, KeyMath, KeyWalk, KeyKeys, KeyTone, ZeroRows, KeyTones, KeyHeard). No condition beyond those stated. -/
import Derived.IntWalk
import Derived.WalkArith
import Derived.Test.YtamlhapiehchoaaGreatDoorTkPkA
import Derived.Test.YtamlhapiehchoaaGreatDoorTkPkJ
import Derived.WalkKit
import Derived.Laws.BytesArg
import Derived.Deep.RegionLaw
import Derived.Deep.Onto
import Derived.Test.YtamlhapiehchoaaGreatDoorTkPkB
import Derived.Lib.AppendZerosOnto
import Derived.Lib.AppendZeros
import Derived.Laws.BitsLemmas
import Derived.Test.YtamlhapiehchoaaGreatDoorTkPkC
namespace Go.Proofs.YtamlhapiehchoaaGreatDoor
open Go.RowKit

/-- What a byte expands to. -/
def expandI (b : Int) : Int :=
  if (255 - b) / 128 = 1 then -(((2 * ((255 - b) % 16) + 33) * 2 ^ ((255 - b) / 16 % 8).toNat - 33) * 4) - 1 else ((2 * ((255 - b) % 16) + 33) * 2 ^ ((255 - b) / 16 % 8).toNat - 33) * 4

theorem all_bytesI {p : Int → Bool} (h : (List.range 256).all (fun n => p (n : Int)) = true) (b : Int) (h0 : 0 ≤ b) (h1 : b ≤ 255) : p b = true := by
  obtain ⟨n, rfl⟩ := Int.eq_ofNat_of_zero_le h0
  exact List.all_eq_true.1 h n (List.mem_range.2 (by omega))

theorem expand_wraps (b : Int) (h0 : 0 ≤ b) (h1 : b ≤ 255) :
    wrap64 (wrap64 (wrap64 ((2 * ((255 - b) % 16) + 33) * 2 ^ ((255 - b) / 16 % 8).toNat) - 33) * 4) = ((2 * ((255 - b) % 16) + 33) * 2 ^ ((255 - b) / 16 % 8).toNat - 33) * 4 ∧
    wrap64 (wrap64 (-wrap64 (wrap64 (wrap64 ((2 * ((255 - b) % 16) + 33) * 2 ^ ((255 - b) / 16 % 8).toNat) - 33) * 4)) - 1) = -(((2 * ((255 - b) % 16) + 33) * 2 ^ ((255 - b) / 16 % 8).toNat - 33) * 4) - 1 := by
  have := all_bytesI (p := fun b => decide (wrap64 (wrap64 (wrap64 ((2 * ((255 - b) % 16) + 33) * 2 ^ ((255 - b) / 16 % 8).toNat) - 33) * 4) = ((2 * ((255 - b) % 16) + 33) * 2 ^ ((255 - b) / 16 % 8).toNat - 33) * 4 ∧
    wrap64 (wrap64 (-wrap64 (wrap64 (wrap64 ((2 * ((255 - b) % 16) + 33) * 2 ^ ((255 - b) / 16 % 8).toNat) - 33) * 4)) - 1) = -(((2 * ((255 - b) % 16) + 33) * 2 ^ ((255 - b) / 16 % 8).toNat - 33) * 4) - 1)) (by decide +kernel) b h0 h1
  exact of_decide_eq_true this

/-- The exponent of a magnitude. -/
def expoTo (m : Int) : Nat → Nat
  | 0 => 7
  | f + 1 => if 2 ^ (7 - (f + 1) + 6) ≤ m then expoTo m f else 7 - (f + 1)
def expo (m : Int) : Nat := expoTo m 7
def magn (s : Int) : Int := min ((if s < 0 then -s - 1 else s) / 4) 8158 + 33
def compI (s : Int) : Int := 255 - ((if s < 0 then 128 else 0) + 16 * (expo (magn s) : Int) + (magn s / 2 ^ (expo (magn s) + 1) - 16))

theorem expoTo_up0 (m : Int) (h : 64 ≤ m) : expoTo m (7 - 0) = expoTo m (7 - 1) := by
  show (if (2 : Int) ^ (7 - (6 + 1) + 6) ≤ m then _ else _) = _
  rw [show (2 : Int) ^ (7 - (6 + 1) + 6) = 64 by decide, if_pos h]
theorem expoTo_out0 (m : Int) (h : ¬ 64 ≤ m) : expoTo m (7 - 0) = 0 := by
  show (if (2 : Int) ^ (7 - (6 + 1) + 6) ≤ m then _ else _) = _
  rw [show (2 : Int) ^ (7 - (6 + 1) + 6) = 64 by decide, if_neg h]
theorem expoTo_up1 (m : Int) (h : 128 ≤ m) : expoTo m (7 - 1) = expoTo m (7 - 2) := by
  show (if (2 : Int) ^ (7 - (5 + 1) + 6) ≤ m then _ else _) = _
  rw [show (2 : Int) ^ (7 - (5 + 1) + 6) = 128 by decide, if_pos h]
theorem expoTo_out1 (m : Int) (h : ¬ 128 ≤ m) : expoTo m (7 - 1) = 1 := by
  show (if (2 : Int) ^ (7 - (5 + 1) + 6) ≤ m then _ else _) = _
  rw [show (2 : Int) ^ (7 - (5 + 1) + 6) = 128 by decide, if_neg h]
theorem expoTo_up2 (m : Int) (h : 256 ≤ m) : expoTo m (7 - 2) = expoTo m (7 - 3) := by
  show (if (2 : Int) ^ (7 - (4 + 1) + 6) ≤ m then _ else _) = _
  rw [show (2 : Int) ^ (7 - (4 + 1) + 6) = 256 by decide, if_pos h]
theorem expoTo_out2 (m : Int) (h : ¬ 256 ≤ m) : expoTo m (7 - 2) = 2 := by
  show (if (2 : Int) ^ (7 - (4 + 1) + 6) ≤ m then _ else _) = _
  rw [show (2 : Int) ^ (7 - (4 + 1) + 6) = 256 by decide, if_neg h]
theorem expoTo_up3 (m : Int) (h : 512 ≤ m) : expoTo m (7 - 3) = expoTo m (7 - 4) := by
  show (if (2 : Int) ^ (7 - (3 + 1) + 6) ≤ m then _ else _) = _
  rw [show (2 : Int) ^ (7 - (3 + 1) + 6) = 512 by decide, if_pos h]
theorem expoTo_out3 (m : Int) (h : ¬ 512 ≤ m) : expoTo m (7 - 3) = 3 := by
  show (if (2 : Int) ^ (7 - (3 + 1) + 6) ≤ m then _ else _) = _
  rw [show (2 : Int) ^ (7 - (3 + 1) + 6) = 512 by decide, if_neg h]
theorem expoTo_up4 (m : Int) (h : 1024 ≤ m) : expoTo m (7 - 4) = expoTo m (7 - 5) := by
  show (if (2 : Int) ^ (7 - (2 + 1) + 6) ≤ m then _ else _) = _
  rw [show (2 : Int) ^ (7 - (2 + 1) + 6) = 1024 by decide, if_pos h]
theorem expoTo_out4 (m : Int) (h : ¬ 1024 ≤ m) : expoTo m (7 - 4) = 4 := by
  show (if (2 : Int) ^ (7 - (2 + 1) + 6) ≤ m then _ else _) = _
  rw [show (2 : Int) ^ (7 - (2 + 1) + 6) = 1024 by decide, if_neg h]
theorem expoTo_up5 (m : Int) (h : 2048 ≤ m) : expoTo m (7 - 5) = expoTo m (7 - 6) := by
  show (if (2 : Int) ^ (7 - (1 + 1) + 6) ≤ m then _ else _) = _
  rw [show (2 : Int) ^ (7 - (1 + 1) + 6) = 2048 by decide, if_pos h]
theorem expoTo_out5 (m : Int) (h : ¬ 2048 ≤ m) : expoTo m (7 - 5) = 5 := by
  show (if (2 : Int) ^ (7 - (1 + 1) + 6) ≤ m then _ else _) = _
  rw [show (2 : Int) ^ (7 - (1 + 1) + 6) = 2048 by decide, if_neg h]
theorem expoTo_up6 (m : Int) (h : 4096 ≤ m) : expoTo m (7 - 6) = expoTo m (7 - 7) := by
  show (if (2 : Int) ^ (7 - (0 + 1) + 6) ≤ m then _ else _) = _
  rw [show (2 : Int) ^ (7 - (0 + 1) + 6) = 4096 by decide, if_pos h]
theorem expoTo_out6 (m : Int) (h : ¬ 4096 ≤ m) : expoTo m (7 - 6) = 6 := by
  show (if (2 : Int) ^ (7 - (0 + 1) + 6) ≤ m then _ else _) = _
  rw [show (2 : Int) ^ (7 - (0 + 1) + 6) = 4096 by decide, if_neg h]
theorem expoTo_out7 (m : Int) : expoTo m (7 - 7) = 7 := rfl

theorem expo_cases (m : Int) (h0 : 33 ≤ m) (h1 : m ≤ 8191) : (32 ≤ m ∧ m < 64 ∧ expo m = 0) ∨ (64 ≤ m ∧ m < 128 ∧ expo m = 1) ∨ (128 ≤ m ∧ m < 256 ∧ expo m = 2) ∨ (256 ≤ m ∧ m < 512 ∧ expo m = 3) ∨ (512 ≤ m ∧ m < 1024 ∧ expo m = 4) ∨ (1024 ≤ m ∧ m < 2048 ∧ expo m = 5) ∨ (2048 ≤ m ∧ m < 4096 ∧ expo m = 6) ∨ (4096 ≤ m ∧ m < 8192 ∧ expo m = 7) := by
  unfold expo
  simp only [expoTo]
  repeat' split
  all_goals omega

theorem magn_range (s : Int) (h0 : -32768 ≤ s) (h1 : s ≤ 32767) : 33 ≤ magn s ∧ magn s ≤ 8191 := by
  unfold magn; split <;> omega

/-- What a byte with a sign, an exponent and a fraction expands to. -/
theorem expand_parts (sg e f : Int) (hs : sg = 0 ∨ sg = 128) (h0 : 0 ≤ e) (h1 : e ≤ 7) (f0 : 0 ≤ f) (f1 : f ≤ 15) :
    expandI (255 - (sg + 16 * e + f)) = if sg = 128 then -(((2 * f + 33) * 2 ^ e.toNat - 33) * 4) - 1 else ((2 * f + 33) * 2 ^ e.toNat - 33) * 4 := by
  unfold expandI
  have a1 : (255 - (255 - (sg + 16 * e + f))) % 16 = f := by omega
  have a2 : (255 - (255 - (sg + 16 * e + f))) / 16 % 8 = e := by omega
  rw [a1, a2]
  rcases hs with rfl | rfl
  · rw [if_neg (by omega), if_neg (by omega)]
  · rw [if_pos (by omega), if_pos rfl]

/-- Where a sample comes to, by its magnitude. -/
def backTo (m : Int) : Int := if m < 64 then (m / 2 * 2 + 1 - 33) * 4 else if m < 128 then (m / 4 * 4 + 2 - 33) * 4 else if m < 256 then (m / 8 * 8 + 4 - 33) * 4 else if m < 512 then (m / 16 * 16 + 8 - 33) * 4 else if m < 1024 then (m / 32 * 32 + 16 - 33) * 4 else if m < 2048 then (m / 64 * 64 + 32 - 33) * 4 else if m < 4096 then (m / 128 * 128 + 64 - 33) * 4 else (m / 256 * 256 + 128 - 33) * 4

theorem comp_back (s : Int) (h0 : -32768 ≤ s) (h1 : s ≤ 32767) : (0 ≤ compI s ∧ compI s ≤ 255) ∧ expandI (compI s) = if s < 0 then -(backTo (magn s)) - 1 else backTo (magn s) := by
  obtain ⟨m0, m1⟩ := magn_range s h0 h1
  unfold compI
  generalize magn s = m at m0 m1
  have hsg : (if s < 0 then (128 : Int) else 0) = 0 ∨ (if s < 0 then (128 : Int) else 0) = 128 := by split <;> omega
  have hsg2 : ((if s < 0 then (128 : Int) else 0) = 128) ↔ s < 0 := by split <;> simp [*]
  generalize (if s < 0 then (128 : Int) else 0) = sg at hsg hsg2
  rcases expo_cases m m0 m1 with ⟨a, b, c⟩ | ⟨a, b, c⟩ | ⟨a, b, c⟩ | ⟨a, b, c⟩ | ⟨a, b, c⟩ | ⟨a, b, c⟩ | ⟨a, b, c⟩ | ⟨a, b, c⟩
  · rw [c]
    have f0 : 0 ≤ m / 2 ^ (0 + 1) - 16 := by omega
    have f1 : m / 2 ^ (0 + 1) - 16 ≤ 15 := by omega
    refine ⟨by omega, ?_⟩
    rw [expand_parts sg ((0 : Nat) : Int) _ hsg (by omega) (by omega) f0 f1]
    have hb : backTo m = ((2 * (m / 2 ^ (0 + 1) - 16) + 33) * 2 ^ ((0 : Nat) : Int).toNat - 33) * 4 := by
      unfold backTo
      simp only [Int.toNat_natCast]
      (repeat rw [if_neg (by omega)])
      (try rw [if_pos (by omega)])
      omega
    rw [hb]
    by_cases hs : s < 0
    · rw [if_pos (hsg2.2 hs), if_pos hs]
    · rw [if_neg (fun h => hs (hsg2.1 h)), if_neg hs]
  · rw [c]
    have f0 : 0 ≤ m / 2 ^ (1 + 1) - 16 := by omega
    have f1 : m / 2 ^ (1 + 1) - 16 ≤ 15 := by omega
    refine ⟨by omega, ?_⟩
    rw [expand_parts sg ((1 : Nat) : Int) _ hsg (by omega) (by omega) f0 f1]
    have hb : backTo m = ((2 * (m / 2 ^ (1 + 1) - 16) + 33) * 2 ^ ((1 : Nat) : Int).toNat - 33) * 4 := by
      unfold backTo
      simp only [Int.toNat_natCast]
      (repeat rw [if_neg (by omega)])
      (try rw [if_pos (by omega)])
      omega
    rw [hb]
    by_cases hs : s < 0
    · rw [if_pos (hsg2.2 hs), if_pos hs]
    · rw [if_neg (fun h => hs (hsg2.1 h)), if_neg hs]
  · rw [c]
    have f0 : 0 ≤ m / 2 ^ (2 + 1) - 16 := by omega
    have f1 : m / 2 ^ (2 + 1) - 16 ≤ 15 := by omega
    refine ⟨by omega, ?_⟩
    rw [expand_parts sg ((2 : Nat) : Int) _ hsg (by omega) (by omega) f0 f1]
    have hb : backTo m = ((2 * (m / 2 ^ (2 + 1) - 16) + 33) * 2 ^ ((2 : Nat) : Int).toNat - 33) * 4 := by
      unfold backTo
      simp only [Int.toNat_natCast]
      (repeat rw [if_neg (by omega)])
      (try rw [if_pos (by omega)])
      omega
    rw [hb]
    by_cases hs : s < 0
    · rw [if_pos (hsg2.2 hs), if_pos hs]
    · rw [if_neg (fun h => hs (hsg2.1 h)), if_neg hs]
  · rw [c]
    have f0 : 0 ≤ m / 2 ^ (3 + 1) - 16 := by omega
    have f1 : m / 2 ^ (3 + 1) - 16 ≤ 15 := by omega
    refine ⟨by omega, ?_⟩
    rw [expand_parts sg ((3 : Nat) : Int) _ hsg (by omega) (by omega) f0 f1]
    have hb : backTo m = ((2 * (m / 2 ^ (3 + 1) - 16) + 33) * 2 ^ ((3 : Nat) : Int).toNat - 33) * 4 := by
      unfold backTo
      simp only [Int.toNat_natCast]
      (repeat rw [if_neg (by omega)])
      (try rw [if_pos (by omega)])
      omega
    rw [hb]
    by_cases hs : s < 0
    · rw [if_pos (hsg2.2 hs), if_pos hs]
    · rw [if_neg (fun h => hs (hsg2.1 h)), if_neg hs]
  · rw [c]
    have f0 : 0 ≤ m / 2 ^ (4 + 1) - 16 := by omega
    have f1 : m / 2 ^ (4 + 1) - 16 ≤ 15 := by omega
    refine ⟨by omega, ?_⟩
    rw [expand_parts sg ((4 : Nat) : Int) _ hsg (by omega) (by omega) f0 f1]
    have hb : backTo m = ((2 * (m / 2 ^ (4 + 1) - 16) + 33) * 2 ^ ((4 : Nat) : Int).toNat - 33) * 4 := by
      unfold backTo
      simp only [Int.toNat_natCast]
      (repeat rw [if_neg (by omega)])
      (try rw [if_pos (by omega)])
      omega
    rw [hb]
    by_cases hs : s < 0
    · rw [if_pos (hsg2.2 hs), if_pos hs]
    · rw [if_neg (fun h => hs (hsg2.1 h)), if_neg hs]
  · rw [c]
    have f0 : 0 ≤ m / 2 ^ (5 + 1) - 16 := by omega
    have f1 : m / 2 ^ (5 + 1) - 16 ≤ 15 := by omega
    refine ⟨by omega, ?_⟩
    rw [expand_parts sg ((5 : Nat) : Int) _ hsg (by omega) (by omega) f0 f1]
    have hb : backTo m = ((2 * (m / 2 ^ (5 + 1) - 16) + 33) * 2 ^ ((5 : Nat) : Int).toNat - 33) * 4 := by
      unfold backTo
      simp only [Int.toNat_natCast]
      (repeat rw [if_neg (by omega)])
      (try rw [if_pos (by omega)])
      omega
    rw [hb]
    by_cases hs : s < 0
    · rw [if_pos (hsg2.2 hs), if_pos hs]
    · rw [if_neg (fun h => hs (hsg2.1 h)), if_neg hs]
  · rw [c]
    have f0 : 0 ≤ m / 2 ^ (6 + 1) - 16 := by omega
    have f1 : m / 2 ^ (6 + 1) - 16 ≤ 15 := by omega
    refine ⟨by omega, ?_⟩
    rw [expand_parts sg ((6 : Nat) : Int) _ hsg (by omega) (by omega) f0 f1]
    have hb : backTo m = ((2 * (m / 2 ^ (6 + 1) - 16) + 33) * 2 ^ ((6 : Nat) : Int).toNat - 33) * 4 := by
      unfold backTo
      simp only [Int.toNat_natCast]
      (repeat rw [if_neg (by omega)])
      (try rw [if_pos (by omega)])
      omega
    rw [hb]
    by_cases hs : s < 0
    · rw [if_pos (hsg2.2 hs), if_pos hs]
    · rw [if_neg (fun h => hs (hsg2.1 h)), if_neg hs]
  · rw [c]
    have f0 : 0 ≤ m / 2 ^ (7 + 1) - 16 := by omega
    have f1 : m / 2 ^ (7 + 1) - 16 ≤ 15 := by omega
    refine ⟨by omega, ?_⟩
    rw [expand_parts sg ((7 : Nat) : Int) _ hsg (by omega) (by omega) f0 f1]
    have hb : backTo m = ((2 * (m / 2 ^ (7 + 1) - 16) + 33) * 2 ^ ((7 : Nat) : Int).toNat - 33) * 4 := by
      unfold backTo
      simp only [Int.toNat_natCast]
      (repeat rw [if_neg (by omega)])
      (try rw [if_pos (by omega)])
      omega
    rw [hb]
    by_cases hs : s < 0
    · rw [if_pos (hsg2.2 hs), if_pos hs]
    · rw [if_neg (fun h => hs (hsg2.1 h)), if_neg hs]

theorem comp_range (s : Int) (h0 : -32768 ≤ s) (h1 : s ≤ 32767) : 0 ≤ compI s ∧ compI s ≤ 255 := (comp_back s h0 h1).1

set_option maxHeartbeats 4000000 in
theorem back_mono (a b : Int) (h : a ≤ b) (h0 : 33 ≤ a) (h1 : b ≤ 8191) : backTo a ≤ backTo b ∧ 0 ≤ backTo a ∧ backTo b ≤ 32124 := by
  unfold backTo
  refine ⟨?_, ?_, ?_⟩ <;> (repeat' split) <;> omega

theorem comp_mono (s t : Int) (h : s ≤ t) (h0 : -32768 ≤ s) (h1 : t ≤ 32767) : expandI (compI s) ≤ expandI (compI t) := by
  rw [(comp_back s h0 (by omega)).2, (comp_back t (by omega) h1).2]
  have ms := magn_range s h0 (by omega)
  have mt := magn_range t (by omega) h1
  by_cases hs : s < 0
  · by_cases ht : t < 0
    · rw [if_pos hs, if_pos ht]
      have : magn t ≤ magn s := by unfold magn; rw [if_pos hs, if_pos ht]; omega
      have := back_mono _ _ this mt.1 ms.2
      omega
    · rw [if_pos hs, if_neg ht]
      have a := back_mono _ _ (Int.le_refl (magn s)) ms.1 ms.2
      have b := back_mono _ _ (Int.le_refl (magn t)) mt.1 mt.2
      omega
  · rw [if_neg hs, if_neg (by omega)]
    have : magn s ≤ magn t := by unfold magn; rw [if_neg hs, if_neg (by omega)]; omega
    exact (back_mono _ _ this ms.1 mt.2).1

theorem comp_near (s : Int) (h0 : -32768 ≤ s) (h1 : s ≤ 32767) : max (expandI (compI s) - s) (s - expandI (compI s)) ≤ max s (-s) / 16 + 132 := by
  rw [(comp_back s h0 h1).2]
  obtain ⟨m0, m1⟩ := magn_range s h0 h1
  by_cases hs : s < 0
  · rw [if_pos hs]
    have hm : magn s = min ((-s - 1) / 4) 8158 + 33 := by unfold magn; rw [if_pos hs]
    generalize magn s = m at *
    unfold backTo
    (repeat' split) <;> omega
  · rw [if_neg hs]
    have hm : magn s = min (s / 4) 8158 + 33 := by unfold magn; rw [if_neg hs]
    generalize magn s = m at *
    unfold backTo
    (repeat' split) <;> omega

theorem expand_sample (b : Int) (h0 : 0 ≤ b) (h1 : b ≤ 255) : -32768 ≤ expandI b ∧ expandI b ≤ 32767 ∧ compI (expandI b) = b :=
  of_decide_eq_true (all_bytesI (p := fun b => decide (-32768 ≤ expandI b ∧ expandI b ≤ 32767 ∧ compI (expandI b) = b)) (by decide +kernel) b h0 h1)
end Go.Proofs.YtamlhapiehchoaaGreatDoor

namespace Go.Proofs.YtamlhapiehchoaaGreatDoor
open Go.RowKit
set_option linter.unusedVariables false
set_option linter.unusedSimpArgs false

set_option maxHeartbeats 1000000 in
theorem errs_zero (w : World) (b n cap : Nat) (hn : n ≤ 100) (hc : ∀ i, i < n → w.cell? ⟨b, i, none⟩ = some (.int .i64 0)) :
    Calls Tryz.prog 24 #[.slice (some ⟨b, 0, none⟩) n cap] w fun e w' => e = .returned (.int .i64 0) ∧ w = w' := by
  have Hc := Lib.hid hc
  clear hc
  go_enter Tryz.func24, Tryz.ntmps24
  go_wp2_with fail
  go_loop [7] (fun i => ∃ k : Nat, k ≤ n ∧ i = .int .i64 k) (fun i => n - (intOf i).toNat)
  case atStart => exact ⟨0, Nat.zero_le _, rfl⟩
  case round =>
    obtain ⟨k, hk, rfl⟩ := hrel
    by_cases hlt : k < n
    · have hc := Hc.out k hlt
      go_wp2_with fail
      go_round
      case rel => exact ⟨k + 1, by omega, by go_num⟩
      case measure => simp [intOf]; omega
    · go_wp2_with fail
      go_ret
      exact ⟨rfl, rfl⟩

theorem expand_any (b : Int) (w : World) (h0 : 0 ≤ b) (h1 : b ≤ 255) :
    Calls Tryz.prog 41 #[.int .u8 b] w fun e w' => e = .returned (.int .i64 (expandI b)) ∧ w = w' := by
  have hw := Lib.hid (expand_wraps b h0 h1)
  by_cases hs : (255 - b) / 128 = 1
  · have hd : Hid (expandI b = -(((2 * ((255 - b) % 16) + 33) * 2 ^ ((255 - b) / 16 % 8).toNat - 33) * 4) - 1) := by show expandI b = _; unfold expandI; rw [if_pos hs]
    have hs2 : ((255 - b) / 128 == 1) = true := by simpa using hs
    clear hs
    go_enter Tryz.func41, Tryz.ntmps41
    go_wp2_with fail
    go_ret
    exact ⟨ret_int (by rw [hd.out]; exact hw.out.2), rfl⟩
  · have hd : Hid (expandI b = ((2 * ((255 - b) % 16) + 33) * 2 ^ ((255 - b) / 16 % 8).toNat - 33) * 4) := by show expandI b = _; unfold expandI; rw [if_neg hs]
    have hs2 : ((255 - b) / 128 == 1) = false := by simpa using hs
    clear hs
    go_enter Tryz.func41, Tryz.ntmps41
    go_wp2_with fail
    go_ret
    exact ⟨ret_int (by rw [hd.out]; exact hw.out.1), rfl⟩

def aClass : Cls := ⟨[43, 49], [97], 0, 0, 1000, 7⟩
theorem aClass_good : GoodCls aClass := ⟨by decide, by decide, by decide, by decide, by decide, by decide, by decide, by decide, by decide, by decide, by decide, by decide⟩

theorem ready_tariff (w : World) (b : Nat) (hb : b < w.heap.size) (h0 : w.cell? ⟨b, 0, none⟩ = some (.string ⟨#[43, 49]⟩)) (h1 : w.cell? ⟨b, 1, none⟩ = some (.string ⟨#[97]⟩)) (h2 : w.cell? ⟨b, 2, none⟩ = some (.int .i64 0)) (h3 : w.cell? ⟨b, 3, none⟩ = some (.int .i64 0)) (h4 : w.cell? ⟨b, 4, none⟩ = some (.int .i64 1000)) (h5 : w.cell? ⟨b, 5, none⟩ = some (.int .i64 7)) :
    TariffAt w (some ⟨b, 0, none⟩) 1 [aClass] 0 none 0 [] where
  row := ⟨rfl, by omega, Or.inr ⟨b, 0, rfl, hb, fun i hi j hj => by
    obtain rfl : i = 0 := by omega
    match j, hj with
    | 0, _ => exact h0
    | 1, _ => exact h1
    | 2, _ => exact h2
    | 3, _ => exact h3
    | 4, _ => exact h4
    | 5, _ => exact h5⟩⟩
  good := fun i hi => by
    obtain rfl : i = 0 := by omega
    exact aClass_good
  sorted := fun i h0 h1 => by simp at h1; omega
  ins := ⟨rfl, by omega, Or.inl rfl⟩
  keys := fun i hi => by omega
  order := fun i h0 h1 => by omega
  free0 := by omega
  free1 := by omega

set_option maxHeartbeats 1000000 in
theorem price_ready (w : World) (b : Nat) (hb : b < w.heap.size) (h0 : w.cell? ⟨b, 0, none⟩ = some (.string ⟨#[43, 49]⟩)) (h1 : w.cell? ⟨b, 1, none⟩ = some (.string ⟨#[97]⟩)) (h2 : w.cell? ⟨b, 2, none⟩ = some (.int .i64 0)) (h3 : w.cell? ⟨b, 3, none⟩ = some (.int .i64 0)) (h4 : w.cell? ⟨b, 4, none⟩ = some (.int .i64 1000)) (h5 : w.cell? ⟨b, 5, none⟩ = some (.int .i64 7)) :
    Calls Tryz.prog 40 #[.agg #[.slice (some ⟨b, 0, none⟩) 1 1, .int .i64 0, .slice none 0 0], .string ⟨#[43, 49, 50, 48, 48]⟩, .int .i64 1500] w fun e w' => e = .returned (.tuple #[.int .i64 14, .int .i64 0]) ∧ Below w.heap.size w w' := by
  refine (price_at (ready_tariff w b hb h0 h1 h2 h3 h4 h5) [43, 49, 50, 48, 48] (by decide) (by decide) 1500 (by omega) (by omega)).mono ?_
  rintro e w' ⟨hB, rfl⟩
  exact ⟨rfl, hB⟩

theorem expand_128 (w : World) : Calls Tryz.prog 41 #[.int .u8 128] w fun e w' => e = .returned (.int .i64 32124) ∧ w = w' := expand_any 128 w (by omega) (by omega)

set_option maxRecDepth 100000 in
set_option maxHeartbeats 2000000 in
theorem ready_true (w : World) (ht : TabAt w) : Calls Tryz.prog 11 #[] w fun e w' => e = .returned (.bool true) ∧ Below w.heap.size w w' := by
  have HT := Lib.hid ht
  clear ht
  go_enter Tryz.func11, Tryz.ntmps11
  go_wp2_with fail
  refine (least_ready _ HT.out).mono ?_
  rintro e w1 ⟨rfl, hB1⟩
  go_wp2_with fail
  refine (present_ready _).mono ?_
  rintro e w2 ⟨rfl, hB2⟩
  go_wp2_with fail
  refine (ends_ready _).mono ?_
  rintro e w3 ⟨rfl, hB3⟩
  go_wp2_with fail
  refine (price_ready _ _ ?_ ?_ ?_ ?_ ?_ ?_ ?_).mono ?_
  · simp
  iterate 6 (focus (go_simp; done))
  rintro e w4 ⟨rfl, hB4⟩
  go_wp2_with fail
  refine (errs_zero _ _ 4 4 (by omega) ?_).mono ?_
  · intro i hi
    match i, hi with
    | 0, _ => go_simp
    | 1, _ => go_simp
    | 2, _ => go_simp
    | 3, _ => go_simp
  rintro e w5 ⟨rfl, rfl⟩
  go_wp2_with fail
  refine (expand_128 _).mono ?_
  rintro e w6 ⟨rfl, rfl⟩
  go_wp2_with fail
  go_ret
  exact ⟨rfl, (by (try show Below _ _ _); repeat (with_reducible first | exact Below.refl _ _ | assumption | exact Hid.out (by assumption) | refine ext_alloc ?_ | refine ext_drewN ?_ | refine ext_drew ?_ | refine ext_setCell ?_ (Nat.le_refl _) | refine ext_setCell ?_ (Nat.le_succ _) | refine ext_trans ?_ (by assumption) | (refine ext_setCell ?_ (by simp)) | (refine ext_setCell ?_ (by simp at *; omega))))⟩
end Go.Proofs.YtamlhapiehchoaaGreatDoor

namespace Go.Proofs.YtamlhapiehchoaaGreatDoor
open Go.RowKit
set_option linter.unusedVariables false
set_option linter.unusedSimpArgs false

def Samples (xs : List Int) : Prop := ∀ x ∈ xs, -32768 ≤ x ∧ x ≤ 32767
def Bytes (xs : List Int) : Prop := ∀ x ∈ xs, 0 ≤ x ∧ x ≤ 255


/-- A call that hands back a new row and no error. -/
def RowPost (k : IntKind) (e : TypeId) (xs : List Int) (w : World) (en : Ending) (w' : World) : Prop :=
  ∃ v, en = .returned (.tuple #[v, .int .i64 0]) ∧ w'.ownsRow w.heap.size e 1 v xs.length (xs.map (Value.int k)) ∧ Below w.heap.size w w'

set_option maxRecDepth 100000 in
set_option maxHeartbeats 1000000 in
theorem great_any (w : World) (a : Option Addr) (n cap : Nat) (xs : List Int) (hr : IRow .u8 w a n xs) (hs : Bytes xs) (hn : n ≤ 20000) :
    Calls Tryz.prog 14 #[.slice a n cap] w (RowPost .i64 3 (xs.map expandI) w) := by
  obtain ⟨i0, hi, hz0, hz1, hz2⟩ := info_parts Tryz.infoInt
  have Hr := Lib.hid hr
  have Hs := Lib.hid hs
  clear hr hs
  have HB8 : Hid (i0.bytes * n ≤ 281474976710656) := by show _ ≤ _; rw [hz2]; omega
  have HML : Hid (n ≤ maxLen) := by show n ≤ maxLen; unfold maxLen; omega
  go_enter Tryz.func14, Tryz.ntmps14
  go_wp2_with (first | (at_make; refine wpList_make_full _ rfl (.tmp 11) (.tmp 11) 22 rfl w.heap.size 3 i0 (.int .i64 0) 1 Tryz.underlying22 hi hz0 hz1 .i64 .i64 _ _ n (by simp [Act.eval]) (by simp [Act.eval]) rfl rfl HB8.out HML.out (Nat.le_refl _) ?_; intro w1 hown1 hgr1))
  have hW1 := Lib.hid (below_of_grown_none hgr1)
  have HO : Hid (FillRow w1 w.heap.size 3 w.heap.size n 0 ((xs.map expandI).map (Value.int .i64)) (.int .i64 0)) := FillRow.start (by have := Hr.out.1; simp; omega) hown1
  clear hown1 hgr1
  go_loopw [15] (fun i wr => ∃ k : Nat, k ≤ n ∧ i = .int .i64 k ∧ Hid (Below w.heap.size w wr) ∧ Hid (FillRow wr w.heap.size 3 w.heap.size n k ((xs.map expandI).map (Value.int .i64)) (.int .i64 0))) (fun i _ => n - (intOf i).toNat)
  case atStart => exact ⟨0, Nat.zero_le _, rfl, hW1, HO⟩
  case round =>
    obtain ⟨k, hk, rfl, HB, HO2⟩ := hrel
    by_cases hlt : k < n
    · have hxl : k < xs.length := by rw [← Hr.out.1]; exact hlt
      rcases Hr.out.2 with h0 | ⟨b, off, rfl, hb, hc⟩
      · omega
      have c0 := (HB.out.cell (p := ⟨b, off + k, none⟩) hb).trans (hc k hlt)
      have hx := Hs.out _ (mem_getD (i := k) hxl)
      obtain ⟨hst, ⟨u, hu⟩, hf⟩ := HO2.out.step hlt (map_at hxl)
      have ST := Lib.hid hst
      clear hc hst hxl
      generalize xs.getD k 0 = x at c0 hx ST
      obtain ⟨x0, x1⟩ := hx
      go_wp2_with (go_at_call 41; refine (expand_any _ _ (by omega) (by omega)).mono ?_; rintro e w' ⟨rfl, rfl⟩)
      go_roundw
      case rel => exact ⟨k + 1, by omega, by go_num, ext_setCell HB.out (Nat.le_refl _), ST.out⟩
      case measure => simp [intOf]; omega
    · obtain rfl : k = n := by omega
      have hfin : Hid (wr.ownsRow w.heap.size 3 1 (.slice (some ⟨w.heap.size, 0, none⟩) k k) (xs.map expandI).length ((xs.map expandI).map (Value.int .i64))) := by
        have := HO2.out.done
        rwa [show (xs.map expandI).length = k by have := Hr.out.1; simp; omega]
      go_wp2_with fail
      go_ret2
      exact ⟨_, rfl, hfin.out, HB.out⟩

end Go.Proofs.YtamlhapiehchoaaGreatDoor

namespace Go.Proofs.YtamlhapiehchoaaGreatDoor
open Go.RowKit
set_option linter.unusedVariables false
set_option linter.unusedSimpArgs false

theorem isSample_yes (n : Int) (w : World) (h1 : -32768 ≤ n) (h2 : n ≤ 32767) :
    Calls Tryz.prog 80 #[.int .i64 n] w fun e w' => e = .returned (.bool true) ∧ w = w' := by
  go_enter Tryz.func80, Tryz.ntmps80
  go_wp2_with (go_at_call 108; refine (within_m _ _ _ _ (by omega) (by omega)).mono ?_; rintro e w' ⟨rfl, rfl⟩)
  go_ret
  exact ⟨rfl, rfl⟩

set_option maxHeartbeats 2000000 in
theorem compress_nb (n : Int) (w : World) (h1 : -32768 ≤ n) (h2 : n ≤ 32767) (hs : n < 0) (hb : 8158 < (-n - 1) / 4) :
    Calls Tryz.prog 44 #[.int .i64 n] w fun e w' => e = .returned (.tuple #[.int .u8 (compI n), .int .i64 0]) ∧ w = w' := by
  have hm : magn n = 8191 := by unfold magn; rw [if_pos hs]; omega
  have hr := magn_range n h1 h2
  have hc : compI n = 255 - (128 + 16 * (expo (magn n) : Int) + (magn n / 2 ^ (expo (magn n) + 1) - 16)) := by unfold compI; rw [if_pos hs]
  have hcr := comp_range n h1 h2
  rw [hm] at hr hc
  have HC := Lib.hid hc
  have HR := Lib.hid hcr
  obtain ⟨r0, r1⟩ := hr
  clear hcr hm hc
  go_enter Tryz.func44, Tryz.ntmps44
  go_wp2_with (go_at_call 80; refine (isSample_yes _ _ (by omega) (by omega)).mono ?_; rintro e w' ⟨rfl, rfl⟩)
  go_loop [6] (fun s6 => ∃ e : Nat, e ≤ 7 ∧ s6 = .int .i64 e ∧ Hid (expo 8191 = expoTo 8191 (7 - e))) (fun s6 => 7 - (intOf s6).toNat)
  case atStart => exact ⟨0, by omega, rfl, rfl⟩
  case round =>
    obtain ⟨e, he, rfl, HE⟩ := hrel
    have h8 : e = 0 ∨ e = 1 ∨ e = 2 ∨ e = 3 ∨ e = 4 ∨ e = 5 ∨ e = 6 ∨ e = 7 := by omega
    rcases h8 with rfl | rfl | rfl | rfl | rfl | rfl | rfl | rfl
    · go_wp2_with fail
      go_round
      case rel => exact ⟨1, by omega, by go_num, HE.out.trans (expoTo_up0 _ (by omega))⟩
      case measure => simp [intOf]
    · go_wp2_with fail
      go_round
      case rel => exact ⟨2, by omega, by go_num, HE.out.trans (expoTo_up1 _ (by omega))⟩
      case measure => simp [intOf]
    · go_wp2_with fail
      go_round
      case rel => exact ⟨3, by omega, by go_num, HE.out.trans (expoTo_up2 _ (by omega))⟩
      case measure => simp [intOf]
    · go_wp2_with fail
      go_round
      case rel => exact ⟨4, by omega, by go_num, HE.out.trans (expoTo_up3 _ (by omega))⟩
      case measure => simp [intOf]
    · go_wp2_with fail
      go_round
      case rel => exact ⟨5, by omega, by go_num, HE.out.trans (expoTo_up4 _ (by omega))⟩
      case measure => simp [intOf]
    · go_wp2_with fail
      go_round
      case rel => exact ⟨6, by omega, by go_num, HE.out.trans (expoTo_up5 _ (by omega))⟩
      case measure => simp [intOf]
    · go_wp2_with fail
      go_round
      case rel => exact ⟨7, by omega, by go_num, HE.out.trans (expoTo_up6 _ (by omega))⟩
      case measure => simp [intOf]
    · have hx : expo 8191 = 7 := HE.out.trans (expoTo_out7 _)
      have hv := HC.out
      rw [hx] at hv
      have HV := Lib.hid hv
      clear hv hx
      go_wp2_with fail
      go_ret2
      refine ⟨?_, rfl⟩
      have hr2 := HR.out
      rw [HV.out] at hr2 ⊢
      exact congrArg (fun x => Ending.returned (.tuple #[.int .u8 x, .int .i64 0])) (by first | omega | (simp; omega))
set_option maxHeartbeats 2000000 in
theorem compress_ns (n : Int) (w : World) (h1 : -32768 ≤ n) (h2 : n ≤ 32767) (hs : n < 0) (hb : (-n - 1) / 4 ≤ 8158) :
    Calls Tryz.prog 44 #[.int .i64 n] w fun e w' => e = .returned (.tuple #[.int .u8 (compI n), .int .i64 0]) ∧ w = w' := by
  have hm : magn n = ((-n - 1) / 4 + 33) := by unfold magn; rw [if_pos hs]; omega
  have hr := magn_range n h1 h2
  have hc : compI n = 255 - (128 + 16 * (expo (magn n) : Int) + (magn n / 2 ^ (expo (magn n) + 1) - 16)) := by unfold compI; rw [if_pos hs]
  have hcr := comp_range n h1 h2
  rw [hm] at hr hc
  have HC := Lib.hid hc
  have HR := Lib.hid hcr
  obtain ⟨r0, r1⟩ := hr
  clear hcr hm hc
  go_enter Tryz.func44, Tryz.ntmps44
  go_wp2_with (go_at_call 80; refine (isSample_yes _ _ (by omega) (by omega)).mono ?_; rintro e w' ⟨rfl, rfl⟩)
  go_loop [6] (fun s6 => ∃ e : Nat, e ≤ 7 ∧ s6 = .int .i64 e ∧ Hid (expo ((-n - 1) / 4 + 33) = expoTo ((-n - 1) / 4 + 33) (7 - e))) (fun s6 => 7 - (intOf s6).toNat)
  case atStart => exact ⟨0, by omega, rfl, rfl⟩
  case round =>
    obtain ⟨e, he, rfl, HE⟩ := hrel
    have h8 : e = 0 ∨ e = 1 ∨ e = 2 ∨ e = 3 ∨ e = 4 ∨ e = 5 ∨ e = 6 ∨ e = 7 := by omega
    rcases h8 with rfl | rfl | rfl | rfl | rfl | rfl | rfl | rfl
    · by_cases hq : 64 ≤ ((-n - 1) / 4 + 33)
      · go_wp2_with fail
        go_round
        case rel => exact ⟨1, by omega, by go_num, HE.out.trans (expoTo_up0 _ (by omega))⟩
        case measure => simp [intOf]
      · have hx : expo ((-n - 1) / 4 + 33) = 0 := HE.out.trans (expoTo_out0 _ hq)
        have hv := HC.out
        rw [hx] at hv
        have HV := Lib.hid hv
        clear hv hx
        go_wp2_with fail
        go_ret2
        refine ⟨?_, rfl⟩
        have hr2 := HR.out
        rw [HV.out] at hr2 ⊢
        exact congrArg (fun x => Ending.returned (.tuple #[.int .u8 x, .int .i64 0])) (by first | omega | (simp; omega))
    · by_cases hq : 128 ≤ ((-n - 1) / 4 + 33)
      · go_wp2_with fail
        go_round
        case rel => exact ⟨2, by omega, by go_num, HE.out.trans (expoTo_up1 _ (by omega))⟩
        case measure => simp [intOf]
      · have hx : expo ((-n - 1) / 4 + 33) = 1 := HE.out.trans (expoTo_out1 _ hq)
        have hv := HC.out
        rw [hx] at hv
        have HV := Lib.hid hv
        clear hv hx
        go_wp2_with fail
        go_ret2
        refine ⟨?_, rfl⟩
        have hr2 := HR.out
        rw [HV.out] at hr2 ⊢
        exact congrArg (fun x => Ending.returned (.tuple #[.int .u8 x, .int .i64 0])) (by first | omega | (simp; omega))
    · by_cases hq : 256 ≤ ((-n - 1) / 4 + 33)
      · go_wp2_with fail
        go_round
        case rel => exact ⟨3, by omega, by go_num, HE.out.trans (expoTo_up2 _ (by omega))⟩
        case measure => simp [intOf]
      · have hx : expo ((-n - 1) / 4 + 33) = 2 := HE.out.trans (expoTo_out2 _ hq)
        have hv := HC.out
        rw [hx] at hv
        have HV := Lib.hid hv
        clear hv hx
        go_wp2_with fail
        go_ret2
        refine ⟨?_, rfl⟩
        have hr2 := HR.out
        rw [HV.out] at hr2 ⊢
        exact congrArg (fun x => Ending.returned (.tuple #[.int .u8 x, .int .i64 0])) (by first | omega | (simp; omega))
    · by_cases hq : 512 ≤ ((-n - 1) / 4 + 33)
      · go_wp2_with fail
        go_round
        case rel => exact ⟨4, by omega, by go_num, HE.out.trans (expoTo_up3 _ (by omega))⟩
        case measure => simp [intOf]
      · have hx : expo ((-n - 1) / 4 + 33) = 3 := HE.out.trans (expoTo_out3 _ hq)
        have hv := HC.out
        rw [hx] at hv
        have HV := Lib.hid hv
        clear hv hx
        go_wp2_with fail
        go_ret2
        refine ⟨?_, rfl⟩
        have hr2 := HR.out
        rw [HV.out] at hr2 ⊢
        exact congrArg (fun x => Ending.returned (.tuple #[.int .u8 x, .int .i64 0])) (by first | omega | (simp; omega))
    · by_cases hq : 1024 ≤ ((-n - 1) / 4 + 33)
      · go_wp2_with fail
        go_round
        case rel => exact ⟨5, by omega, by go_num, HE.out.trans (expoTo_up4 _ (by omega))⟩
        case measure => simp [intOf]
      · have hx : expo ((-n - 1) / 4 + 33) = 4 := HE.out.trans (expoTo_out4 _ hq)
        have hv := HC.out
        rw [hx] at hv
        have HV := Lib.hid hv
        clear hv hx
        go_wp2_with fail
        go_ret2
        refine ⟨?_, rfl⟩
        have hr2 := HR.out
        rw [HV.out] at hr2 ⊢
        exact congrArg (fun x => Ending.returned (.tuple #[.int .u8 x, .int .i64 0])) (by first | omega | (simp; omega))
    · by_cases hq : 2048 ≤ ((-n - 1) / 4 + 33)
      · go_wp2_with fail
        go_round
        case rel => exact ⟨6, by omega, by go_num, HE.out.trans (expoTo_up5 _ (by omega))⟩
        case measure => simp [intOf]
      · have hx : expo ((-n - 1) / 4 + 33) = 5 := HE.out.trans (expoTo_out5 _ hq)
        have hv := HC.out
        rw [hx] at hv
        have HV := Lib.hid hv
        clear hv hx
        go_wp2_with fail
        go_ret2
        refine ⟨?_, rfl⟩
        have hr2 := HR.out
        rw [HV.out] at hr2 ⊢
        exact congrArg (fun x => Ending.returned (.tuple #[.int .u8 x, .int .i64 0])) (by first | omega | (simp; omega))
    · by_cases hq : 4096 ≤ ((-n - 1) / 4 + 33)
      · go_wp2_with fail
        go_round
        case rel => exact ⟨7, by omega, by go_num, HE.out.trans (expoTo_up6 _ (by omega))⟩
        case measure => simp [intOf]
      · have hx : expo ((-n - 1) / 4 + 33) = 6 := HE.out.trans (expoTo_out6 _ hq)
        have hv := HC.out
        rw [hx] at hv
        have HV := Lib.hid hv
        clear hv hx
        go_wp2_with fail
        go_ret2
        refine ⟨?_, rfl⟩
        have hr2 := HR.out
        rw [HV.out] at hr2 ⊢
        exact congrArg (fun x => Ending.returned (.tuple #[.int .u8 x, .int .i64 0])) (by first | omega | (simp; omega))
    · have hx : expo ((-n - 1) / 4 + 33) = 7 := HE.out.trans (expoTo_out7 _)
      have hv := HC.out
      rw [hx] at hv
      have HV := Lib.hid hv
      clear hv hx
      go_wp2_with fail
      go_ret2
      refine ⟨?_, rfl⟩
      have hr2 := HR.out
      rw [HV.out] at hr2 ⊢
      exact congrArg (fun x => Ending.returned (.tuple #[.int .u8 x, .int .i64 0])) (by first | omega | (simp; omega))
set_option maxHeartbeats 2000000 in
theorem compress_pb (n : Int) (w : World) (h1 : -32768 ≤ n) (h2 : n ≤ 32767) (hs : 0 ≤ n) (hb : 8158 < n / 4) :
    Calls Tryz.prog 44 #[.int .i64 n] w fun e w' => e = .returned (.tuple #[.int .u8 (compI n), .int .i64 0]) ∧ w = w' := by
  have hm : magn n = 8191 := by unfold magn; rw [if_neg (by omega)]; omega
  have hr := magn_range n h1 h2
  have hc : compI n = 255 - (0 + 16 * (expo (magn n) : Int) + (magn n / 2 ^ (expo (magn n) + 1) - 16)) := by unfold compI; rw [if_neg (by omega)]
  have hcr := comp_range n h1 h2
  rw [hm] at hr hc
  have HC := Lib.hid hc
  have HR := Lib.hid hcr
  obtain ⟨r0, r1⟩ := hr
  clear hcr hm hc
  go_enter Tryz.func44, Tryz.ntmps44
  go_wp2_with (go_at_call 80; refine (isSample_yes _ _ (by omega) (by omega)).mono ?_; rintro e w' ⟨rfl, rfl⟩)
  go_loop [6] (fun s6 => ∃ e : Nat, e ≤ 7 ∧ s6 = .int .i64 e ∧ Hid (expo 8191 = expoTo 8191 (7 - e))) (fun s6 => 7 - (intOf s6).toNat)
  case atStart => exact ⟨0, by omega, rfl, rfl⟩
  case round =>
    obtain ⟨e, he, rfl, HE⟩ := hrel
    have h8 : e = 0 ∨ e = 1 ∨ e = 2 ∨ e = 3 ∨ e = 4 ∨ e = 5 ∨ e = 6 ∨ e = 7 := by omega
    rcases h8 with rfl | rfl | rfl | rfl | rfl | rfl | rfl | rfl
    · go_wp2_with fail
      go_round
      case rel => exact ⟨1, by omega, by go_num, HE.out.trans (expoTo_up0 _ (by omega))⟩
      case measure => simp [intOf]
    · go_wp2_with fail
      go_round
      case rel => exact ⟨2, by omega, by go_num, HE.out.trans (expoTo_up1 _ (by omega))⟩
      case measure => simp [intOf]
    · go_wp2_with fail
      go_round
      case rel => exact ⟨3, by omega, by go_num, HE.out.trans (expoTo_up2 _ (by omega))⟩
      case measure => simp [intOf]
    · go_wp2_with fail
      go_round
      case rel => exact ⟨4, by omega, by go_num, HE.out.trans (expoTo_up3 _ (by omega))⟩
      case measure => simp [intOf]
    · go_wp2_with fail
      go_round
      case rel => exact ⟨5, by omega, by go_num, HE.out.trans (expoTo_up4 _ (by omega))⟩
      case measure => simp [intOf]
    · go_wp2_with fail
      go_round
      case rel => exact ⟨6, by omega, by go_num, HE.out.trans (expoTo_up5 _ (by omega))⟩
      case measure => simp [intOf]
    · go_wp2_with fail
      go_round
      case rel => exact ⟨7, by omega, by go_num, HE.out.trans (expoTo_up6 _ (by omega))⟩
      case measure => simp [intOf]
    · have hx : expo 8191 = 7 := HE.out.trans (expoTo_out7 _)
      have hv := HC.out
      rw [hx] at hv
      have HV := Lib.hid hv
      clear hv hx
      go_wp2_with fail
      go_ret2
      refine ⟨?_, rfl⟩
      have hr2 := HR.out
      rw [HV.out] at hr2 ⊢
      exact congrArg (fun x => Ending.returned (.tuple #[.int .u8 x, .int .i64 0])) (by first | omega | (simp; omega))
set_option maxHeartbeats 2000000 in
theorem compress_ps (n : Int) (w : World) (h1 : -32768 ≤ n) (h2 : n ≤ 32767) (hs : 0 ≤ n) (hb : n / 4 ≤ 8158) :
    Calls Tryz.prog 44 #[.int .i64 n] w fun e w' => e = .returned (.tuple #[.int .u8 (compI n), .int .i64 0]) ∧ w = w' := by
  have hm : magn n = (n / 4 + 33) := by unfold magn; rw [if_neg (by omega)]; omega
  have hr := magn_range n h1 h2
  have hc : compI n = 255 - (0 + 16 * (expo (magn n) : Int) + (magn n / 2 ^ (expo (magn n) + 1) - 16)) := by unfold compI; rw [if_neg (by omega)]
  have hcr := comp_range n h1 h2
  rw [hm] at hr hc
  have HC := Lib.hid hc
  have HR := Lib.hid hcr
  obtain ⟨r0, r1⟩ := hr
  clear hcr hm hc
  go_enter Tryz.func44, Tryz.ntmps44
  go_wp2_with (go_at_call 80; refine (isSample_yes _ _ (by omega) (by omega)).mono ?_; rintro e w' ⟨rfl, rfl⟩)
  go_loop [6] (fun s6 => ∃ e : Nat, e ≤ 7 ∧ s6 = .int .i64 e ∧ Hid (expo (n / 4 + 33) = expoTo (n / 4 + 33) (7 - e))) (fun s6 => 7 - (intOf s6).toNat)
  case atStart => exact ⟨0, by omega, rfl, rfl⟩
  case round =>
    obtain ⟨e, he, rfl, HE⟩ := hrel
    have h8 : e = 0 ∨ e = 1 ∨ e = 2 ∨ e = 3 ∨ e = 4 ∨ e = 5 ∨ e = 6 ∨ e = 7 := by omega
    rcases h8 with rfl | rfl | rfl | rfl | rfl | rfl | rfl | rfl
    · by_cases hq : 64 ≤ (n / 4 + 33)
      · go_wp2_with fail
        go_round
        case rel => exact ⟨1, by omega, by go_num, HE.out.trans (expoTo_up0 _ (by omega))⟩
        case measure => simp [intOf]
      · have hx : expo (n / 4 + 33) = 0 := HE.out.trans (expoTo_out0 _ hq)
        have hv := HC.out
        rw [hx] at hv
        have HV := Lib.hid hv
        clear hv hx
        go_wp2_with fail
        go_ret2
        refine ⟨?_, rfl⟩
        have hr2 := HR.out
        rw [HV.out] at hr2 ⊢
        exact congrArg (fun x => Ending.returned (.tuple #[.int .u8 x, .int .i64 0])) (by first | omega | (simp; omega))
    · by_cases hq : 128 ≤ (n / 4 + 33)
      · go_wp2_with fail
        go_round
        case rel => exact ⟨2, by omega, by go_num, HE.out.trans (expoTo_up1 _ (by omega))⟩
        case measure => simp [intOf]
      · have hx : expo (n / 4 + 33) = 1 := HE.out.trans (expoTo_out1 _ hq)
        have hv := HC.out
        rw [hx] at hv
        have HV := Lib.hid hv
        clear hv hx
        go_wp2_with fail
        go_ret2
        refine ⟨?_, rfl⟩
        have hr2 := HR.out
        rw [HV.out] at hr2 ⊢
        exact congrArg (fun x => Ending.returned (.tuple #[.int .u8 x, .int .i64 0])) (by first | omega | (simp; omega))
    · by_cases hq : 256 ≤ (n / 4 + 33)
      · go_wp2_with fail
        go_round
        case rel => exact ⟨3, by omega, by go_num, HE.out.trans (expoTo_up2 _ (by omega))⟩
        case measure => simp [intOf]
      · have hx : expo (n / 4 + 33) = 2 := HE.out.trans (expoTo_out2 _ hq)
        have hv := HC.out
        rw [hx] at hv
        have HV := Lib.hid hv
        clear hv hx
        go_wp2_with fail
        go_ret2
        refine ⟨?_, rfl⟩
        have hr2 := HR.out
        rw [HV.out] at hr2 ⊢
        exact congrArg (fun x => Ending.returned (.tuple #[.int .u8 x, .int .i64 0])) (by first | omega | (simp; omega))
    · by_cases hq : 512 ≤ (n / 4 + 33)
      · go_wp2_with fail
        go_round
        case rel => exact ⟨4, by omega, by go_num, HE.out.trans (expoTo_up3 _ (by omega))⟩
        case measure => simp [intOf]
      · have hx : expo (n / 4 + 33) = 3 := HE.out.trans (expoTo_out3 _ hq)
        have hv := HC.out
        rw [hx] at hv
        have HV := Lib.hid hv
        clear hv hx
        go_wp2_with fail
        go_ret2
        refine ⟨?_, rfl⟩
        have hr2 := HR.out
        rw [HV.out] at hr2 ⊢
        exact congrArg (fun x => Ending.returned (.tuple #[.int .u8 x, .int .i64 0])) (by first | omega | (simp; omega))
    · by_cases hq : 1024 ≤ (n / 4 + 33)
      · go_wp2_with fail
        go_round
        case rel => exact ⟨5, by omega, by go_num, HE.out.trans (expoTo_up4 _ (by omega))⟩
        case measure => simp [intOf]
      · have hx : expo (n / 4 + 33) = 4 := HE.out.trans (expoTo_out4 _ hq)
        have hv := HC.out
        rw [hx] at hv
        have HV := Lib.hid hv
        clear hv hx
        go_wp2_with fail
        go_ret2
        refine ⟨?_, rfl⟩
        have hr2 := HR.out
        rw [HV.out] at hr2 ⊢
        exact congrArg (fun x => Ending.returned (.tuple #[.int .u8 x, .int .i64 0])) (by first | omega | (simp; omega))
    · by_cases hq : 2048 ≤ (n / 4 + 33)
      · go_wp2_with fail
        go_round
        case rel => exact ⟨6, by omega, by go_num, HE.out.trans (expoTo_up5 _ (by omega))⟩
        case measure => simp [intOf]
      · have hx : expo (n / 4 + 33) = 5 := HE.out.trans (expoTo_out5 _ hq)
        have hv := HC.out
        rw [hx] at hv
        have HV := Lib.hid hv
        clear hv hx
        go_wp2_with fail
        go_ret2
        refine ⟨?_, rfl⟩
        have hr2 := HR.out
        rw [HV.out] at hr2 ⊢
        exact congrArg (fun x => Ending.returned (.tuple #[.int .u8 x, .int .i64 0])) (by first | omega | (simp; omega))
    · by_cases hq : 4096 ≤ (n / 4 + 33)
      · go_wp2_with fail
        go_round
        case rel => exact ⟨7, by omega, by go_num, HE.out.trans (expoTo_up6 _ (by omega))⟩
        case measure => simp [intOf]
      · have hx : expo (n / 4 + 33) = 6 := HE.out.trans (expoTo_out6 _ hq)
        have hv := HC.out
        rw [hx] at hv
        have HV := Lib.hid hv
        clear hv hx
        go_wp2_with fail
        go_ret2
        refine ⟨?_, rfl⟩
        have hr2 := HR.out
        rw [HV.out] at hr2 ⊢
        exact congrArg (fun x => Ending.returned (.tuple #[.int .u8 x, .int .i64 0])) (by first | omega | (simp; omega))
    · have hx : expo (n / 4 + 33) = 7 := HE.out.trans (expoTo_out7 _)
      have hv := HC.out
      rw [hx] at hv
      have HV := Lib.hid hv
      clear hv hx
      go_wp2_with fail
      go_ret2
      refine ⟨?_, rfl⟩
      have hr2 := HR.out
      rw [HV.out] at hr2 ⊢
      exact congrArg (fun x => Ending.returned (.tuple #[.int .u8 x, .int .i64 0])) (by first | omega | (simp; omega))

theorem compress_any (n : Int) (w : World) (h1 : -32768 ≤ n) (h2 : n ≤ 32767) :
    Calls Tryz.prog 44 #[.int .i64 n] w fun e w' => e = .returned (.tuple #[.int .u8 (compI n), .int .i64 0]) ∧ w = w' := by
  by_cases hs : n < 0
  · by_cases hb : (-n - 1) / 4 ≤ 8158
    · exact compress_ns n w h1 h2 hs hb
    · exact compress_nb n w h1 h2 hs (by omega)
  · by_cases hb : n / 4 ≤ 8158
    · exact compress_ps n w h1 h2 (by omega) hb
    · exact compress_pb n w h1 h2 (by omega) (by omega)
end Go.Proofs.YtamlhapiehchoaaGreatDoor

namespace Go.Proofs.YtamlhapiehchoaaGreatDoor
open Go.RowKit
set_option linter.unusedVariables false
set_option linter.unusedSimpArgs false

set_option maxHeartbeats 1000000 in
theorem checkSamples_ok (w : World) (a : Option Addr) (n cap : Nat) (xs : List Int) (hr : IRow .i64 w a n xs) (hs : Samples xs) (hn : n ≤ 20000) :
    Calls Tryz.prog 43 #[.slice a n cap] w fun e w' => e = .returned (.int .i64 0) ∧ w = w' := by
  have Hr := Lib.hid hr
  have Hs := Lib.hid hs
  clear hr hs
  go_enter Tryz.func43, Tryz.ntmps43
  go_wp2_with fail
  go_loop [10] (fun i => ∃ k : Nat, k ≤ n ∧ i = .int .i64 k) (fun i => n - (intOf i).toNat)
  case atStart => exact ⟨0, Nat.zero_le _, rfl⟩
  case round =>
    obtain ⟨k, hk, rfl⟩ := hrel
    by_cases hlt : k < n
    · rcases Hr.out.2 with h0 | ⟨b, off, rfl, hb, hc⟩
      · omega
      have c0 := hc k hlt
      have hx := Hs.out _ (mem_getD (i := k) (by rw [← Hr.out.1]; exact hlt))
      clear hc
      generalize xs.getD k 0 = x at c0 hx
      obtain ⟨x0, x1⟩ := hx
      go_wp2_with (go_at_call 80; refine (isSample_yes _ _ (by omega) (by omega)).mono ?_; rintro e w' ⟨rfl, rfl⟩)
      go_round
      case rel => exact ⟨k + 1, by omega, by go_num⟩
      case measure => simp [intOf]; omega
    · go_wp2_with fail
      go_ret
      exact ⟨rfl, rfl⟩

set_option maxRecDepth 100000 in
set_option maxHeartbeats 1000000 in
theorem small_any (w : World) (a : Option Addr) (n cap : Nat) (xs : List Int) (hr : IRow .i64 w a n xs) (hs : Samples xs) (hn : n ≤ 20000) :
    Calls Tryz.prog 13 #[.slice a n cap] w (RowPost .u8 5 (xs.map compI) w) := by
  obtain ⟨i0, hi, hz0, hz1, hz2⟩ := info_parts infoByteR
  have Hr := Lib.hid hr
  have Hs := Lib.hid hs
  clear hr hs
  have HB8 : Hid (i0.bytes * n ≤ 281474976710656) := by show _ ≤ _; rw [hz2]; omega
  have HML : Hid (n ≤ maxLen) := by show n ≤ maxLen; unfold maxLen; omega
  go_enter Tryz.func13, Tryz.ntmps13
  go_wp2_with (first | (at_make; refine wpList_make_full _ rfl (.tmp 14) (.tmp 14) 44 rfl w.heap.size 5 i0 (.int .u8 0) 1 Tryz.underlying44 hi hz0 hz1 .i64 .i64 _ _ n (by simp [Act.eval]) (by simp [Act.eval]) rfl rfl HB8.out HML.out (Nat.le_refl _) ?_; intro w1 hown1 hgr1) | (go_at_call 43; refine (checkSamples_ok _ _ _ _ xs Hr.out Hs.out hn).mono ?_; rintro e w' ⟨rfl, rfl⟩))
  have hW1 := Lib.hid (below_of_grown_none hgr1)
  have HO : Hid (FillRow w1 w.heap.size 5 w.heap.size n 0 ((xs.map compI).map (Value.int .u8)) (.int .u8 0)) := FillRow.start (by have := Hr.out.1; simp; omega) hown1
  clear hown1 hgr1
  go_loopw [18] (fun i wr => ∃ k : Nat, k ≤ n ∧ i = .int .i64 k ∧ Hid (Below w.heap.size w wr) ∧ Hid (FillRow wr w.heap.size 5 w.heap.size n k ((xs.map compI).map (Value.int .u8)) (.int .u8 0))) (fun i _ => n - (intOf i).toNat)
  case atStart => exact ⟨0, Nat.zero_le _, rfl, hW1, HO⟩
  case round =>
    obtain ⟨k, hk, rfl, HB, HO2⟩ := hrel
    by_cases hlt : k < n
    · have hxl : k < xs.length := by rw [← Hr.out.1]; exact hlt
      rcases Hr.out.2 with h0 | ⟨b, off, rfl, hb, hc⟩
      · omega
      have c0 := (HB.out.cell (p := ⟨b, off + k, none⟩) hb).trans (hc k hlt)
      have hx := Hs.out _ (mem_getD (i := k) hxl)
      obtain ⟨hst, ⟨u, hu⟩, hf⟩ := HO2.out.step hlt (map_at hxl)
      have ST := Lib.hid hst
      clear hc hst hxl
      generalize xs.getD k 0 = x at c0 hx ST
      obtain ⟨x0, x1⟩ := hx
      go_wp2_with (go_at_call 44; refine (compress_any _ _ (by omega) (by omega)).mono ?_; rintro e w' ⟨rfl, rfl⟩)
      go_roundw
      case rel => exact ⟨k + 1, by omega, by go_num, ext_setCell HB.out (Nat.le_refl _), ST.out⟩
      case measure => simp [intOf]; omega
    · obtain rfl : k = n := by omega
      have hfin : Hid (wr.ownsRow w.heap.size 5 1 (.slice (some ⟨w.heap.size, 0, none⟩) k k) (xs.map compI).length ((xs.map compI).map (Value.int .u8))) := by
        have := HO2.out.done
        rwa [show (xs.map compI).length = k by have := Hr.out.1; simp; omega]
      go_wp2_with fail
      go_ret2
      exact ⟨_, rfl, hfin.out, HB.out⟩

end Go.Proofs.YtamlhapiehchoaaGreatDoor

namespace Go.Proofs.YtamlhapiehchoaaGreatDoor
open Go.RowKit

def stepI (c : Int) (p : Int × Int) (x : Int) : Int × Int := (wrap64 (wrap64 (x / 8 + wrap64 (c * p.1) / 16384) - p.2), p.1)
def strI (c : Int) (l : List Int) : Int := let p := l.foldl (stepI c) (0, 0); wrap64 (wrap64 (wrap64 (p.1 * p.1) + wrap64 (p.2 * p.2)) - wrap64 (wrap64 (c * p.1) / 16384 * p.2))
/-- The numbers from the i-th on, of which the two before are given. -/
def humS (c : Int) : Nat → Int × Int → List Int
  | 0, _ => []
  | n + 1, (a, b) => a :: humS c n (b, wrap64 (wrap64 (c * b) / 16384 - a))
def humI (c : Int) (n : Nat) : List Int := humS c n (0, c / 8)
def rowsI : List Int := [27980, 26956, 25701, 24219]
def colsI : List Int := [19073, 16325, 13085, 9315]
/-- The place of the greatest, the first of such. -/
def bestTo (a : List Int) : Nat → Nat
  | 0 => 0
  | k + 1 => if a.getD (bestTo a k) 0 < a.getD k 0 then k else bestTo a k
def noneNear (a : List Int) (b : Nat) : Nat → Bool
  | 0 => true
  | k + 1 => noneNear a b k && (k == b || decide (¬ a.getD b 0 < wrap64 (6 * a.getD k 0)))
def strongI (ns l : List Int) : Nat × Bool :=
  let a := ns.map (fun c => strI c l)
  let b := bestTo a a.length
  if noneNear a b a.length then (b, decide (4000000 ≤ a.getD b 0)) else (0, false)
def classI (l : List Int) : Int := let r := strongI rowsI l; let c := strongI colsI l; if r.2 && c.2 then 4 * r.1 + c.1 else -1
def toneI (k n : Nat) : List Int := List.zipWith (fun a b => wrap64 (a + b)) (humI (rowsI.getD (k / 4) 0) n) (humI (colsI.getD (k % 4) 0) n)
end Go.Proofs.YtamlhapiehchoaaGreatDoor

namespace Go.Proofs.YtamlhapiehchoaaGreatDoor
open Go.RowKit
set_option linter.unusedVariables false
set_option linter.unusedSimpArgs false

set_option maxRecDepth 100000 in
set_option maxHeartbeats 1000000 in
theorem strength_any (w : World) (c : Int) (a : Option Addr) (n cap : Nat) (xs : List Int) (hr : IRow .i64 w a n xs) (hn : n ≤ 100000) :
    Calls Tryz.prog 81 #[.int .i64 c, .slice a n cap] w fun e w' => e = .returned (.int .i64 (strI c xs)) ∧ w = w' := by
  obtain ⟨hl, hr⟩ := hr
  have Hl := Lib.hid hl
  have HR := Lib.hid hr
  clear hl hr
  go_enter Tryz.func81, Tryz.ntmps81
  go_wp2_with fail
  go_loop [5, 6, 12] (fun u v i => ∃ k : Nat, k ≤ n ∧ i = .int .i64 k ∧ u = .int .i64 ((xs.take k).foldl (stepI c) (0, 0)).1 ∧ v = .int .i64 ((xs.take k).foldl (stepI c) (0, 0)).2) (fun _ _ i => n - (intOf i).toNat)
  case atStart => exact ⟨0, Nat.zero_le _, rfl, rfl, rfl⟩
  case round =>
    obtain ⟨k, hk, rfl, rfl, rfl⟩ := hrel
    by_cases hlt : k < n
    · rcases HR.out with h0 | ⟨b, off, rfl, hb, hc⟩
      · omega
      have hcell := hc k hlt
      have hsn : Hid ((xs.take (k + 1)).foldl (stepI c) (0, 0) = stepI c ((xs.take k).foldl (stepI c) (0, 0)) (xs.getD k 0)) := by
        show _ = _
        have hkl : k < xs.length := by rw [← Hl.out]; exact hlt
        rw [List.take_succ_eq_append_getElem hkl, List.foldl_append]
        simp [hkl]
      generalize xs.getD k 0 = x at hcell hsn
      generalize (xs.take k).foldl (stepI c) (0, 0) = p at hsn
      clear hc
      go_wp2_with fail
      go_round
      case rel => exact ⟨k + 1, by omega, by go_num, by rw [hsn.out]; rfl, by rw [hsn.out]; rfl⟩
      case measure => simp [intOf]; omega
    · obtain rfl : k = n := by omega
      have hx : Hid (xs.take k = xs) := List.take_of_length_le (by rw [← Hl.out]; exact Nat.le_refl _)
      go_wp2_with fail
      go_ret
      exact ⟨by rw [hx.out]; rfl, rfl⟩

theorem bestTo_lt (a : List Int) : ∀ k, 0 < k → bestTo a k < k
  | k + 1, _ => by
    simp only [bestTo]
    split
    · omega
    · rcases Nat.eq_zero_or_pos k with h | h
      · subst h; simp [bestTo]
      · have := bestTo_lt a k h; omega

theorem noneNear_false {a : List Int} {b k n : Nat} (hk : k < n) (h : k ≠ b) (hl : a.getD b 0 < wrap64 (6 * a.getD k 0)) : noneNear a b n = false := by
  induction n with
  | zero => omega
  | succ n ih =>
    simp only [noneNear]
    rcases Nat.lt_or_ge k n with h1 | h1
    · rw [ih h1]; rfl
    · obtain rfl : k = n := by omega
      simp [h]
      intro _
      simpa using hl

theorem own_at {w : World} {base : Nat} {e : TypeId} {v : Value} {k : Nat} {xs : List Value} (h : w.ownsRow base e 1 v (k + 1) xs) : ∃ g cap, v = .slice (some ⟨g, 0, none⟩) (k + 1) cap := by
  rcases h.2 with ⟨_, h0⟩ | ⟨g, cap, cur, rfl, _⟩
  · omega
  · exact ⟨g, cap, rfl⟩

def StrongPost (ns zs : List Int) (w : World) (e : Ending) (w' : World) : Prop :=
  e = .returned (.tuple #[.int .i64 (strongI ns zs).1, .bool (strongI ns zs).2]) ∧ Below w.heap.size w w'

set_option maxRecDepth 100000 in
set_option maxHeartbeats 4000000 in
theorem strongest_any (w : World) (a a2 : Option Addr) (m cap n cap2 : Nat) (ns zs : List Int) (hr : IRow .i64 w a m ns) (hr2 : IRow .i64 w a2 n zs) (hm : m ≤ 100) (hm0 : 1 ≤ m) (hn : n ≤ 100000) :
    Calls Tryz.prog 45 #[.slice a m cap, .slice a2 n cap2] w (StrongPost ns zs w) := by
  obtain ⟨i0, hi, hz0, hz1, hz2⟩ := info_parts Tryz.infoInt
  have HR2 := Lib.hid hr2
  obtain ⟨hl, hr⟩ := hr
  have Hl := Lib.hid hl
  rcases hr with h0 | ⟨b, off, rfl, hb, hc⟩
  · omega
  have HC := Lib.hid hc
  clear hl hc hr2
  obtain ⟨st, HA⟩ : ∃ st : List Int, Hid (st = ns.map (fun c => strI c zs)) := ⟨_, rfl⟩
  have HAL : Hid (st.length = m) := by show _ = _; rw [HA.out, List.length_map, ← Hl.out]
  have HAK : Hid (∀ k, k < m → st.getD k 0 = strI (ns.getD k 0) zs) := by
    intro k hk
    have hkl : k < ns.length := by rw [← Hl.out]; exact hk
    rw [HA.out]; simp [hkl]
  have HP : Hid (strongI ns zs = if noneNear st (bestTo st m) m then (bestTo st m, decide (4000000 ≤ st.getD (bestTo st m) 0)) else (0, false)) := by
    show _ = _
    unfold strongI
    simp only [← HA.out, HAL.out]
  go_enter Tryz.func45, Tryz.ntmps45
  go_wp2_with fail
  go_loopw [6, 7, 14] (fun v bst i wr => ∃ k : Nat, k ≤ m ∧ i = .int .i64 k ∧ bst = .int .i64 (bestTo st k) ∧ Hid (wr.ownsRow w.heap.size 3 1 v k ((st.take k).map (Value.int .i64))) ∧ Hid (Below w.heap.size w wr)) (fun _ _ i _ => m - (intOf i).toNat)
  case atStart => exact ⟨0, Nat.zero_le _, rfl, rfl, World.ownsRow_nil _ _ _ _, Below.refl _ _⟩
  case round =>
    obtain ⟨k, hk, rfl, rfl, HO, HB⟩ := hrel
    by_cases hlt : k < m
    · have hcell := (HB.out.cell (p := ⟨b, off + k, none⟩) hb).trans (HC.out k hlt)
      have hak := HAK.out k hlt
      have hsz := HB.out.size
      generalize ns.getD k 0 = c at hcell hak
      go_wp2_with fail
      refine (strength_any _ c a2 n cap2 zs (HR2.out.below HB.out) hn).mono ?_
      rintro e w' ⟨rfl, rfl⟩
      rw [← hak]
      have HO' := Lib.hid (HO.out.alloc (.cells #[.int .i64 (st.getD k 0)] 3))
      have hrow := fun b e => (HO.out.lt b e).1
      have HSN : Hid (st.take (k + 1) = st.take k ++ [st.getD k 0]) := by
        have hkl : k < st.length := by rw [HAL.out]; exact hlt
        show _ = _
        rw [List.take_succ_eq_append_getElem hkl]; simp [hkl]
      clear hak
      go_wp2_with (at_builtin; refine wpList_append_own _ rfl (.tmp 19) (.tmp 23) 22 rfl w.heap.size 3 i0 (.int .i64 0) 1 8 Tryz.underlying22 hi hz0 hz1 hz2 rfl (by decide) _ k ((st.take k).map (Value.int .i64)) rfl HO'.out ⟨wr.heap.size, 0, none⟩ 1 1 [.int .i64 (st.getD k 0)] rfl rfl (news_one (by go_simp)) (by simp [Value.oneCell']) (by simp only [maxLen]; omega) (by omega) (by simp; omega) ?_; intro v4 w4 hown4 hgr4 _)
      have hown5 : w4.ownsRow w.heap.size 3 1 v4 (k + 1) ((st.take (k + 1)).map (Value.int .i64)) := by rw [HSN.out, List.map_append]; exact hown4
      have hb4 : Below w.heap.size w w4 := HB.out.trans (upto_grown hgr4 hsz hrow)
      obtain ⟨g, cap4, rfl⟩ := own_at hown5
      have HO5 := Lib.hid hown5
      have HB5 := Lib.hid hb4
      have hat : ∀ j, j ≤ k → w4.cell? ⟨g, j, none⟩ = some (.int .i64 (st.getD j 0)) := by
        intro j hj
        have hjl : j < st.length := by rw [HAL.out]; omega
        rw [hown5.cellAt j (by omega), getD_map_int .i64 _ j (by simp; omega)]
        simp [List.getD_eq_getElem?_getD, List.getElem?_take, show j < k + 1 by omega]
      have ck := hat k (Nat.le_refl _)
      have hbk : bestTo st k ≤ k := by
        rcases Nat.eq_zero_or_pos k with h | h
        · subst h; simp [bestTo]
        · exact Nat.le_of_lt (bestTo_lt st k h)
      have cb := hat (bestTo st k) hbk
      have HBT : Hid (bestTo st (k + 1) = if st.getD (bestTo st k) 0 < st.getD k 0 then k else bestTo st k) := rfl
      generalize bestTo st k = bb at cb HBT hbk
      have e1 : (bb : Int) < (k : Int) + 1 := by omega
      have e2 : (k : Int) < (k : Int) + 1 := by omega
      have e3 : (0 : Int) ≤ bb := by omega
      have e4 : (0 : Int) ≤ k := by omega
      have e5 : bb < k + 1 := by omega
      clear hown4 hgr4 hown5 hb4 hat
      generalize st.getD bb 0 = xb at cb HBT
      generalize st.getD k 0 = xk at ck HBT HSN
      by_cases hcmp : xb < xk
      · have hbt : Hid (bestTo st (k + 1) = k) := by show _ = _; rw [HBT.out, if_pos hcmp]
        go_quiet (fail)
        go_wp2_with fail
        go_roundw
        case rel => exact ⟨k + 1, by omega, by go_num, by rw [hbt.out], HO5, ext_drewN HB5.out⟩
        case measure => simp [intOf]; omega
      · have hbt : Hid (bestTo st (k + 1) = bb) := by show _ = _; rw [HBT.out, if_neg hcmp]
        go_quiet (fail)
        go_wp2_with fail
        go_roundw
        case rel => exact ⟨k + 1, by omega, by go_num, by rw [hbt.out], HO5, ext_drewN HB5.out⟩
        case measure => simp [intOf]; omega
    · obtain rfl : k = m := by omega
      obtain ⟨k, rfl⟩ : ∃ k', k = k' + 1 := ⟨k - 1, by omega⟩
      obtain ⟨g, cap4, rfl⟩ := own_at HO.out
      have hat : Hid (∀ j, j < k + 1 → wr.cell? ⟨g, j, none⟩ = some (.int .i64 (st.getD j 0))) := by
        intro j hj
        have hjl : j < st.length := by rw [HAL.out]; omega
        rw [HO.out.cellAt j (by omega), getD_map_int .i64 _ j (by simp; omega)]
        simp [List.getD_eq_getElem?_getD, List.getElem?_take, show j < k + 1 by omega]
      have hbk := bestTo_lt st (k + 1) (by omega)
      have cb := hat.out (bestTo st (k + 1)) hbk
      generalize bestTo st (k + 1) = bb at cb HP hbk
      have e1 : (bb : Int) < ((k + 1 : Nat) : Int) := by omega
      have e3 : (0 : Int) ≤ bb := by omega
      obtain ⟨wo, rfl⟩ : ∃ wo : World, wo = wr := ⟨_, rfl⟩
      go_wp2_with fail
      go_loop [38] (fun i => ∃ q : Nat, q ≤ k + 1 ∧ i = .int .i64 q ∧ Hid (noneNear st bb q = true)) (fun i => k + 1 - (intOf i).toNat)
      case atStart => exact ⟨0, Nat.zero_le _, rfl, rfl⟩
      case round =>
        obtain ⟨q, hq, rfl, HN⟩ := hrel
        by_cases hql : q < k + 1
        · have cq := hat.out q hql
          have HNF : Hid (q ≠ bb → st.getD bb 0 < wrap64 (6 * st.getD q 0) → noneNear st bb (k + 1) = false) := fun h1 h2 => noneNear_false hql h1 h2
          have HNS : Hid (noneNear st bb (q + 1) = (noneNear st bb q && (q == bb || decide (¬ st.getD bb 0 < wrap64 (6 * st.getD q 0))))) := rfl
          generalize st.getD bb 0 = xb at cb HP HNF HNS
          generalize st.getD q 0 = xq at cq HNF HNS
          by_cases hqb : q = bb
          · subst hqb
            have h1 : ((q : Int) != (q : Int)) = false := by simp
            have HN2 : Hid (noneNear st q (q + 1) = true) := by show _ = _; rw [HNS.out, HN.out]; simp
            go_wp2_with fail
            go_round
            case rel => exact ⟨q + 1, by omega, by go_num, HN2⟩
            case measure => simp [intOf]; omega
          · have h1 : ((q : Int) != (bb : Int)) = true := by simp; omega
            by_cases hcmp : xb < wrap64 (6 * xq)
            · have hfin : Hid (strongI ns zs = (0, false)) := by show _ = _; rw [HP.out, HNF.out hqb hcmp]; rfl
              go_wp2_with fail
              go_ret2
              exact ⟨by rw [hfin.out]; rfl, HB.out⟩
            · have HN2 : Hid (noneNear st bb (q + 1) = true) := by show _ = _; rw [HNS.out, HN.out]; simp [hcmp]
              go_wp2_with fail
              go_round
              case rel => exact ⟨q + 1, by omega, by go_num, HN2⟩
              case measure => simp [intOf]; omega
        · obtain rfl : q = k + 1 := by omega
          have hfin : Hid (strongI ns zs = (bb, decide (4000000 ≤ st.getD bb 0))) := by show _ = _; rw [HP.out, HN.out]; rfl
          generalize st.getD bb 0 = xb at cb hfin
          go_wp2_with fail
          go_quiet (fail)
          go_wp2_with fail
          go_ret2
          exact ⟨by rw [hfin.out]; rfl, ext_drewN HB.out⟩
end Go.Proofs.YtamlhapiehchoaaGreatDoor

namespace Go.Proofs.YtamlhapiehchoaaGreatDoor
open Go.RowKit
set_option linter.unusedVariables false
set_option linter.unusedSimpArgs false

theorem rows_any (w : World) : Calls Tryz.prog 46 #[] w fun e w' => e = .returned (.slice (some ⟨w.heap.size, 0, none⟩) 4 4) ∧ w' = w.alloc (.cells #[.int .i64 27980, .int .i64 26956, .int .i64 25701, .int .i64 24219] 3) := by
  go_enter Tryz.func46, Tryz.ntmps46
  go_wp2_with fail
  go_ret
  exact ⟨rfl, rfl⟩
theorem columns_any (w : World) : Calls Tryz.prog 47 #[] w fun e w' => e = .returned (.slice (some ⟨w.heap.size, 0, none⟩) 4 4) ∧ w' = w.alloc (.cells #[.int .i64 19073, .int .i64 16325, .int .i64 13085, .int .i64 9315] 3) := by
  go_enter Tryz.func47, Tryz.ntmps47
  go_wp2_with fail
  go_ret
  exact ⟨rfl, rfl⟩

theorem four_row (w : World) (x0 x1 x2 x3 : Int) : IRow .i64 (w.alloc (.cells #[.int .i64 x0, .int .i64 x1, .int .i64 x2, .int .i64 x3] 3)) (some ⟨w.heap.size, 0, none⟩) 4 [x0, x1, x2, x3] := by
  refine ⟨rfl, Or.inr ⟨w.heap.size, 0, rfl, by simp, fun i hi => ?_⟩⟩
  have : i = 0 ∨ i = 1 ∨ i = 2 ∨ i = 3 := by omega
  rcases this with rfl | rfl | rfl | rfl <;> simp

/-- The keys' signs. -/
def padI : List Int := [49, 50, 51, 65, 52, 53, 54, 66, 55, 56, 57, 67, 42, 48, 35, 68]
theorem pad_at (k : Nat) (h : k < 16) : (((⟨#[49, 50, 51, 65, 52, 53, 54, 66, 55, 56, 57, 67, 42, 48, 35, 68]⟩ : ByteArray)[k]'(by exact h)).toNat : Int) = padI.getD k 0 := by
  match k, h with
  | 0, _ => rfl
  | 1, _ => rfl
  | 2, _ => rfl
  | 3, _ => rfl
  | 4, _ => rfl
  | 5, _ => rfl
  | 6, _ => rfl
  | 7, _ => rfl
  | 8, _ => rfl
  | 9, _ => rfl
  | 10, _ => rfl
  | 11, _ => rfl
  | 12, _ => rfl
  | 13, _ => rfl
  | 14, _ => rfl
  | 15, _ => rfl
  | n + 16, h => exact absurd h (by omega)
/-- One block more: what was heard last, how often, the keys so far. -/
def hearI (s : Int × Int × List Int) (l : List Int) : Int × Int × List Int :=
  let key := classI l
  let last := if key = s.1 then s.1 else key
  let many := if key = s.1 then s.2.1 + 1 else 1
  (last, many, if many = 2 ∧ 0 ≤ key then s.2.2 ++ [padI.getD key.toNat 0] else s.2.2)
def blockI (xs : List Int) (k : Nat) : List Int := (xs.drop (205 * k)).take 205
def hearTo (xs : List Int) : Nat → Int × Int × List Int
  | 0 => (-1, 0, [])
  | k + 1 => hearI (hearTo xs k) (blockI xs k)

theorem classI_range (l : List Int) : -1 ≤ classI l ∧ classI l ≤ 15 := by
  have h : ∀ ns : List Int, ns.length = 4 → (strongI ns l).1 ≤ 3 := by
    intro ns hn
    unfold strongI
    simp only
    split
    · have := bestTo_lt (ns.map fun c => strI c l) (ns.map fun c => strI c l).length (by simp [hn])
      simp [hn] at this ⊢
      omega
    · simp
  have h1 := h rowsI rfl
  have h2 := h colsI rfl
  unfold classI
  simp only
  split <;> omega

set_option maxRecDepth 100000 in
set_option maxHeartbeats 4000000 in
theorem keys_any (w : World) (a : Option Addr) (n cap : Nat) (xs : List Int) (hr : IRow .i64 w a n xs) (hs : Samples xs) (hn : n ≤ 20000) (hnc : n ≤ cap) (hcm : cap ≤ 9223372036854775807) :
    Calls Tryz.prog 15 #[.slice a n cap] w fun e w' => e = .returned (.tuple #[.string ⟨((hearTo xs (n / 205)).2.2.map (fun x => UInt8.ofNat x.toNat)).toArray⟩, .int .i64 0]) ∧ Below w.heap.size w w' := by
  obtain ⟨i0, hi, hz0, hz1, hz2⟩ := info_parts infoByteR
  have HR := Lib.hid hr
  have HS := Lib.hid hs
  clear hr hs
  go_enter Tryz.func15, Tryz.ntmps15
  go_wp2_with fail
  refine (checkSamples_ok _ a n cap xs HR.out HS.out hn).mono ?_
  rintro e w1 ⟨rfl, rfl⟩
  go_wp2_with fail
  go_loopw [5, 6, 7, 8] (fun v ls mn it wr => ∃ (k : Nat) (l0 m0 : Int) (ys : List Int), 205 * k ≤ n ∧ it = .int .i64 (205 * k : Nat) ∧ ls = .int .i64 l0 ∧ mn = .int .i64 m0 ∧ 0 ≤ m0 ∧ m0 ≤ k ∧ Hid (hearTo xs k = (l0, m0, ys)) ∧ Hid (ys.length ≤ k) ∧ Hid (wr.ownsRow w.heap.size 5 1 v ys.length (ys.map (Value.int .u8))) ∧ Hid (Below w.heap.size w wr)) (fun _ _ _ it _ => n - (intOf it).toNat)
  case atStart => exact ⟨0, -1, 0, [], by omega, rfl, rfl, rfl, by omega, by omega, rfl, Nat.le_refl _, World.ownsRow_nil _ _ _ _, Below.refl _ _⟩
  case round =>
    obtain ⟨k, l0, m0, ys, hk, rfl, rfl, rfl, m00, m01, HH, HL, HO, HB⟩ := hrel
    by_cases hlt : 205 * k + 205 ≤ n
    · rcases HR.out.2 with h0 | ⟨b, off, rfl, hb, hc⟩
      · omega
      have hxl : Hid (n = xs.length) := HR.out.1
      have HBL : Hid (∀ w', Below w.heap.size w w' → IRow .i64 w' (some ⟨b, off + 205 * k, none⟩) 205 (blockI xs k)) := by
        intro w' hw'
        have hl : (blockI xs k).length = 205 := by unfold blockI; rw [List.length_take, List.length_drop, ← hxl.out]; omega
        refine ⟨hl.symm, Or.inr ⟨b, off + 205 * k, rfl, Nat.lt_of_lt_of_le hb hw'.size, fun i hi => ?_⟩⟩
        rw [hw'.cell (p := ⟨b, off + 205 * k + i, none⟩) hb, Nat.add_assoc, hc (205 * k + i) (by omega)]
        simp [blockI, List.getD_eq_getElem?_getD, List.getElem?_take, hi]
      have hcp : ¬ cap = 205 * k := by omega
      have q1 : (205 : Int) * k + 205 ≤ n := by omega
      have q2 : (205 : Int) * k + 205 ≤ cap := by omega
      have q3 : (0 : Int) ≤ 205 * k := by omega
      have q4 : ((205 : Int) * k).toNat = 205 * k := by omega
      have q5 : ((205 : Int) * k + 205).toNat = 205 * k + 205 := by omega
      have q6 : (205 : Int) * k ≤ 205 * k + 205 := by omega
      have q7 : (0 : Int) ≤ (205 : Int) * k + 205 := by omega
      have q8 : 205 * k + 205 - 205 * k = 205 := by omega
      have hk100 : k ≤ 100 := by omega
      have HC0 : Hid (hearTo xs (k + 1) = hearI (l0, m0, ys) (blockI xs k)) := by show _ = _; rw [← HH.out]; rfl
      have HCL : Hid (classI (blockI xs k) = if (strongI rowsI (blockI xs k)).2 && (strongI colsI (blockI xs k)).2 then 4 * ((strongI rowsI (blockI xs k)).1 : Int) + ((strongI colsI (blockI xs k)).1 : Int) else -1) := rfl
      have hrange := classI_range (blockI xs k)
      clear hc
      go_wp2_with fail
      refine (rows_any _).mono ?_
      rintro e w2 ⟨rfl, rfl⟩
      go_wp2_with fail
      refine (strongest_any _ _ _ 4 4 205 _ rowsI (blockI xs k) (four_row _ _ _ _ _) (HBL.out _ (HB.out.alloc HB.out.size _)) (by omega) (by omega) (by omega)).mono ?_
      rintro e w3 ⟨rfl, hb3⟩
      have HB3 : Hid (Below w.heap.size w w3) := HB.out.trans (Below.mono (ext_trans (ext_alloc (Below.refl _ wr)) hb3) HB.out.size)
      have HO3 := Lib.hid ((HO.out.alloc _).kept_below hb3)
      clear hb3
      go_wp2_with fail
      refine (columns_any _).mono ?_
      rintro e w4 ⟨rfl, rfl⟩
      go_wp2_with fail
      refine (strongest_any _ _ _ 4 4 205 _ colsI (blockI xs k) (four_row _ _ _ _ _) (HBL.out _ (HB3.out.alloc HB3.out.size _)) (by omega) (by omega) (by omega)).mono ?_
      rintro e w5 ⟨rfl, hb5⟩
      have HB5 : Hid (Below w.heap.size w w5) := HB3.out.trans (Below.mono (ext_trans (ext_alloc (Below.refl _ w3)) hb5) HB3.out.size)
      have HO5 := Lib.hid ((HO3.out.alloc _).kept_below hb5)
      have z5 := HB5.out.size
      clear hb5
      generalize strongI rowsI (blockI xs k) = rs at HCL
      generalize strongI colsI (blockI xs k) = cs at HCL
      obtain ⟨r1, rb⟩ := rs
      obtain ⟨c1, cb⟩ := cs
      generalize hkk : classI (blockI xs k) = key at HCL hrange
      have HKK := Lib.hid hkk
      clear hkk
      have HC1 : Hid (hearTo xs (k + 1) = (if key = l0 then l0 else key, if key = l0 then m0 + 1 else 1, if (if key = l0 then m0 + 1 else 1) = 2 ∧ 0 ≤ key then ys ++ [padI.getD key.toNat 0] else ys)) := by
        show _ = _; rw [HC0.out]; unfold hearI; simp only [HKK.out]
      have hll := HL.out
      cases rb with
      | true =>
        cases cb with
        | true =>
          have hke : key = 4 * (r1 : Int) + (c1 : Int) := HCL.out
          subst hke
          by_cases hkl : 4 * (r1 : Int) + (c1 : Int) = l0
          · have t1 : ((4 * (r1 : Int) + (c1 : Int)) != l0) = false := by simp; omega
            have HC2 := HC1.out
            rw [if_pos hkl, if_pos hkl] at HC2
            by_cases hm2 : m0 + 1 = 2
            · have t2 : ((m0 + 1) == 2) = true := by simpa using hm2
              rw [if_pos ⟨hm2, by omega⟩] at HC2
              have HN := Lib.hid HC2
              clear HC2
              obtain ⟨kn, rfl⟩ : ∃ kn : Nat, l0 = kn := ⟨l0.toNat, by omega⟩
              have hk16 : kn < 16 := by omega
              have hk17 : (kn : Int) < 16 := by omega
              have HO6 := Lib.hid (HO5.out.alloc (.cells #[.int .u8 (((⟨#[49, 50, 51, 65, 52, 53, 54, 66, 55, 56, 57, 67, 42, 48, 35, 68]⟩ : ByteArray)[kn]'(by exact hk16)).toNat : Int)] 5))
              have hrow := fun b e => (HO5.out.lt b e).1
              have hpad := pad_at kn hk16
              have HPD := Lib.hid hpad
              have hl21 : ys.length + 1 ≤ 1000 := by omega
              clear hpad
              go_wp2_with (at_builtin; refine wpList_append_own _ rfl (.tmp 64) (.tmp 67) 44 rfl w.heap.size 5 i0 (.int .u8 0) 1 1 Tryz.underlying44 hi hz0 hz1 hz2 rfl (by decide) _ ys.length (ys.map (Value.int .u8)) rfl HO6.out ⟨w5.heap.size, 0, none⟩ 1 1 [.int .u8 (((⟨#[49, 50, 51, 65, 52, 53, 54, 66, 55, 56, 57, 67, 42, 48, 35, 68]⟩ : ByteArray)[kn]'(by exact hk16)).toNat : Int)] rfl rfl (news_one (by go_simp)) (by simp [Value.oneCell']) (by simp only [maxLen]; omega) (by omega) (by simp; omega) ?_; intro v6 w6 hown6 hgr6 _)
              have HO7 : Hid (w6.ownsRow w.heap.size 5 1 v6 (ys ++ [padI.getD kn 0]).length ((ys ++ [padI.getD kn 0]).map (Value.int .u8))) := by
                show World.ownsRow _ _ _ _ _ _ _
                rw [List.length_append, List.map_append, ← HPD.out]; exact hown6
              have HB7 : Hid (Below w.heap.size w w6) := HB5.out.trans (upto_grown hgr6 z5 hrow)
              have HN2 : Hid (hearTo xs (k + 1) = ((kn : Int), m0 + 1, ys ++ [padI.getD kn 0])) := by show _ = _; rw [HN.out, hkl]; rfl
              clear hown6 hgr6
              go_roundw
              case rel => exact ⟨k + 1, kn, m0 + 1, _, by omega, by go_num, rfl, by go_num, by omega, by omega, HN2, by show _ ≤ _; rw [List.length_append]; simpa using hll, HO7, HB7⟩
              case measure => simp [intOf]; omega
            · have t2 : ((m0 + 1) == 2) = false := by simpa using hm2
              rw [if_neg (by omega)] at HC2
              have HN := Lib.hid HC2
              clear HC2
              go_wp2_with fail
              go_roundw
              case rel => exact ⟨k + 1, l0, m0 + 1, ys, by omega, by go_num, rfl, by go_num, by omega, by omega, HN, Nat.le_succ_of_le hll, HO5, HB5⟩
              case measure => simp [intOf]; omega
          · have t1 : ((4 * (r1 : Int) + (c1 : Int)) != l0) = true := by simp; omega
            have HC2 := HC1.out
            rw [if_neg hkl, if_neg hkl, if_neg (by omega)] at HC2
            have HN := Lib.hid HC2
            clear HC2
            go_wp2_with fail
            go_roundw
            case rel => exact ⟨k + 1, 4 * (r1 : Int) + (c1 : Int), 1, ys, by omega, by go_num, rfl, rfl, by omega, by omega, HN, Nat.le_succ_of_le hll, HO5, HB5⟩
            case measure => simp [intOf]; omega
        | false =>
          have hke : key = -1 := HCL.out
          subst hke
          by_cases hkl : -1 = l0
          · have t1 : ((-1) != l0) = false := by simp; omega
            have HC2 := HC1.out
            rw [if_pos hkl, if_pos hkl] at HC2
            by_cases hm2 : m0 + 1 = 2
            · have t2 : ((m0 + 1) == 2) = true := by simpa using hm2
              rw [if_neg (by omega)] at HC2
              have HN := Lib.hid HC2
              clear HC2
              go_wp2_with fail
              go_roundw
              case rel => exact ⟨k + 1, l0, m0 + 1, ys, by omega, by go_num, rfl, by go_num, by omega, by omega, HN, Nat.le_succ_of_le hll, HO5, HB5⟩
              case measure => simp [intOf]; omega
            · have t2 : ((m0 + 1) == 2) = false := by simpa using hm2
              rw [if_neg (by omega)] at HC2
              have HN := Lib.hid HC2
              clear HC2
              go_wp2_with fail
              go_roundw
              case rel => exact ⟨k + 1, l0, m0 + 1, ys, by omega, by go_num, rfl, by go_num, by omega, by omega, HN, Nat.le_succ_of_le hll, HO5, HB5⟩
              case measure => simp [intOf]; omega
          · have t1 : ((-1) != l0) = true := by simp; omega
            have HC2 := HC1.out
            rw [if_neg hkl, if_neg hkl, if_neg (by omega)] at HC2
            have HN := Lib.hid HC2
            clear HC2
            go_wp2_with fail
            go_roundw
            case rel => exact ⟨k + 1, -1, 1, ys, by omega, by go_num, rfl, rfl, by omega, by omega, HN, Nat.le_succ_of_le hll, HO5, HB5⟩
            case measure => simp [intOf]; omega
      | false =>
        cases cb with
        | true =>
          have hke : key = -1 := HCL.out
          subst hke
          by_cases hkl : -1 = l0
          · have t1 : ((-1) != l0) = false := by simp; omega
            have HC2 := HC1.out
            rw [if_pos hkl, if_pos hkl] at HC2
            by_cases hm2 : m0 + 1 = 2
            · have t2 : ((m0 + 1) == 2) = true := by simpa using hm2
              rw [if_neg (by omega)] at HC2
              have HN := Lib.hid HC2
              clear HC2
              go_wp2_with fail
              go_roundw
              case rel => exact ⟨k + 1, l0, m0 + 1, ys, by omega, by go_num, rfl, by go_num, by omega, by omega, HN, Nat.le_succ_of_le hll, HO5, HB5⟩
              case measure => simp [intOf]; omega
            · have t2 : ((m0 + 1) == 2) = false := by simpa using hm2
              rw [if_neg (by omega)] at HC2
              have HN := Lib.hid HC2
              clear HC2
              go_wp2_with fail
              go_roundw
              case rel => exact ⟨k + 1, l0, m0 + 1, ys, by omega, by go_num, rfl, by go_num, by omega, by omega, HN, Nat.le_succ_of_le hll, HO5, HB5⟩
              case measure => simp [intOf]; omega
          · have t1 : ((-1) != l0) = true := by simp; omega
            have HC2 := HC1.out
            rw [if_neg hkl, if_neg hkl, if_neg (by omega)] at HC2
            have HN := Lib.hid HC2
            clear HC2
            go_wp2_with fail
            go_roundw
            case rel => exact ⟨k + 1, -1, 1, ys, by omega, by go_num, rfl, rfl, by omega, by omega, HN, Nat.le_succ_of_le hll, HO5, HB5⟩
            case measure => simp [intOf]; omega
        | false =>
          have hke : key = -1 := HCL.out
          subst hke
          by_cases hkl : -1 = l0
          · have t1 : ((-1) != l0) = false := by simp; omega
            have HC2 := HC1.out
            rw [if_pos hkl, if_pos hkl] at HC2
            by_cases hm2 : m0 + 1 = 2
            · have t2 : ((m0 + 1) == 2) = true := by simpa using hm2
              rw [if_neg (by omega)] at HC2
              have HN := Lib.hid HC2
              clear HC2
              go_wp2_with fail
              go_roundw
              case rel => exact ⟨k + 1, l0, m0 + 1, ys, by omega, by go_num, rfl, by go_num, by omega, by omega, HN, Nat.le_succ_of_le hll, HO5, HB5⟩
              case measure => simp [intOf]; omega
            · have t2 : ((m0 + 1) == 2) = false := by simpa using hm2
              rw [if_neg (by omega)] at HC2
              have HN := Lib.hid HC2
              clear HC2
              go_wp2_with fail
              go_roundw
              case rel => exact ⟨k + 1, l0, m0 + 1, ys, by omega, by go_num, rfl, by go_num, by omega, by omega, HN, Nat.le_succ_of_le hll, HO5, HB5⟩
              case measure => simp [intOf]; omega
          · have t1 : ((-1) != l0) = true := by simp; omega
            have HC2 := HC1.out
            rw [if_neg hkl, if_neg hkl, if_neg (by omega)] at HC2
            have HN := Lib.hid HC2
            clear HC2
            go_wp2_with fail
            go_roundw
            case rel => exact ⟨k + 1, -1, 1, ys, by omega, by go_num, rfl, rfl, by omega, by omega, HN, Nat.le_succ_of_le hll, HO5, HB5⟩
            case measure => simp [intOf]; omega
    · have hkn : n / 205 = k := by omega
      have HF : Hid ((hearTo xs (n / 205)).2.2 = ys) := by show _ = _; rw [hkn, HH.out]
      have hll := HL.out
      clear hkn
      rcases HO.out.2 with ⟨rfl, h0⟩ | ⟨g, cv, cur, rfl, _⟩
      · have hy : ys = [] := List.eq_nil_of_length_eq_zero h0
        have hcv := run_convert_bytes_nil (P := Tryz.prog) wr 44 5 Tryz.underlying44 Tryz.underlying5 0 0 9 Tryz.underlying9
        subst hy
        go_wp2_with fail
        go_ret2
        exact ⟨by rw [HF.out]; rfl, HB.out⟩
      · have hat : ∀ i, i < ys.length → wr.cell? ⟨g, 0 + i, none⟩ = some (.int .u8 (ys.getD i 0)) := by
          intro i hi
          rw [Nat.zero_add, HO.out.cellAt i (by omega), getD_map_int .u8 _ i hi]
        have hcv := run_convert_bytes_arg (P := Tryz.prog) wr 44 5 Tryz.underlying44 Tryz.underlying5 g 0 ys.length cv ys rfl hat 9 Tryz.underlying9
        clear hat
        go_wp2_with fail
        go_ret2
        exact ⟨by rw [HF.out]; rfl, HB.out⟩
end Go.Proofs.YtamlhapiehchoaaGreatDoor

namespace Go.Proofs.YtamlhapiehchoaaGreatDoor
open Go.RowKit
set_option linter.unusedVariables false
set_option linter.unusedSimpArgs false

theorem floorR_any (x : Int) (w : World) (h0 : -9223372036854775808 ≤ x) (h1 : x ≤ 9223372036854775807) : Calls Tryz.prog 107 #[.int .i64 x, .int .i64 16384] w fun e w' => e = .returned (.int .i64 (x / 16384)) ∧ w = w' := by
  have e1 : 16384 * x.tdiv 16384 + x.tmod 16384 = x := Int.mul_tdiv_add_tmod x 16384
  have e2 : x.tmod 16384 < 16384 := Int.tmod_lt_of_pos x (by omega)
  have e3 : -16384 < x.tmod 16384 := Int.lt_tmod_of_pos x (by omega)
  by_cases hx : x.tmod 16384 < 0
  · have hd : Hid (x / 16384 = x.tdiv 16384 - 1) := by show _ = _; omega
    have hb : -9223372036854775808 ≤ x.tdiv 16384 - 1 := by omega
    have hb2 : x.tdiv 16384 - 1 ≤ 9223372036854775807 := by omega
    clear e1 e2 e3
    go_enter Tryz.func107, Tryz.ntmps107
    go_wp2_with fail
    go_ret
    exact ⟨ret_int (by rw [hd.out]; try (unfold wrap64; omega)), rfl⟩
  · have hd : Hid (x / 16384 = x.tdiv 16384) := by show _ = _; omega
    clear e1 e2 e3
    go_enter Tryz.func107, Tryz.ntmps107
    go_wp2_with fail
    go_ret
    exact ⟨ret_int (by rw [hd.out]), rfl⟩

theorem wrap64_range (x : Int) : -9223372036854775808 ≤ wrap64 x ∧ wrap64 x ≤ 9223372036854775807 := by unfold wrap64; omega

theorem i64_lo (x : Int) : -9223372036854775808 ≤ IntKind.i64.wrap x := by rw [IntKind.wrap_i64]; omega
theorem i64_hi (x : Int) : IntKind.i64.wrap x ≤ 9223372036854775807 := by rw [IntKind.wrap_i64]; omega
theorem i64_w (x : Int) : IntKind.i64.wrap x = wrap64 x := by rw [IntKind.wrap_i64]; unfold wrap64; rfl
/-- The tone's numbers by their places. -/
theorem humS_length (c : Int) : ∀ (n : Nat) (p : Int × Int), (humS c n p).length = n
  | 0, _ => rfl
  | n + 1, (a, b) => by simp [humS, humS_length c n]
theorem humS_take (c : Int) : ∀ (n m : Nat) (p : Int × Int), m ≤ n → (humS c n p).take m = humS c m p
  | n, 0, _, _ => by cases n <;> simp [humS]
  | n + 1, m + 1, (a, b), h => by simp [humS, humS_take c n m _ (by omega)]
theorem humS_next (c : Int) : ∀ (n i : Nat) (p : Int × Int), i + 2 < n → (humS c n p).getD (i + 2) 0 = wrap64 (wrap64 (c * (humS c n p).getD (i + 1) 0) / 16384 - (humS c n p).getD i 0)
  | n + 1, 0, (a, b), h => by
    match n, h with
    | n + 2, _ => simp [humS]
  | n + 1, i + 1, (a, b), h => by
    have := humS_next c n i (b, wrap64 (wrap64 (c * b) / 16384 - a)) (by omega)
    simpa [humS] using this
theorem humI_next (c : Int) (n i : Nat) (h : i + 2 < n) : (humI c n).getD (i + 2) 0 = wrap64 (wrap64 (c * (humI c n).getD (i + 1) 0) / 16384 - (humI c n).getD i 0) := humS_next c n i _ h

set_option maxRecDepth 100000 in
set_option maxHeartbeats 4000000 in
theorem hum_any (w : World) (c : Int) (n : Nat) (h0 : 0 ≤ c) (h1 : c ≤ 30000) (hn : n ≤ 1000) :
    Calls Tryz.prog 77 #[.int .i64 c, .int .i64 n] w fun e w' => ∃ v, e = .returned v ∧ w'.ownsRow w.heap.size 3 1 v n ((humI c n).map (Value.int .i64)) ∧ Below w.heap.size w w' := by
  obtain ⟨i0, hi, hz0, hz1, hz2⟩ := info_parts Tryz.infoInt
  obtain ⟨hs, HS⟩ : ∃ hs : List Int, Hid (hs = humI c n) := ⟨_, rfl⟩
  have HL : Hid (hs.length = n) := by show _ = _; rw [HS.out]; exact humS_length _ _ _
  have HN : Hid (∀ i, i + 2 < n → hs.getD (i + 2) 0 = wrap64 (wrap64 (c * hs.getD (i + 1) 0) / 16384 - hs.getD i 0)) := by rw [HS.out]; exact humI_next c n
  have H0 : Hid (0 < n → hs.getD 0 0 = 0) := by intro h; rw [HS.out]; match n, h with | n + 1, _ => rfl
  have H1 : Hid (1 < n → hs.getD 1 0 = c / 8) := by intro h; rw [HS.out]; match n, h with | n + 2, _ => rfl
  go_enter Tryz.func77, Tryz.ntmps77
  go_wp2_with fail
  go_loopw [5, 8] (fun v it wr => ∃ k : Nat, k ≤ n ∧ it = .int .i64 k ∧ Hid (wr.ownsRow w.heap.size 3 1 v k ((hs.take k).map (Value.int .i64))) ∧ Hid (Below w.heap.size w wr)) (fun _ it _ => n - (intOf it).toNat)
  case atStart => exact ⟨0, Nat.zero_le _, rfl, World.ownsRow_nil _ _ _ _, Below.refl _ _⟩
  case round =>
    obtain ⟨k, hk, rfl, HO, HB⟩ := hrel
    by_cases hlt : k < n
    · have hsz := HB.out.size
      have hrow := fun b e => (HO.out.lt b e).1
      have HSN : Hid (hs.take (k + 1) = hs.take k ++ [hs.getD k 0]) := by
        have hkl : k < hs.length := by rw [HL.out]; exact hlt
        show _ = _
        rw [List.take_succ_eq_append_getElem hkl]; simp [hkl]
      have fin : Hid (∀ (v' : Value) (w' : World), w'.ownsRow w.heap.size 3 1 v' (k + 1) ((hs.take k).map (Value.int .i64) ++ [.int .i64 (hs.getD k 0)]) → w'.ownsRow w.heap.size 3 1 v' (k + 1) ((hs.take (k + 1)).map (Value.int .i64))) := fun v' w' h => by rw [HSN.out, List.map_append]; exact h
      by_cases hk0 : k = 0
      · subst hk0
        have hv := H0.out hlt
        have HO' := Lib.hid (HO.out.alloc (.cells #[.int .i64 0] 3))
        go_wp2_with (at_builtin; refine wpList_append_own _ rfl (.tmp 31) (.tmp 32) 22 rfl w.heap.size 3 i0 (.int .i64 0) 1 8 Tryz.underlying22 hi hz0 hz1 hz2 rfl (by decide) _ 0 ((hs.take 0).map (Value.int .i64)) rfl HO'.out ⟨wr.heap.size, 0, none⟩ 1 1 [.int .i64 0] rfl rfl (news_one (by go_simp)) (by simp [Value.oneCell']) (by simp only [maxLen]; omega) (by omega) (by simp; omega) ?_; intro v4 w4 hown4 hgr4 _)
        have HO4 := Lib.hid (fin.out v4 w4 (by rw [hv]; exact hown4))
        have HB4 := Lib.hid (HB.out.trans (upto_grown hgr4 hsz hrow))
        clear hown4 hgr4
        go_roundw
        case rel => exact ⟨1, by omega, by go_num, HO4, HB4⟩
        case measure => simp [intOf]; omega
      · by_cases hk1 : k = 1
        · subst hk1
          have hv := H1.out hlt
          have HO' := Lib.hid (HO.out.alloc (.cells #[.int .i64 (c / 8)] 3))
          go_wp2_with (at_builtin; refine wpList_append_own _ rfl (.tmp 36) (.tmp 39) 22 rfl w.heap.size 3 i0 (.int .i64 0) 1 8 Tryz.underlying22 hi hz0 hz1 hz2 rfl (by decide) _ 1 ((hs.take 1).map (Value.int .i64)) rfl HO'.out ⟨wr.heap.size, 0, none⟩ 1 1 [.int .i64 (c / 8)] rfl rfl (news_one (by go_simp)) (by simp [Value.oneCell']) (by simp only [maxLen]; omega) (by omega) (by simp; omega) ?_; intro v4 w4 hown4 hgr4 _)
          have HO4 := Lib.hid (fin.out v4 w4 (by rw [hv]; exact hown4))
          have HB4 := Lib.hid (HB.out.trans (upto_grown hgr4 hsz hrow))
          clear hown4 hgr4
          go_roundw
          case rel => exact ⟨2, by omega, by go_num, HO4, HB4⟩
          case measure => simp [intOf]; omega
        · obtain ⟨q, rfl⟩ : ∃ q, k = q + 2 := ⟨k - 2, by omega⟩
          obtain ⟨g, cv, rfl⟩ := own_at HO.out
          have ht : ∀ j, j < q + 2 → wr.cell? ⟨g, j, none⟩ = some (.int .i64 (hs.getD j 0)) := by
            intro j hj
            have hjl : j < hs.length := by rw [HL.out]; omega
            rw [HO.out.cellAt j (by omega), getD_map_int .i64 _ j (by simp; omega)]
            simp [List.getD_eq_getElem?_getD, List.getElem?_take, show j < q + 2 by omega]
          have c1 := ht (q + 1) (by omega)
          have c2 := ht q (by omega)
          have HV := Lib.hid (HN.out q hlt)
          clear ht
          generalize hs.getD (q + 1) 0 = a1 at c1 HV
          generalize hs.getD q 0 = a0 at c2 HV
          have HO' := Lib.hid (World.ownsRow.drew HO.out)
          have j1 : IntKind.i64.wrap (((q + 2 : Nat) : Int) - 1) = (q : Int) + 1 := by rw [IntWalk.i64_in _ (by omega)]; omega
          have j2 : IntKind.i64.wrap (((q + 2 : Nat) : Int) - 2) = (q : Int) := by rw [IntWalk.i64_in _ (by omega)]; omega
          have j1' : IntKind.i64.wrap ((q : Int) + 2 - 1) = (q : Int) + 1 := by rw [IntWalk.i64_in _ (by omega)]; omega
          have j2' : IntKind.i64.wrap ((q : Int) + 2 - 2) = (q : Int) := by rw [IntWalk.i64_in _ (by omega)]; omega
          have j10 : (q : Int) < (q : Int) + 1 := by omega
          have j12 : (q : Int) + 1 < (q : Int) + 1 + 1 := by omega
          have j13 : (q : Int) < (q : Int) + 1 + 1 := by omega
          have j11 : IntKind.i64.wrap (q : Int) = (q : Int) := IntWalk.i64_in _ (by omega)
          have j3 : (0 : Int) ≤ (q : Int) + 1 := by omega
          have j4 : (q : Int) + 1 < (q : Int) + 2 := by omega
          have j5 : (0 : Int) ≤ (q : Int) := by omega
          have j6 : (q : Int) < (q : Int) + 2 := by omega
          have j7 : ((q : Int) + 1).toNat = q + 1 := by omega
          have j8 : q + 2 + 1 ≤ maxLen := by unfold maxLen; omega
          have j9 : (q + 2 + 1) * 8 ≤ 140737488355328 := by omega
          go_wp2_with fail
          go_region_law (first
            | (rw [if_pos (by rfl)]; refine wp_append_own _ (.tmp 12) (.tmp 27) 22 rfl w.heap.size 3 i0 (.int .i64 0) 1 8 Tryz.underlying22 hi hz0 hz1 hz2 rfl (by decide) (.slice (some ⟨g, 0, none⟩) (q + 1 + 1) cv) (q + 2) ((hs.take (q + 2)).map (Value.int .i64)) (by rfl) (HO'.out.alloc _) ⟨wr.heap.size, 0, none⟩ 1 1 [.int .i64 (IntKind.i64.wrap (IntKind.i64.wrap (c * a1) / 16384 - a0))] (by rfl) (by rfl) (news_one (by go_simp)) (by simp [Value.oneCell']) j8 j9 (by simp; omega) ?_; intro v4 w4 hown4 hgr4 _)
            | (go_simp; go_at_call 107; refine (floorR_any _ _ (i64_lo _) (i64_hi _)).mono ?_; rintro e w' ⟨rfl, rfl⟩))
          all_goals
            have HO4 := Lib.hid (fin.out v4 w4 (by rw [HV.out, ← i64_w, ← i64_w]; exact hown4))
            have HB4 := Lib.hid (HB.out.drew.trans (upto_grown hgr4 hsz hrow))
            clear hown4 hgr4 j1 j2 j1' j2' j11 j7
            go_simp
            go_wp2_with fail
            go_roundw
            case rel => exact ⟨q + 2 + 1, by omega, by go_num, HO4, HB4⟩
            case measure => simp [intOf]; omega
    · obtain rfl : k = n := by omega
      have hx : Hid (hs.take k = hs) := List.take_of_length_le (by rw [HL.out]; exact Nat.le_refl _)
      go_wp2_with fail
      go_ret
      exact ⟨_, rfl, by have := HO.out; rwa [hx.out, HS.out] at this, HB.out⟩

theorem rowNumbers_any (w : World) : Calls Tryz.prog 78 #[] w fun e w' => e = .returned (.slice (some ⟨w.heap.size, 0, none⟩) 4 4) ∧ IRow .i64 w' (some ⟨w.heap.size, 0, none⟩) 4 rowsI ∧ Below w.heap.size w w' ∧ w.heap.size < w'.heap.size := by
  go_enter Tryz.func78, Tryz.ntmps78
  go_wp2_with fail
  go_ret
  exact ⟨rfl, four_row _ _ _ _ _, (by (try show Below _ _ _); repeat (with_reducible first | exact Below.refl _ _ | assumption | exact Hid.out (by assumption) | refine ext_alloc ?_ | refine ext_drewN ?_ | refine ext_drew ?_ | refine ext_setCell ?_ (Nat.le_refl _) | refine ext_setCell ?_ (Nat.le_succ _) | refine ext_trans ?_ (by assumption) | (refine ext_setCell ?_ (by simp)) | (refine ext_setCell ?_ (by simp at *; omega)))), by simp⟩
theorem columnNumbers_any (w : World) : Calls Tryz.prog 79 #[] w fun e w' => e = .returned (.slice (some ⟨w.heap.size, 0, none⟩) 4 4) ∧ IRow .i64 w' (some ⟨w.heap.size, 0, none⟩) 4 colsI ∧ Below w.heap.size w w' ∧ w.heap.size < w'.heap.size := by
  go_enter Tryz.func79, Tryz.ntmps79
  go_wp2_with fail
  go_ret
  exact ⟨rfl, four_row _ _ _ _ _, (by (try show Below _ _ _); repeat (with_reducible first | exact Below.refl _ _ | assumption | exact Hid.out (by assumption) | refine ext_alloc ?_ | refine ext_drewN ?_ | refine ext_drew ?_ | refine ext_setCell ?_ (Nat.le_refl _) | refine ext_setCell ?_ (Nat.le_succ _) | refine ext_trans ?_ (by assumption) | (refine ext_setCell ?_ (by simp)) | (refine ext_setCell ?_ (by simp at *; omega)))), by simp⟩

theorem rows_bd (j : Nat) (h : j < 4) : 0 ≤ rowsI.getD j 0 ∧ rowsI.getD j 0 ≤ 30000 := by
  match j, h with
  | 0, _ => decide
  | 1, _ => decide
  | 2, _ => decide
  | 3, _ => decide
  | n + 4, h => exact absurd h (by omega)
theorem cols_bd (j : Nat) (h : j < 4) : 0 ≤ colsI.getD j 0 ∧ colsI.getD j 0 ≤ 30000 := by
  match j, h with
  | 0, _ => decide
  | 1, _ => decide
  | 2, _ => decide
  | 3, _ => decide
  | n + 4, h => exact absurd h (by omega)
theorem row_cell (w : World) (l : List Int) (h : l.length = 4) (j : Nat) (hj : j < 4) : (w.alloc (.cells (l.map (Value.int .i64)).toArray 3)).cell? ⟨w.heap.size, j, none⟩ = some (.int .i64 (l.getD j 0)) := by
  refine (cell_of_row _ w.heap.size j _ _ _ (heap_alloc_new w _)).trans ?_
  simpa using getD_map_int .i64 l j (by omega)

theorem irow_cell {k : IntKind} {w : World} {b n : Nat} {xs : List Int} (h : IRow k w (some ⟨b, 0, none⟩) n xs) (j : Nat) (hj : j < n) : w.cell? ⟨b, j, none⟩ = some (.int k (xs.getD j 0)) := by
  rcases h.2 with h0 | ⟨b', off, e, _, hc⟩
  · omega
  · injection e with e; injection e with e1 e2 e3
    subst e1; subst e2
    have := hc j hj
    rwa [Nat.zero_add] at this

theorem indexByte_any (s : ByteArray) (c : Int) (w : World) : Calls Tryz.prog 76 #[.string s, .int .u8 c] w fun e w' => e = .returned (.int .i64 (Lib.indexByte s.data.toList c.toNat.toUInt8)) ∧ w = w' :=
  (Tryz.strings_IndexByte s c w).mono fun e w' ⟨h1, h2⟩ => ⟨h1, h2.symm⟩

def TonePost (k n : Nat) (w : World) (e : Ending) (w' : World) : Prop :=
  ∃ v, e = .returned (.tuple #[v, .bool true]) ∧ w'.ownsRow w.heap.size 3 1 v n ((toneI k n).map (Value.int .i64)) ∧ Below w.heap.size w w'

theorem pad_index (k : Nat) (h : k < 16) : Lib.indexByte [49, 50, 51, 65, 52, 53, 54, 66, 55, 56, 57, 67, 42, 48, 35, 68] (UInt8.ofNat (padI.getD k 0).toNat) = k := by
  match k, h with
  | 0, _ => decide
  | 1, _ => decide
  | 2, _ => decide
  | 3, _ => decide
  | 4, _ => decide
  | 5, _ => decide
  | 6, _ => decide
  | 7, _ => decide
  | 8, _ => decide
  | 9, _ => decide
  | 10, _ => decide
  | 11, _ => decide
  | 12, _ => decide
  | 13, _ => decide
  | 14, _ => decide
  | 15, _ => decide
  | n + 16, h => exact absurd h (by omega)

set_option maxRecDepth 100000 in
set_option maxHeartbeats 4000000 in
theorem tone_any (w : World) (k n : Nat) (pc : Int) (hpc : pc = padI.getD k 0) (hk : k < 16) (hn : n ≤ 1000) (hn1 : 1 ≤ n) :
    Calls Tryz.prog 42 #[.int .u8 pc, .int .i64 n] w (TonePost k n w) := by
  obtain ⟨i0, hi, hz0, hz1, hz2⟩ := info_parts Tryz.infoInt
  have HIX : Hid (Lib.indexByte [49, 50, 51, 65, 52, 53, 54, 66, 55, 56, 57, 67, 42, 48, 35, 68] pc.toNat.toUInt8 = k) := by rw [hpc]; exact pad_index k hk
  clear hpc
  have hrb := rows_bd (k / 4) (by omega)
  have hcb := cols_bd (k % 4) (by omega)
  have k0 : (0 : Int) ≤ k := by omega
  have k1 : ((k : Int) / 4).toNat = k / 4 := by omega
  have k2 : ((k : Int) % 4).toNat = k % 4 := by omega
  have k3 : (k : Int) / 4 < 4 := by omega
  have k4 : (k : Int) % 4 < 4 := by omega
  have k5 : (0 : Int) ≤ (k : Int) / 4 := by omega
  have k6 : (0 : Int) ≤ (k : Int) % 4 := by omega
  have k7 : (k : Int) ≤ 15 := by omega
  go_enter Tryz.func42, Tryz.ntmps42
  go_wp2_with fail
  refine (indexByte_any _ _ _).mono ?_
  rintro e w0 ⟨rfl, rfl⟩
  rw [show Lib.indexByte (⟨#[49, 50, 51, 65, 52, 53, 54, 66, 55, 56, 57, 67, 42, 48, 35, 68]⟩ : ByteArray).data.toList pc.toNat.toUInt8 = (k : Int) from HIX.out]
  go_wp2_with fail
  refine (rowNumbers_any _).mono ?_
  rintro e w1 ⟨rfl, hr1, hb1, z1⟩
  have cr := irow_cell hr1 (k / 4) (by omega)
  have HB1 := Lib.hid hb1
  clear hr1 hb1
  generalize hcr : rowsI.getD (k / 4) 0 = c1 at cr hrb
  have HC1 := Lib.hid hcr
  clear hcr
  go_wp2_with fail
  refine (hum_any _ c1 n hrb.1 hrb.2 hn).mono ?_
  rintro e w2 ⟨v2, rfl, hown2, hb2⟩
  have HO2 := Lib.hid hown2
  have HB2 := Lib.hid (ext_trans HB1.out hb2)
  have z2 : w1.heap.size ≤ w2.heap.size := hb2.size
  clear hown2 hb2 cr
  go_wp2_with fail
  refine (columnNumbers_any _).mono ?_
  rintro e w3 ⟨rfl, hr3, hb3, z3⟩
  have cc := irow_cell hr3 (k % 4) (by omega)
  have HO3 := Lib.hid (HO2.out.kept_below hb3)
  have HB3 := Lib.hid (ext_trans HB2.out hb3)
  clear hr3 hb3
  generalize hcc : colsI.getD (k % 4) 0 = c2 at cc hcb
  have HC2 := Lib.hid hcc
  clear hcc
  go_wp2_with fail
  refine (hum_any _ c2 n hcb.1 hcb.2 hn).mono ?_
  rintro e w4 ⟨v4, rfl, hown4, hb4⟩
  obtain ⟨m, rfl⟩ : ∃ m, n = m + 1 := ⟨n - 1, by omega⟩
  have hown3 := HO3.out.kept_below hb4
  obtain ⟨ga, ca, rfl⟩ := own_at hown3
  obtain ⟨gb, cb, rfl⟩ := own_at hown4
  have za := hown3.lt ga rfl
  have zb := hown4.lt gb rfl
  have hab : ga < gb := by have := (HO3.out.lt ga rfl).2; omega
  have hga3 : ga < w3.heap.size := (HO3.out.lt ga rfl).2
  have HO4 := Lib.hid hown3
  have HOb := Lib.hid hown4
  have HB4 := Lib.hid (ext_trans HB3.out hb4)
  clear hown3 hown4 hb4 cc
  obtain ⟨ta, HTA⟩ : ∃ ta : List Int, Hid (ta = humI c1 (m + 1)) := ⟨_, rfl⟩
  obtain ⟨tb, HTB⟩ : ∃ tb : List Int, Hid (tb = humI c2 (m + 1)) := ⟨_, rfl⟩
  obtain ⟨tt, HTT⟩ : ∃ tt : List Int, Hid (tt = List.zipWith (fun a b => wrap64 (a + b)) ta tb) := ⟨_, rfl⟩
  have hla : Hid (ta.length = m + 1) := by show _ = _; rw [HTA.out]; exact humS_length _ _ _
  have hlb : Hid (tb.length = m + 1) := by show _ = _; rw [HTB.out]; exact humS_length _ _ _
  have hlt : Hid (tt.length = m + 1) := by show _ = _; rw [HTT.out, List.length_zipWith, hla.out, hlb.out]; omega
  have HTK : Hid (tt = toneI k (m + 1)) := by show _ = _; unfold toneI; rw [HTT.out, HTA.out, HTB.out, HC1.out, HC2.out]
  have HST : Hid (w4.ownsRow w.heap.size 3 1 (.slice (some ⟨ga, 0, none⟩) (m + 1) ca) (m + 1) ((tt.take 0 ++ ta.drop 0).map (Value.int .i64))) := by
    show World.ownsRow _ _ _ _ _ _ _
    have := HO4.out.mono (base' := w.heap.size) (by omega)
    rw [← HTA.out] at this
    simpa using this
  go_wp2_with fail
  go_loopw [30] (fun it wr => ∃ j : Nat, j ≤ m + 1 ∧ it = .int .i64 j ∧ Hid (wr.ownsRow w.heap.size 3 1 (.slice (some ⟨ga, 0, none⟩) (m + 1) ca) (m + 1) ((tt.take j ++ ta.drop j).map (Value.int .i64))) ∧ Hid (wr.ownsRow w3.heap.size 3 1 (.slice (some ⟨gb, 0, none⟩) (m + 1) cb) (m + 1) (tb.map (Value.int .i64))) ∧ Hid (Below w.heap.size w wr)) (fun it _ => m + 1 - (intOf it).toNat)
  case atStart => exact ⟨0, Nat.zero_le _, rfl, HST, by rw [HTB.out]; exact HOb, HB4⟩
  case round =>
    obtain ⟨j, hj, rfl, HU, HV, HW⟩ := hrel
    by_cases hjl : j < m + 1
    · have ea : Hid (((tt.take j ++ ta.drop j).map (Value.int .i64))[j]? = some (.int .i64 (ta.getD j 0))) := by
        show _ = _
        rw [List.getElem?_map, List.getElem?_append_right (by rw [List.length_take, hlt.out]; omega), List.length_take, hlt.out, Nat.min_eq_left (by omega), Nat.sub_self, List.getElem?_drop, Nat.add_zero]
        have : j < ta.length := by rw [hla.out]; exact hjl
        simp [this]
      have cA := (HU.out.cellAt j (by omega)).trans ea.out
      have fA := HU.out.frozenAt j
      have cB := (HV.out.cellAt j (by omega)).trans (getD_map_int .i64 tb j (by rw [hlb.out]; exact hjl))
      have hset : Hid ((tt.take j ++ ta.drop j).set j (wrap64 (ta.getD j 0 + tb.getD j 0)) = tt.take (j + 1) ++ ta.drop (j + 1)) := by
        show _ = _
        have h1 : j < ta.length := by rw [hla.out]; exact hjl
        have h2 : j < tb.length := by rw [hlb.out]; exact hjl
        have h3 : j < tt.length := by rw [hlt.out]; exact hjl
        rw [List.set_append_right _ _ (by rw [List.length_take]; omega), show j - (tt.take j).length = 0 by rw [List.length_take]; omega, List.drop_eq_getElem_cons h1, List.set_cons_zero, List.take_succ_eq_append_getElem h3, List.append_assoc]
        have : tt[j] = wrap64 (ta.getD j 0 + tb.getD j 0) := by simp [HTT.out, h1, h2]
        rw [this]; rfl
      have HSTO := Lib.hid (fun u => (HU.out.stored j u).1)
      generalize ta.getD j 0 = xa at cA hset
      generalize tb.getD j 0 = xb at cB hset
      have j1 : (0 : Int) ≤ j := by omega
      have j2 : (j : Int) < (m : Int) + 1 := by omega
      have hzz := HW.out.size
      clear ea
      have hW := i64_w (xa + xb)
      have HU2 : Hid ((wr.setCell ⟨ga, j, none⟩ (.int .i64 (wrap64 (xa + xb)))).ownsRow w.heap.size 3 1 (.slice (some ⟨ga, 0, none⟩) (m + 1) ca) (m + 1) ((tt.take (j + 1) ++ ta.drop (j + 1)).map (Value.int .i64))) := by
        have := HSTO.out (.int .i64 (wrap64 (xa + xb)))
        rw [← List.map_set, hset.out] at this
        exact this
      have HV2 := Lib.hid (ownsRow_setCell_below HV.out (a := ⟨ga, j, none⟩) hga3 (.int .i64 (wrap64 (xa + xb))))
      have HW2 := Lib.hid (HW.out.setCell (p := ⟨ga, j, none⟩) (by show w.heap.size ≤ ga; omega) (.int .i64 (wrap64 (xa + xb))))
      go_wp2_with fail
      go_region
      all_goals
        clear hW
        go_wp2_with fail
        go_roundw
        case rel => exact ⟨j + 1, by omega, by go_num, HU2, HV2, HW2.out.drew⟩
        case measure => simp [intOf]; omega
    · obtain rfl : j = m + 1 := by omega
      have hx : Hid (tt.take (m + 1) ++ ta.drop (m + 1) = tt) := by show _ = _; rw [List.take_of_length_le (by rw [hlt.out]; omega), List.drop_of_length_le (by rw [hla.out]; omega), List.append_nil]
      go_wp2_with fail
      go_ret2
      exact ⟨_, rfl, by have := HU.out; rwa [hx.out, HTK.out] at this, HW.out⟩
end Go.Proofs.YtamlhapiehchoaaGreatDoor

namespace Go.Proofs.YtamlhapiehchoaaGreatDoor
open Go.RowKit
set_option linter.unusedSimpArgs false

theorem zeros_list (k : Nat) : (Builtin.zeroCells (Value.int .i64 0).cells k).toList = List.replicate k (Value.int .i64 0) := by
  apply List.ext_getElem
  · simp [Builtin.zeroCells, Value.cells]
  · intro i h1 h2; simp [Builtin.zeroCells, Value.cells, Nat.mod_one]

theorem run_room_zeros {P : Program} (w : World) (t tn ty e : TypeId) (i : TypeInfo) (kn : IntKind) (ht : P.underlying t = some (.slice e)) (htn : P.underlying tn = some (.int kn)) (hi : P.info? e = some i) (hz : i.zero = some (.int .i64 0)) (hs : i.size = 1) (hb : i.bytes = 8)
    (g sLen sCap k : Nat) (cur : Array Value) (hg : w.heap[g]? = some (.cells cur e (0, 0))) (h0 : 0 < k) (hk : k ≤ 100000) (hroom : sLen + k ≤ sCap) (hfit : sLen + k ≤ cur.size) :
    (Builtin.append_ #[t, tn] ty #[.slice (some ⟨g, 0, none⟩) sLen sCap, .int .i64 k]).run P w =
      .ok (.slice (some ⟨g, 0, none⟩) (sLen + k) sCap) (w.setRow g (cur.toList.take sLen ++ List.replicate k (Value.int .i64 0) ++ cur.toList.drop (sLen + k)).toArray) := by
  have hw : IntKind.i64.wrap (k : Int) = k := by rw [IntKind.wrap_i64]; omega
  have hk0 : k ≠ 0 := by omega
  have h48i : ¬ (281474976710656 < (k : Int) * 8) := by omega
  have hneg : ¬ ((k : Int) < 0) := by omega
  have hst := run_storeCells_at P g sLen e (List.replicate k (Value.int .i64 0)) 0 cur w hg (by simpa using hfit) (by intro u hu; rw [List.eq_of_mem_replicate hu]; rfl)
  simp only [Nat.add_zero] at hst
  have hzc := zeros_list k
  simp only [List.length_replicate] at hst
  simp [Builtin.append_, run_underlying ht, run_underlying htn, sizeOf, typeInfo, hi, hs, hb, hz, Builtin.lenOf, hroom, Addr.add_lit, hst, asInt, asIntOf, hw, hneg, h48i, hk0, zeroValue, hzc]

theorem run_zeros_own {P : Program} (w : World) (base : Nat) (t tn ty e : TypeId) (i : TypeInfo) (kn : IntKind) (ht : P.underlying t = some (.slice e)) (htn : P.underlying tn = some (.int kn)) (hi : P.info? e = some i) (hz : i.zero = some (.int .i64 0)) (hs : i.size = 1) (hb : i.bytes = 8)
    (v : Value) (n : Nat) (xs : List Value) (hown : w.ownsRow base e 1 v n xs) (k : Nat) (h0 : 0 < k) (hk : k ≤ 100000) (hn : n ≤ 1000000) (hbase : base ≤ w.heap.size) :
    ∃ v' w', (Builtin.append_ #[t, tn] ty #[v, .int .i64 k]).run P w = .ok v' w' ∧ w'.ownsRow base e 1 v' (n + k) (xs ++ List.replicate k (Value.int .i64 0)) ∧ w.grownBy w' v.ownBlock := by
  have hlen : (xs ++ List.replicate k (Value.int .i64 0)).length = (n + k) * 1 := by rw [List.length_append, hown.1, List.length_replicate]; omega
  have grown : ∀ (old : Nat), old < n + k → ∀ (row : Option Nat),
      (w.drew.alloc (.cells (xs.toArray ++ Builtin.zeroCells (Value.int .i64 0).cells k ++ Builtin.zeroCells (Value.int .i64 0).cells (grownCap w (n + k) old e - (n + k))) e)).ownsRow base e 1
        (.slice (some ⟨w.heap.size, 0, none⟩) (n + k) (grownCap w (n + k) old e)) (n + k) (xs ++ List.replicate k (Value.int .i64 0)) ∧
      w.grownBy (w.drew.alloc (.cells (xs.toArray ++ Builtin.zeroCells (Value.int .i64 0).cells k ++ Builtin.zeroCells (Value.int .i64 0).cells (grownCap w (n + k) old e - (n + k))) e)) row := by
    intro old ho row
    have hge := grownCap_ge w (n + k) old e
    have hcm : grownCap w (n + k) old e ≤ maxLen := grownCap_le_maxLen w (n + k) old e (by unfold maxLen; omega)
    refine ⟨⟨hlen, .inr ⟨w.heap.size, _, _, rfl, hbase, heap_alloc_new w.drew _, hge, hcm, ?_, ?_⟩⟩, ⟨rfl, rfl, rfl, by simp, fun q hq _ => Below.heap_alloc w.drew _ q hq⟩⟩
    · have := hown.1
      simp only [Array.size_append, List.size_toArray, size_zeroCells, this]
      simp [Value.cells]
      omega
    · rw [Array.toList_append, Array.toList_append, zeros_list k]
      have e1 : (xs ++ List.replicate k (Value.int .i64 0)).length = (n + k) * 1 := hlen
      rw [← e1]
      exact List.take_left
  rcases hown.2 with ⟨rfl, rfl⟩ | ⟨g, cap, cur, rfl, hbg, hg, hnc, hcm, hcs, htake⟩
  · have hx : xs = [] := List.eq_nil_of_length_eq_zero (by simpa using hown.1)
    subst hx
    have hr := Lib.run_append_grow_zeros (P := P) w t tn ty e i (.int .i64 0) .i64 kn ht htn hi hz none 0 0 [] (by simp [Builtin.firstCells]) k h0 (by omega) (by omega) (by omega) (by rw [hb]; omega) (by rw [hb]; exact growslice_fits (by omega) (by omega))
    have hgr := grown 0 (by omega) (Value.ownBlock (.slice none 0 0))
    exact ⟨_, _, hr, hgr.1, hgr.2⟩
  · by_cases hroom : n + k ≤ cap
    · have hr := run_room_zeros (P := P) w t tn ty e i kn ht htn hi hz hs hb g n cap k cur hg h0 hk hroom (by omega)
      refine ⟨_, _, hr, ⟨hlen, .inr ⟨g, cap, _, rfl, hbg, setRow_heap w g cur _ e _ hg, hroom, hcm, ?_, ?_⟩⟩, ⟨rfl, rfl, rfl, by simp, fun k _ hk => setRow_other w g k _ (fun e => hk (by simp [Value.ownBlock, e]))⟩⟩
      · simp only [List.size_toArray, List.length_append, List.length_take, List.length_drop, Array.length_toList, List.length_replicate]
        omega
      · have ht2 : cur.toList.take n = xs := by rw [← htake, Nat.mul_one]
        rw [ht2, ← hlen]
        exact List.take_left
    · have holds : ∀ j u, xs[j]? = some u → w.cell? ((⟨g, 0, none⟩ : Addr).add j) = some u := hown.cells (g := g) rfl
      have hr := Lib.run_append_grow_zeros (P := P) w t tn ty e i (.int .i64 0) .i64 kn ht htn hi hz (some ⟨g, 0, none⟩) n cap xs (by rw [hs]; exact run_firstCells_some (P := P) w.drew 1 n ⟨g, 0, none⟩ n cap xs hown.1 holds) k h0 (by omega) (by omega) (by omega) (by rw [hb]; omega) (by rw [hb]; exact growslice_fits (by omega) (by omega))
      have hgr := grown cap (by omega) (Value.ownBlock (.slice (some ⟨g, 0, none⟩) n cap))
      exact ⟨_, _, hr, hgr.1, hgr.2⟩

/-- 'append(s, make([]int, k)...)' at a row of the call's own. -/
theorem wpList_zeros_own {P : Program} (w : World) {ops : Array Oper} {rest : List Oper} {o : Oper} {a : Act} {Q : Exit → Act → World → Prop} (hgd : o.guard = none) (s x : Operand) (t tn : TypeId) (ho : o.op = .call { callee := .builtin .append, args := #[s, x], argTypes := #[t, tn] })
    (base : Nat) (e : TypeId) (i : TypeInfo) (kn : IntKind) (ht : P.underlying t = some (.slice e)) (htn : P.underlying tn = some (.int kn)) (hi : P.info? e = some i) (hz : i.zero = some (.int .i64 0)) (hs : i.size = 1) (hb : i.bytes = 8)
    (v : Value) (n : Nat) (xs : List Value) (hv : a.eval s = v) (hown : w.ownsRow base e 1 v n xs) (k : Nat) (hx : a.eval x = .int .i64 k) (h0 : 0 < k) (hk : k ≤ 100000) (hn : n ≤ 1000000) (hbase : base ≤ w.heap.size)
    (h : ∀ v' w', w'.ownsRow base e 1 v' (n + k) (xs ++ List.replicate k (Value.int .i64 0)) → w.grownBy w' v.ownBlock → wpList P ops Q rest (a.put o.dst v') w') : wpList P ops Q (o :: rest) a w := by
  obtain ⟨v', w', hr, h2, h3⟩ := run_zeros_own (P := P) w base t tn o.type e i kn ht htn hi hz hs hb v n xs hown k h0 hk hn hbase
  exact wpList_plain hgd fun _ hK => Lib.wp_append_run w s x t tn ho _ _ hv hx v' w' hr (hK _ _ (h v' w' h2 h3))
end Go.Proofs.YtamlhapiehchoaaGreatDoor

namespace Go.Proofs.YtamlhapiehchoaaGreatDoor
open Go.RowKit
set_option linter.unusedVariables false
set_option linter.unusedSimpArgs false

/-- One key: which, how long it sounds, how long it is silent behind it. -/
structure Seg where
  key : Nat
  long : Nat
  still : Nat
def SegOk (s : Seg) : Prop := s.key < 16 ∧ (s.long = 615 ∨ s.long = 820) ∧ (s.still = 410 ∨ s.still = 615)
def soundI (l : List Seg) : List Int := l.flatMap (fun s => toneI s.key s.long ++ List.replicate s.still 0)
def textI (l : List Seg) : List UInt8 := l.map (fun s => UInt8.ofNat (padI.getD s.key 0).toNat)

theorem toneI_length (k n : Nat) : (toneI k n).length = n := by unfold toneI humI; rw [List.length_zipWith, humS_length, humS_length]; omega
theorem soundI_length_le (l : List Seg) (h : ∀ s ∈ l, SegOk s) : (soundI l).length ≤ 1435 * l.length := by
  induction l with
  | nil => simp [soundI]
  | cons s l ih =>
    have hs := h s (by simp)
    have := ih (fun t ht => h t (by simp [ht]))
    obtain ⟨_, h1, h2⟩ := hs
    simp only [soundI, List.flatMap_cons, List.length_append, toneI_length, List.length_replicate, List.length_cons] at this ⊢
    omega
theorem soundI_snoc (l : List Seg) (s : Seg) : soundI (l ++ [s]) = soundI l ++ (toneI s.key s.long ++ List.replicate s.still 0) := by simp [soundI]
theorem textI_snoc (l : List Seg) (s : Seg) : textI (l ++ [s]) = textI l ++ [UInt8.ofNat (padI.getD s.key 0).toNat] := by simp [textI]

theorem onecell_i64 (xs : List Int) : ∀ u ∈ xs.map (Value.int .i64), u.oneCell' = true := by
  intro u hu; obtain ⟨x, _, rfl⟩ := List.mem_map.1 hu; rfl
theorem pad_range (k : Nat) (h : k < 16) : 35 ≤ padI.getD k 0 ∧ padI.getD k 0 ≤ 68 := by
  match k, h with
  | 0, _ => decide
  | 1, _ => decide
  | 2, _ => decide
  | 3, _ => decide
  | 4, _ => decide
  | 5, _ => decide
  | 6, _ => decide
  | 7, _ => decide
  | 8, _ => decide
  | 9, _ => decide
  | 10, _ => decide
  | 11, _ => decide
  | 12, _ => decide
  | 13, _ => decide
  | 14, _ => decide
  | 15, _ => decide
  | n + 16, h => exact absurd h (by omega)

theorem pad_enc (k : Nat) (h : k < 16) : Utf8.encode (padI.getD k 0) = ⟨#[UInt8.ofNat (padI.getD k 0).toNat]⟩ := by
  match k, h with
  | 0, _ => rfl
  | 1, _ => rfl
  | 2, _ => rfl
  | 3, _ => rfl
  | 4, _ => rfl
  | 5, _ => rfl
  | 6, _ => rfl
  | 7, _ => rfl
  | 8, _ => rfl
  | 9, _ => rfl
  | 10, _ => rfl
  | 11, _ => rfl
  | 12, _ => rfl
  | 13, _ => rfl
  | 14, _ => rfl
  | 15, _ => rfl
  | n + 16, h => exact absurd h (by omega)

theorem str_snoc (l : List UInt8) (x : UInt8) : Value.string ((⟨l.toArray⟩ : ByteArray) ++ ⟨#[x]⟩) = .string ⟨(l ++ [x]).toArray⟩ := by
  congr 1

def TonesPost (S k : Nat) (w : World) (e : Ending) (w' : World) : Prop :=
  ∃ (segs : List Seg) (v : Value), (∀ s ∈ segs, SegOk s) ∧ segs.length ≤ 4 ∧ e = .returned (.tuple #[v, .string ⟨(textI segs).toArray⟩]) ∧ w'.ownsRow w.heap.size 3 1 v (soundI segs).length ((soundI segs).map (Value.int .i64)) ∧ StreamOk w' S k ∧ Keeps S w w'

structure ToAt (S k : Nat) (w wr : World) (v : Value) (q : Nat) (segs : List Seg) : Prop where
  own : wr.ownsRow w.heap.size 3 1 v (soundI segs).length ((soundI segs).map (Value.int .i64))
  ok : ∀ s ∈ segs, SegOk s
  len : segs.length = q
  stream : StreamOk wr S (k + 3 * q)
  keeps : Keeps S w wr

set_option maxRecDepth 100000 in
set_option maxHeartbeats 4000000 in
theorem keyTones_any (S k : Nat) (w : World) (h : StreamOk w S k) (hk : k ≤ 1000000) :
    Calls Tryz.prog 12 #[.pointer (some ⟨S, 0, none⟩)] w (TonesPost S (k + 13) w) := by
  obtain ⟨i0, hi, hz0, hz1, hz2⟩ := info_parts Tryz.infoInt
  have hS := h.lt
  have H := Lib.hid h
  clear h
  go_enter Tryz.func12, Tryz.ntmps12
  go_wp2_with fail
  refine (range_any S k 0 4 _ H.out (by omega) (by omega) (by omega) (by omega)).mono ?_
  rintro e w1 ⟨m, rfl, m0, m1, hst1, hkp1⟩
  obtain ⟨m, rfl⟩ := Int.eq_ofNat_of_zero_le m0
  have HT1 : Hid (ToAt S (k + 1) w w1 (.slice none 0 0) 0 []) := ⟨World.ownsRow_nil _ _ _ _, (fun s hs => by cases hs), rfl, hst1, hkp1⟩
  clear hst1 hkp1
  go_wp2_with fail
  go_loopw [4, 5, 11] (fun v tx it wr => ∃ (q : Nat) (segs : List Seg), q ≤ m ∧ it = .int .i64 q ∧ tx = .string ⟨(textI segs).toArray⟩ ∧ Hid (ToAt S (k + 1) w wr v q segs)) (fun _ _ it _ => m - (intOf it).toNat)
  case atStart => exact ⟨0, [], Nat.zero_le _, rfl, rfl, HT1⟩
  case round =>
    obtain ⟨q, segs, hq, rfl, rfl, HT⟩ := hrel
    by_cases hlt : q < m
    · have hzz := HT.out.keeps.size
      go_wp2_with fail
      refine (next_any S _ 16 _ HT.out.stream (by omega) (by omega) (by omega)).mono ?_
      rintro e w2 ⟨kk, rfl, k0, k1, hst2, hkp2⟩
      obtain ⟨kk, rfl⟩ := Int.eq_ofNat_of_zero_le k0
      have hk16 : kk < 16 := by omega
      have hk17 : (kk : Int) < 16 := by omega
      have HO2 := Lib.hid (own_keeps HT.out.own hkp2 (by omega))
      have HK2 := Lib.hid (HT.out.keeps.trans hkp2)
      have HS2 := Lib.hid hst2
      have hpad := pad_at kk hk16
      have hpr := pad_range kk hk16
      have hze := HK2.out.size
      have henc := pad_enc kk hk16
      generalize hpc : padI.getD kk 0 = pc at hpad hpr henc
      have HEN := Lib.hid henc
      clear henc
      have HPC := Lib.hid hpc
      clear hst2 hkp2 hpc
      go_wp2_with fail
      refine (pick_any S _ w2.heap.size 2 2 [615, 820] (fun r => r = 615 ∨ r = 820) _ (HS2.out.below (ext_alloc (Below.refl _ _))) (by omega) (by simp) (by simp; omega) (by omega) (by omega) (fun i hi => ?_) (fun i hi => ?_)).mono ?_
      · have : i = 0 ∨ i = 1 := by omega
        rcases this with rfl | rfl
        · go_simp
        · go_simp
      · have : i = 0 ∨ i = 1 := by omega
        rcases this with rfl | rfl
        · exact Or.inl rfl
        · exact Or.inr rfl
      rintro e w3 ⟨L, rfl, hL, hst3, hkp3⟩
      obtain ⟨L, rfl⟩ := Int.eq_ofNat_of_zero_le (show 0 ≤ L by omega)
      have HO3 := Lib.hid (own_keeps (HO2.out.alloc _) hkp3 (by omega))
      have HK3 := Lib.hid (HK2.out.trans (Keeps.trans (Keeps.of_below (ext_alloc (Below.refl _ w2))) hkp3))
      have HS3 := Lib.hid hst3
      have hL2 : L = 615 ∨ L = 820 := by omega
      clear hst3 hkp3 hL
      go_wp2_with fail
      refine (tone_any _ kk L pc HPC.out.symm hk16 (by omega) (by omega)).mono ?_
      rintro e w4 ⟨v4, rfl, hown4, hb4⟩
      obtain ⟨L, rfl⟩ : ∃ L', L = L' + 1 := ⟨L - 1, by omega⟩
      obtain ⟨g4, c4, rfl⟩ := own_at hown4
      have HO4 := Lib.hid (HO3.out.kept_below hb4)
      have HK4 := Lib.hid (HK3.out.ext hb4)
      have HS4 := Lib.hid (HS3.out.below hb4)
      have HT4 := Lib.hid (hown4.cells (g := g4) rfl)
      have hz4 := HK4.out.size
      have hsl := soundI_length_le segs HT.out.ok
      have hsl2 : (soundI segs).length ≤ 10000 := by rw [HT.out.len] at hsl; omega
      clear hown4 hb4 hsl
      go_wp2_with (at_builtin; refine wpList_append_own _ rfl (.tmp 24) (.tmp 25) 22 rfl w.heap.size 3 i0 (.int .i64 0) 1 8 Tryz.underlying22 hi hz0 hz1 hz2 rfl (by decide) _ (soundI segs).length _ rfl HO4.out ⟨g4, 0, none⟩ (L + 1) c4 ((toneI kk (L + 1)).map (Value.int .i64)) rfl (by rw [List.length_map, toneI_length]; omega) HT4.out (onecell_i64 _) (by simp only [maxLen]; omega) (by omega) (by omega) ?_; intro v5 w5 hown5 hgr5 _)
      have HO5 := Lib.hid hown5
      have hrow := fun b e => (HO4.out.lt b e).1
      have HK5 := Lib.hid (HK4.out.grown0 hgr5 hrow)
      have HS5 := Lib.hid (HS4.out.upto ((Below.refl (S + 1) w4).grown hgr5 (by omega) (fun b e => by have := hrow b e; omega)))
      have hz5 := HK5.out.size
      clear hown5 hgr5
      refine (pick_any S _ w5.heap.size 2 2 [410, 615] (fun r => r = 410 ∨ r = 615) _ (HS5.out.below (ext_alloc (Below.refl _ _))) (by omega) (by simp) (by simp; omega) (by omega) (by omega) (fun i hi => ?_) (fun i hi => ?_)).mono ?_
      · have : i = 0 ∨ i = 1 := by omega
        rcases this with rfl | rfl
        · go_simp
        · go_simp
      · have : i = 0 ∨ i = 1 := by omega
        rcases this with rfl | rfl
        · exact Or.inl rfl
        · exact Or.inr rfl
      rintro e w6 ⟨Z, rfl, hZ, hst6, hkp6⟩
      obtain ⟨Z, rfl⟩ := Int.eq_ofNat_of_zero_le (show 0 ≤ Z by omega)
      have HO6 := Lib.hid (own_keeps (HO5.out.alloc _) hkp6 (by omega))
      have HK6 := Lib.hid (HK5.out.trans (Keeps.trans (Keeps.of_below (ext_alloc (Below.refl _ w5))) hkp6))
      have HS6 := Lib.hid hst6
      have hZ2 : Z = 410 ∨ Z = 615 := by omega
      have hz6 := HK6.out.size
      have htl : (textI segs).length ≤ 4 := by have := HT.out.len; simp [textI]; omega
      have henc := HEN.out
      clear hst6 hkp6 hZ
      go_wp2_with (at_builtin; refine wpList_zeros_own _ rfl (.tmp 27) (.tmp 30) 22 3 rfl w.heap.size 3 i0 .i64 Tryz.underlying22 Tryz.underlying3 hi hz0 hz1 hz2 _ ((soundI segs).length + (L + 1)) _ rfl HO6.out Z rfl (by omega) (by omega) (by omega) (by omega) ?_; intro v7 w7 hown7 hgr7)
      have HN : Hid (ToAt S (k + 1) w w7 v7 (q + 1) (segs ++ [⟨kk, L + 1, Z⟩])) := by
        have hrow6 := fun b e => (HO6.out.lt b e).1
        refine ⟨?_, ?_, by rw [List.length_append, HT.out.len]; rfl, (HS6.out.upto ((Below.refl (S + 1) w6).grown hgr7 (by omega) (fun b e => by have := hrow6 b e; omega))).mono (by omega), HK6.out.grown0 hgr7 hrow6⟩
        · rw [soundI_snoc]
          have e1 : (soundI segs ++ (toneI kk (L + 1) ++ List.replicate Z 0)).length = (soundI segs).length + (L + 1) + Z := by simp [toneI_length]; omega
          rw [e1]
          simpa using hown7
        · intro t ht
          rcases List.mem_append.1 ht with ht | ht
          · exact HT.out.ok t ht
          · simp at ht; subst ht; exact ⟨hk16, hL2, hZ2⟩
      have HTX : Hid (textI (segs ++ [⟨kk, L + 1, Z⟩]) = textI segs ++ [UInt8.ofNat pc.toNat]) := by show _ = _; rw [textI_snoc, HPC.out]
      clear hown7 hgr7
      go_roundw
      case rel => exact ⟨q + 1, segs ++ [⟨kk, L + 1, Z⟩], by omega, by go_num, by rw [HTX.out]; exact str_snoc _ _, HN⟩
      case measure => simp [intOf]; omega
    · obtain rfl : q = m := by omega
      go_wp2_with fail
      go_ret2
      exact ⟨segs, _, HT.out.ok, by rw [HT.out.len]; omega, rfl, HT.out.own, HT.out.stream.mono (by omega), HT.out.keeps⟩
end Go.Proofs.YtamlhapiehchoaaGreatDoor

namespace Go.Proofs.YtamlhapiehchoaaGreatDoor
set_option maxRecDepth 100000
def heardB (k : Nat) : Bool := let t := toneI k 820; (List.range 4).all (fun j => classI ((t.drop (205 * j)).take 205) == (k : Int)) && t.all (fun x => decide (-32768 ≤ x) && decide (x ≤ 32767))
theorem heard0 : heardB 0 = true := by decide +kernel
theorem heard1 : heardB 1 = true := by decide +kernel
theorem heard2 : heardB 2 = true := by decide +kernel
theorem heard3 : heardB 3 = true := by decide +kernel
theorem heard4 : heardB 4 = true := by decide +kernel
theorem heard5 : heardB 5 = true := by decide +kernel
theorem heard6 : heardB 6 = true := by decide +kernel
theorem heard7 : heardB 7 = true := by decide +kernel
theorem heard8 : heardB 8 = true := by decide +kernel
theorem heard9 : heardB 9 = true := by decide +kernel
theorem heard10 : heardB 10 = true := by decide +kernel
theorem heard11 : heardB 11 = true := by decide +kernel
theorem heard12 : heardB 12 = true := by decide +kernel
theorem heard13 : heardB 13 = true := by decide +kernel
theorem heard14 : heardB 14 = true := by decide +kernel
theorem heard15 : heardB 15 = true := by decide +kernel
theorem heard_all (k : Nat) (h : k < 16) : heardB k = true := by
  match k, h with
  | 0, _ => exact heard0
  | 1, _ => exact heard1
  | 2, _ => exact heard2
  | 3, _ => exact heard3
  | 4, _ => exact heard4
  | 5, _ => exact heard5
  | 6, _ => exact heard6
  | 7, _ => exact heard7
  | 8, _ => exact heard8
  | 9, _ => exact heard9
  | 10, _ => exact heard10
  | 11, _ => exact heard11
  | 12, _ => exact heard12
  | 13, _ => exact heard13
  | 14, _ => exact heard14
  | 15, _ => exact heard15
  | n + 16, h => exact absurd h (by omega)
theorem silence : classI (List.replicate 205 0) = -1 := by decide +kernel
end Go.Proofs.YtamlhapiehchoaaGreatDoor
