/- What is proved here: plain facts on the mu-law of samples, with no program in sight. No condition. -/
import Derived.IntWalk
import Derived.WalkArith
namespace Go.Proofs.YtkfflafhlgephaaDoor
open Go.RowKit

/-- What a byte expands to. -/
def expandI (b : Int) : Int :=
  if (255 - b) / 128 = 1 then -(((2 * ((255 - b) % 16) + 33) * 2 ^ ((255 - b) / 16 % 8).toNat - 33) * 4) - 1 else ((2 * ((255 - b) % 16) + 33) * 2 ^ ((255 - b) / 16 % 8).toNat - 33) * 4

theorem all_bytes {p : Int → Bool} (h : (List.range 256).all (fun n => p (n : Int)) = true) (b : Int) (h0 : 0 ≤ b) (h1 : b ≤ 255) : p b = true := by
  obtain ⟨n, rfl⟩ := Int.eq_ofNat_of_zero_le h0
  exact List.all_eq_true.1 h n (List.mem_range.2 (by omega))

theorem expand_wraps (b : Int) (h0 : 0 ≤ b) (h1 : b ≤ 255) :
    wrap64 (wrap64 (wrap64 ((2 * ((255 - b) % 16) + 33) * 2 ^ ((255 - b) / 16 % 8).toNat) - 33) * 4) = ((2 * ((255 - b) % 16) + 33) * 2 ^ ((255 - b) / 16 % 8).toNat - 33) * 4 ∧
    wrap64 (wrap64 (-wrap64 (wrap64 (wrap64 ((2 * ((255 - b) % 16) + 33) * 2 ^ ((255 - b) / 16 % 8).toNat) - 33) * 4)) - 1) = -(((2 * ((255 - b) % 16) + 33) * 2 ^ ((255 - b) / 16 % 8).toNat - 33) * 4) - 1 := by
  have := all_bytes (p := fun b => decide (wrap64 (wrap64 (wrap64 ((2 * ((255 - b) % 16) + 33) * 2 ^ ((255 - b) / 16 % 8).toNat) - 33) * 4) = ((2 * ((255 - b) % 16) + 33) * 2 ^ ((255 - b) / 16 % 8).toNat - 33) * 4 ∧
    wrap64 (wrap64 (-wrap64 (wrap64 (wrap64 ((2 * ((255 - b) % 16) + 33) * 2 ^ ((255 - b) / 16 % 8).toNat) - 33) * 4)) - 1) = -(((2 * ((255 - b) % 16) + 33) * 2 ^ ((255 - b) / 16 % 8).toNat - 33) * 4) - 1)) (by decide +kernel) b h0 h1
  exact of_decide_eq_true this

/-- The exponent of a magnitude. -/
def expoTo (m : Int) : Nat → Nat
  | 0 => 7
  | f + 1 => if 2 ^ (7 - (f + 1) + 6) ≤ m then expoTo m f else 7 - (f + 1)
def expo (m : Int) : Nat := expoTo m 7
def magn (s : Int) : Int := min ((if s < 0 then -s - 1 else s) / 4) 8158 + 33
def compI (s : Int) : Int := 255 - ((if s < 0 then 128 else 0) + 16 * (expo (magn s) : Int) + (magn s / 2 ^ (expo (magn s) + 1) - 16))

theorem expoTo_up0 (m : Int) (h : 64 ≤ m) : expoTo m (7 - 0) = expoTo m (7 - 1) := by
  show (if (2 : Int) ^ (7 - (6 + 1) + 6) ≤ m then _ else _) = _
  rw [show (2 : Int) ^ (7 - (6 + 1) + 6) = 64 by decide, if_pos h]
theorem expoTo_out0 (m : Int) (h : ¬ 64 ≤ m) : expoTo m (7 - 0) = 0 := by
  show (if (2 : Int) ^ (7 - (6 + 1) + 6) ≤ m then _ else _) = _
  rw [show (2 : Int) ^ (7 - (6 + 1) + 6) = 64 by decide, if_neg h]
theorem expoTo_up1 (m : Int) (h : 128 ≤ m) : expoTo m (7 - 1) = expoTo m (7 - 2) := by
  show (if (2 : Int) ^ (7 - (5 + 1) + 6) ≤ m then _ else _) = _
  rw [show (2 : Int) ^ (7 - (5 + 1) + 6) = 128 by decide, if_pos h]
theorem expoTo_out1 (m : Int) (h : ¬ 128 ≤ m) : expoTo m (7 - 1) = 1 := by
  show (if (2 : Int) ^ (7 - (5 + 1) + 6) ≤ m then _ else _) = _
  rw [show (2 : Int) ^ (7 - (5 + 1) + 6) = 128 by decide, if_neg h]
theorem expoTo_up2 (m : Int) (h : 256 ≤ m) : expoTo m (7 - 2) = expoTo m (7 - 3) := by
  show (if (2 : Int) ^ (7 - (4 + 1) + 6) ≤ m then _ else _) = _
  rw [show (2 : Int) ^ (7 - (4 + 1) + 6) = 256 by decide, if_pos h]
theorem expoTo_out2 (m : Int) (h : ¬ 256 ≤ m) : expoTo m (7 - 2) = 2 := by
  show (if (2 : Int) ^ (7 - (4 + 1) + 6) ≤ m then _ else _) = _
  rw [show (2 : Int) ^ (7 - (4 + 1) + 6) = 256 by decide, if_neg h]
theorem expoTo_up3 (m : Int) (h : 512 ≤ m) : expoTo m (7 - 3) = expoTo m (7 - 4) := by
  show (if (2 : Int) ^ (7 - (3 + 1) + 6) ≤ m then _ else _) = _
  rw [show (2 : Int) ^ (7 - (3 + 1) + 6) = 512 by decide, if_pos h]
theorem expoTo_out3 (m : Int) (h : ¬ 512 ≤ m) : expoTo m (7 - 3) = 3 := by
  show (if (2 : Int) ^ (7 - (3 + 1) + 6) ≤ m then _ else _) = _
  rw [show (2 : Int) ^ (7 - (3 + 1) + 6) = 512 by decide, if_neg h]
theorem expoTo_up4 (m : Int) (h : 1024 ≤ m) : expoTo m (7 - 4) = expoTo m (7 - 5) := by
  show (if (2 : Int) ^ (7 - (2 + 1) + 6) ≤ m then _ else _) = _
  rw [show (2 : Int) ^ (7 - (2 + 1) + 6) = 1024 by decide, if_pos h]
theorem expoTo_out4 (m : Int) (h : ¬ 1024 ≤ m) : expoTo m (7 - 4) = 4 := by
  show (if (2 : Int) ^ (7 - (2 + 1) + 6) ≤ m then _ else _) = _
  rw [show (2 : Int) ^ (7 - (2 + 1) + 6) = 1024 by decide, if_neg h]
theorem expoTo_up5 (m : Int) (h : 2048 ≤ m) : expoTo m (7 - 5) = expoTo m (7 - 6) := by
  show (if (2 : Int) ^ (7 - (1 + 1) + 6) ≤ m then _ else _) = _
  rw [show (2 : Int) ^ (7 - (1 + 1) + 6) = 2048 by decide, if_pos h]
theorem expoTo_out5 (m : Int) (h : ¬ 2048 ≤ m) : expoTo m (7 - 5) = 5 := by
  show (if (2 : Int) ^ (7 - (1 + 1) + 6) ≤ m then _ else _) = _
  rw [show (2 : Int) ^ (7 - (1 + 1) + 6) = 2048 by decide, if_neg h]
theorem expoTo_up6 (m : Int) (h : 4096 ≤ m) : expoTo m (7 - 6) = expoTo m (7 - 7) := by
  show (if (2 : Int) ^ (7 - (0 + 1) + 6) ≤ m then _ else _) = _
  rw [show (2 : Int) ^ (7 - (0 + 1) + 6) = 4096 by decide, if_pos h]
theorem expoTo_out6 (m : Int) (h : ¬ 4096 ≤ m) : expoTo m (7 - 6) = 6 := by
  show (if (2 : Int) ^ (7 - (0 + 1) + 6) ≤ m then _ else _) = _
  rw [show (2 : Int) ^ (7 - (0 + 1) + 6) = 4096 by decide, if_neg h]
theorem expoTo_out7 (m : Int) : expoTo m (7 - 7) = 7 := rfl

theorem expo_cases (m : Int) (h0 : 33 ≤ m) (h1 : m ≤ 8191) : (32 ≤ m ∧ m < 64 ∧ expo m = 0) ∨ (64 ≤ m ∧ m < 128 ∧ expo m = 1) ∨ (128 ≤ m ∧ m < 256 ∧ expo m = 2) ∨ (256 ≤ m ∧ m < 512 ∧ expo m = 3) ∨ (512 ≤ m ∧ m < 1024 ∧ expo m = 4) ∨ (1024 ≤ m ∧ m < 2048 ∧ expo m = 5) ∨ (2048 ≤ m ∧ m < 4096 ∧ expo m = 6) ∨ (4096 ≤ m ∧ m < 8192 ∧ expo m = 7) := by
  unfold expo
  simp only [expoTo]
  repeat' split
  all_goals omega

theorem magn_range (s : Int) (h0 : -32768 ≤ s) (h1 : s ≤ 32767) : 33 ≤ magn s ∧ magn s ≤ 8191 := by
  unfold magn; split <;> omega

/-- What a byte with a sign, an exponent and a fraction expands to. -/
theorem expand_parts (sg e f : Int) (hs : sg = 0 ∨ sg = 128) (h0 : 0 ≤ e) (h1 : e ≤ 7) (f0 : 0 ≤ f) (f1 : f ≤ 15) :
    expandI (255 - (sg + 16 * e + f)) = if sg = 128 then -(((2 * f + 33) * 2 ^ e.toNat - 33) * 4) - 1 else ((2 * f + 33) * 2 ^ e.toNat - 33) * 4 := by
  unfold expandI
  have a1 : (255 - (255 - (sg + 16 * e + f))) % 16 = f := by omega
  have a2 : (255 - (255 - (sg + 16 * e + f))) / 16 % 8 = e := by omega
  rw [a1, a2]
  rcases hs with rfl | rfl
  · rw [if_neg (by omega), if_neg (by omega)]
  · rw [if_pos (by omega), if_pos rfl]

/-- Where a sample comes to, by its magnitude. -/
def backTo (m : Int) : Int := if m < 64 then (m / 2 * 2 + 1 - 33) * 4 else if m < 128 then (m / 4 * 4 + 2 - 33) * 4 else if m < 256 then (m / 8 * 8 + 4 - 33) * 4 else if m < 512 then (m / 16 * 16 + 8 - 33) * 4 else if m < 1024 then (m / 32 * 32 + 16 - 33) * 4 else if m < 2048 then (m / 64 * 64 + 32 - 33) * 4 else if m < 4096 then (m / 128 * 128 + 64 - 33) * 4 else (m / 256 * 256 + 128 - 33) * 4

theorem comp_back (s : Int) (h0 : -32768 ≤ s) (h1 : s ≤ 32767) : (0 ≤ compI s ∧ compI s ≤ 255) ∧ expandI (compI s) = if s < 0 then -(backTo (magn s)) - 1 else backTo (magn s) := by
  obtain ⟨m0, m1⟩ := magn_range s h0 h1
  unfold compI
  generalize magn s = m at m0 m1
  have hsg : (if s < 0 then (128 : Int) else 0) = 0 ∨ (if s < 0 then (128 : Int) else 0) = 128 := by split <;> omega
  have hsg2 : ((if s < 0 then (128 : Int) else 0) = 128) ↔ s < 0 := by split <;> simp [*]
  generalize (if s < 0 then (128 : Int) else 0) = sg at hsg hsg2
  rcases expo_cases m m0 m1 with ⟨a, b, c⟩ | ⟨a, b, c⟩ | ⟨a, b, c⟩ | ⟨a, b, c⟩ | ⟨a, b, c⟩ | ⟨a, b, c⟩ | ⟨a, b, c⟩ | ⟨a, b, c⟩
  · rw [c]
    have f0 : 0 ≤ m / 2 ^ (0 + 1) - 16 := by omega
    have f1 : m / 2 ^ (0 + 1) - 16 ≤ 15 := by omega
    refine ⟨by omega, ?_⟩
    rw [expand_parts sg ((0 : Nat) : Int) _ hsg (by omega) (by omega) f0 f1]
    have hb : backTo m = ((2 * (m / 2 ^ (0 + 1) - 16) + 33) * 2 ^ ((0 : Nat) : Int).toNat - 33) * 4 := by
      unfold backTo
      simp only [Int.toNat_natCast]
      (repeat rw [if_neg (by omega)])
      (try rw [if_pos (by omega)])
      omega
    rw [hb]
    by_cases hs : s < 0
    · rw [if_pos (hsg2.2 hs), if_pos hs]
    · rw [if_neg (fun h => hs (hsg2.1 h)), if_neg hs]
  · rw [c]
    have f0 : 0 ≤ m / 2 ^ (1 + 1) - 16 := by omega
    have f1 : m / 2 ^ (1 + 1) - 16 ≤ 15 := by omega
    refine ⟨by omega, ?_⟩
    rw [expand_parts sg ((1 : Nat) : Int) _ hsg (by omega) (by omega) f0 f1]
    have hb : backTo m = ((2 * (m / 2 ^ (1 + 1) - 16) + 33) * 2 ^ ((1 : Nat) : Int).toNat - 33) * 4 := by
      unfold backTo
      simp only [Int.toNat_natCast]
      (repeat rw [if_neg (by omega)])
      (try rw [if_pos (by omega)])
      omega
    rw [hb]
    by_cases hs : s < 0
    · rw [if_pos (hsg2.2 hs), if_pos hs]
    · rw [if_neg (fun h => hs (hsg2.1 h)), if_neg hs]
  · rw [c]
    have f0 : 0 ≤ m / 2 ^ (2 + 1) - 16 := by omega
    have f1 : m / 2 ^ (2 + 1) - 16 ≤ 15 := by omega
    refine ⟨by omega, ?_⟩
    rw [expand_parts sg ((2 : Nat) : Int) _ hsg (by omega) (by omega) f0 f1]
    have hb : backTo m = ((2 * (m / 2 ^ (2 + 1) - 16) + 33) * 2 ^ ((2 : Nat) : Int).toNat - 33) * 4 := by
      unfold backTo
      simp only [Int.toNat_natCast]
      (repeat rw [if_neg (by omega)])
      (try rw [if_pos (by omega)])
      omega
    rw [hb]
    by_cases hs : s < 0
    · rw [if_pos (hsg2.2 hs), if_pos hs]
    · rw [if_neg (fun h => hs (hsg2.1 h)), if_neg hs]
  · rw [c]
    have f0 : 0 ≤ m / 2 ^ (3 + 1) - 16 := by omega
    have f1 : m / 2 ^ (3 + 1) - 16 ≤ 15 := by omega
    refine ⟨by omega, ?_⟩
    rw [expand_parts sg ((3 : Nat) : Int) _ hsg (by omega) (by omega) f0 f1]
    have hb : backTo m = ((2 * (m / 2 ^ (3 + 1) - 16) + 33) * 2 ^ ((3 : Nat) : Int).toNat - 33) * 4 := by
      unfold backTo
      simp only [Int.toNat_natCast]
      (repeat rw [if_neg (by omega)])
      (try rw [if_pos (by omega)])
      omega
    rw [hb]
    by_cases hs : s < 0
    · rw [if_pos (hsg2.2 hs), if_pos hs]
    · rw [if_neg (fun h => hs (hsg2.1 h)), if_neg hs]
  · rw [c]
    have f0 : 0 ≤ m / 2 ^ (4 + 1) - 16 := by omega
    have f1 : m / 2 ^ (4 + 1) - 16 ≤ 15 := by omega
    refine ⟨by omega, ?_⟩
    rw [expand_parts sg ((4 : Nat) : Int) _ hsg (by omega) (by omega) f0 f1]
    have hb : backTo m = ((2 * (m / 2 ^ (4 + 1) - 16) + 33) * 2 ^ ((4 : Nat) : Int).toNat - 33) * 4 := by
      unfold backTo
      simp only [Int.toNat_natCast]
      (repeat rw [if_neg (by omega)])
      (try rw [if_pos (by omega)])
      omega
    rw [hb]
    by_cases hs : s < 0
    · rw [if_pos (hsg2.2 hs), if_pos hs]
    · rw [if_neg (fun h => hs (hsg2.1 h)), if_neg hs]
  · rw [c]
    have f0 : 0 ≤ m / 2 ^ (5 + 1) - 16 := by omega
    have f1 : m / 2 ^ (5 + 1) - 16 ≤ 15 := by omega
    refine ⟨by omega, ?_⟩
    rw [expand_parts sg ((5 : Nat) : Int) _ hsg (by omega) (by omega) f0 f1]
    have hb : backTo m = ((2 * (m / 2 ^ (5 + 1) - 16) + 33) * 2 ^ ((5 : Nat) : Int).toNat - 33) * 4 := by
      unfold backTo
      simp only [Int.toNat_natCast]
      (repeat rw [if_neg (by omega)])
      (try rw [if_pos (by omega)])
      omega
    rw [hb]
    by_cases hs : s < 0
    · rw [if_pos (hsg2.2 hs), if_pos hs]
    · rw [if_neg (fun h => hs (hsg2.1 h)), if_neg hs]
  · rw [c]
    have f0 : 0 ≤ m / 2 ^ (6 + 1) - 16 := by omega
    have f1 : m / 2 ^ (6 + 1) - 16 ≤ 15 := by omega
    refine ⟨by omega, ?_⟩
    rw [expand_parts sg ((6 : Nat) : Int) _ hsg (by omega) (by omega) f0 f1]
    have hb : backTo m = ((2 * (m / 2 ^ (6 + 1) - 16) + 33) * 2 ^ ((6 : Nat) : Int).toNat - 33) * 4 := by
      unfold backTo
      simp only [Int.toNat_natCast]
      (repeat rw [if_neg (by omega)])
      (try rw [if_pos (by omega)])
      omega
    rw [hb]
    by_cases hs : s < 0
    · rw [if_pos (hsg2.2 hs), if_pos hs]
    · rw [if_neg (fun h => hs (hsg2.1 h)), if_neg hs]
  · rw [c]
    have f0 : 0 ≤ m / 2 ^ (7 + 1) - 16 := by omega
    have f1 : m / 2 ^ (7 + 1) - 16 ≤ 15 := by omega
    refine ⟨by omega, ?_⟩
    rw [expand_parts sg ((7 : Nat) : Int) _ hsg (by omega) (by omega) f0 f1]
    have hb : backTo m = ((2 * (m / 2 ^ (7 + 1) - 16) + 33) * 2 ^ ((7 : Nat) : Int).toNat - 33) * 4 := by
      unfold backTo
      simp only [Int.toNat_natCast]
      (repeat rw [if_neg (by omega)])
      (try rw [if_pos (by omega)])
      omega
    rw [hb]
    by_cases hs : s < 0
    · rw [if_pos (hsg2.2 hs), if_pos hs]
    · rw [if_neg (fun h => hs (hsg2.1 h)), if_neg hs]

theorem comp_range (s : Int) (h0 : -32768 ≤ s) (h1 : s ≤ 32767) : 0 ≤ compI s ∧ compI s ≤ 255 := (comp_back s h0 h1).1

set_option maxHeartbeats 4000000 in
theorem back_mono (a b : Int) (h : a ≤ b) (h0 : 33 ≤ a) (h1 : b ≤ 8191) : backTo a ≤ backTo b ∧ 0 ≤ backTo a ∧ backTo b ≤ 32124 := by
  unfold backTo
  refine ⟨?_, ?_, ?_⟩ <;> (repeat' split) <;> omega

theorem comp_mono (s t : Int) (h : s ≤ t) (h0 : -32768 ≤ s) (h1 : t ≤ 32767) : expandI (compI s) ≤ expandI (compI t) := by
  rw [(comp_back s h0 (by omega)).2, (comp_back t (by omega) h1).2]
  have ms := magn_range s h0 (by omega)
  have mt := magn_range t (by omega) h1
  by_cases hs : s < 0
  · by_cases ht : t < 0
    · rw [if_pos hs, if_pos ht]
      have : magn t ≤ magn s := by unfold magn; rw [if_pos hs, if_pos ht]; omega
      have := back_mono _ _ this mt.1 ms.2
      omega
    · rw [if_pos hs, if_neg ht]
      have a := back_mono _ _ (Int.le_refl (magn s)) ms.1 ms.2
      have b := back_mono _ _ (Int.le_refl (magn t)) mt.1 mt.2
      omega
  · rw [if_neg hs, if_neg (by omega)]
    have : magn s ≤ magn t := by unfold magn; rw [if_neg hs, if_neg (by omega)]; omega
    exact (back_mono _ _ this ms.1 mt.2).1

theorem comp_near (s : Int) (h0 : -32768 ≤ s) (h1 : s ≤ 32767) : max (expandI (compI s) - s) (s - expandI (compI s)) ≤ max s (-s) / 16 + 132 := by
  rw [(comp_back s h0 h1).2]
  obtain ⟨m0, m1⟩ := magn_range s h0 h1
  by_cases hs : s < 0
  · rw [if_pos hs]
    have hm : magn s = min ((-s - 1) / 4) 8158 + 33 := by unfold magn; rw [if_pos hs]
    generalize magn s = m at *
    unfold backTo
    (repeat' split) <;> omega
  · rw [if_neg hs]
    have hm : magn s = min (s / 4) 8158 + 33 := by unfold magn; rw [if_neg hs]
    generalize magn s = m at *
    unfold backTo
    (repeat' split) <;> omega

theorem expand_sample (b : Int) (h0 : 0 ≤ b) (h1 : b ≤ 255) : -32768 ≤ expandI b ∧ expandI b ≤ 32767 ∧ compI (expandI b) = b :=
  of_decide_eq_true (all_bytes (p := fun b => decide (-32768 ≤ expandI b ∧ expandI b ≤ 32767 ∧ compI (expandI b) = b)) (by decide +kernel) b h0 h1)
end Go.Proofs.YtkfflafhlgephaaDoor
