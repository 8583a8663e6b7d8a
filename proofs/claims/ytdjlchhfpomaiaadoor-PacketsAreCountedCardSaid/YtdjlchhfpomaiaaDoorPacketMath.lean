/- What is proved here: numbers as bytes, the highest first. No condition. -/
import Derived.WalkKit
import Derived.Laws.BitsLemmas
namespace Go.Proofs.YtdjlchhfpomaiaaDoor

def beI : Nat → Int → List Int
  | 0, _ => []
  | k + 1, n => n / 2 ^ (8 * k) % 256 :: beI k n
theorem beI_length (k : Nat) (n : Int) : (beI k n).length = k := by
  induction k with
  | zero => rfl
  | succ k ih => simp [beI, ih]
theorem beI_at : ∀ (m k : Nat) (n : Int), k < m → (beI m n)[k]? = some (n / 2 ^ (8 * (m - 1 - k)) % 256)
  | m + 1, 0, n, _ => by simp [beI]
  | m + 1, k + 1, n, h => by
    rw [beI, List.getElem?_cons_succ, beI_at m k n (by omega)]
    rw [show m + 1 - 1 - (k + 1) = m - 1 - k by omega]
theorem beI_take (m k : Nat) (n : Int) (h : k < m) : (beI m n).take (k + 1) = (beI m n).take k ++ [n / 2 ^ (8 * (m - 1 - k)) % 256] := by
  have hl : k < (beI m n).length := by rw [beI_length]; exact h
  rw [List.take_succ_eq_append_getElem hl]
  have := beI_at m k n h
  rw [List.getElem?_eq_getElem hl] at this
  rw [Option.some.inj this]

def valI (l : List Int) : Int := l.foldl (fun n c => n * 256 + c) 0
theorem valI_snoc (l : List Int) (x : Int) : valI (l ++ [x]) = valI l * 256 + x := by simp [valI]
theorem valI_nil : valI [] = 0 := rfl
def IsBytes (l : List Int) : Prop := ∀ x ∈ l, 0 ≤ x ∧ x ≤ 255
theorem fold_bound : ∀ (l : List Int) (acc : Int), IsBytes l → 0 ≤ acc → 0 ≤ l.foldl (fun n c => n * 256 + c) acc ∧ l.foldl (fun n c => n * 256 + c) acc < (acc + 1) * 256 ^ l.length
  | [], acc, _, h => by simp; omega
  | x :: l, acc, hb, h => by
    obtain ⟨x0, x1⟩ := hb x (by simp)
    obtain ⟨h1, h2⟩ := fold_bound l (acc * 256 + x) (fun y hy => hb y (List.mem_cons_of_mem _ hy)) (by omega)
    refine ⟨h1, Int.lt_of_lt_of_le h2 ?_⟩
    rw [List.length_cons, Int.pow_succ, Int.mul_comm (256 ^ l.length) 256, ← Int.mul_assoc]
    exact Int.mul_le_mul_of_nonneg_right (by omega) (Int.pow_nonneg (by decide))
theorem valI_bound (l : List Int) (h : IsBytes l) : 0 ≤ valI l ∧ valI l < 256 ^ l.length := by
  have := fold_bound l 0 h (by decide)
  simpa [valI] using this

theorem wraps_i64 (n : Int) (h₀ : 0 ≤ n) (h₁ : n < 2 ^ 62) : IntKind.i64.wrap n = n := by rw [IntKind.wrap_i64]; omega
theorem or_join (y x : Int) (h0 : 0 ≤ y) (h1 : y ≤ 16777216) (x0 : 0 ≤ x) (x1 : x ≤ 255) : bits .or .i64 (y * 256) x = y * 256 + x :=
  bits_join .i64 62 (by decide) wraps_i64 8 (y * 256) x (by omega) (by omega) (by omega) x0 (by omega) (by omega)
theorem and_127 (x : Int) (x0 : 0 ≤ x) (x1 : x ≤ 255) : bits .and .u8 x 127 = x % 128 := bits_mask .u8 8 (by decide) wraps_u8 7 (by decide) x x0 (by omega)

/-! ### A packet -/
structure Pkt where
  type : Int
  seq : Int
  time : Int
  src : Int
  mark : Bool
  pay : List Int
structure PktOk (p : Pkt) : Prop where
  t0 : 0 ≤ p.type
  t1 : p.type ≤ 127
  s0 : 0 ≤ p.seq
  s1 : p.seq ≤ 65535
  i0 : 0 ≤ p.time
  i1 : p.time ≤ 4294967295
  c0 : 0 ≤ p.src
  c1 : p.src ≤ 4294967295
  pay : IsBytes p.pay
  few : p.pay.length ≤ 1000
def second (p : Pkt) : Int := if p.mark then p.type + 128 else p.type
def encode (p : Pkt) : List Int := [128, second p] ++ beI 2 p.seq ++ beI 4 p.time ++ beI 4 p.src ++ p.pay
def decode (l : List Int) : Pkt := ⟨l.getD 1 0 % 128, valI ((l.drop 2).take 2), valI ((l.drop 4).take 4), valI ((l.drop 8).take 4), decide (128 ≤ l.getD 1 0), l.drop 12⟩

theorem be2 (n : Int) : beI 2 n = [n / 256 % 256, n % 256] := by simp [beI]
theorem be4 (n : Int) : beI 4 n = [n / 16777216 % 256, n / 65536 % 256, n / 256 % 256, n % 256] := by simp [beI]
theorem val2 (a b : Int) : valI [a, b] = a * 256 + b := by simp [valI]
theorem val4 (a b c d : Int) : valI [a, b, c, d] = ((a * 256 + b) * 256 + c) * 256 + d := by simp [valI]

theorem encode_eq (p : Pkt) : encode p = 128 :: second p :: (p.seq / 256 % 256) :: (p.seq % 256) :: (p.time / 16777216 % 256) :: (p.time / 65536 % 256) :: (p.time / 256 % 256) :: (p.time % 256) :: (p.src / 16777216 % 256) :: (p.src / 65536 % 256) :: (p.src / 256 % 256) :: (p.src % 256) :: p.pay := by
  unfold encode; rw [be2, be4, be4]; rfl
theorem encode_length (p : Pkt) : (encode p).length = 12 + p.pay.length := by rw [encode_eq]; simp; omega
theorem second_range {p : Pkt} (h : PktOk p) : 0 ≤ second p ∧ second p ≤ 255 := by
  have := h.t0; have := h.t1
  unfold second; split <;> omega

theorem decode_encode {p : Pkt} (h : PktOk p) : decode (encode p) = p := by
  obtain ⟨t, s, i, c, mk, pay⟩ := p
  obtain ⟨t0, t1, s0, s1, i0, i1, c0, c1, _, _⟩ := h
  simp only at t0 t1 s0 s1 i0 i1 c0 c1
  rw [encode_eq]
  simp only [decode, List.getD_cons_succ, List.getD_cons_zero, List.drop_succ_cons, List.drop_zero, List.take_succ_cons, List.take_zero, val2, val4, Pkt.mk.injEq]
  refine ⟨?_, by omega, by omega, by omega, ?_, trivial⟩
  · unfold second; cases mk <;> simp <;> omega
  · unfold second; cases mk <;> simp <;> omega

theorem bytes12 {l : List Int} (h : 12 ≤ l.length) : ∃ a0 a1 a2 a3 a4 a5 a6 a7 a8 a9 a10 a11 r, l = a0 :: a1 :: a2 :: a3 :: a4 :: a5 :: a6 :: a7 :: a8 :: a9 :: a10 :: a11 :: r := by
  match l, h with
  | a0 :: a1 :: a2 :: a3 :: a4 :: a5 :: a6 :: a7 :: a8 :: a9 :: a10 :: a11 :: r, _ => exact ⟨a0, a1, a2, a3, a4, a5, a6, a7, a8, a9, a10, a11, r, rfl⟩

theorem encode_decode {l : List Int} (h : 12 ≤ l.length) (hb : IsBytes l) (h0 : l.getD 0 0 = 128) : encode (decode l) = l := by
  obtain ⟨a0, a1, a2, a3, a4, a5, a6, a7, a8, a9, a10, a11, r, rfl⟩ := bytes12 h
  have g := fun x hx => hb x hx
  have b1 := hb a1 (by simp)
  have b2 := hb a2 (by simp)
  have b3 := hb a3 (by simp)
  have b4 := hb a4 (by simp)
  have b5 := hb a5 (by simp)
  have b6 := hb a6 (by simp)
  have b7 := hb a7 (by simp)
  have b8 := hb a8 (by simp)
  have b9 := hb a9 (by simp)
  have b10 := hb a10 (by simp)
  have b11 := hb a11 (by simp)
  simp only [List.getD_cons_zero] at h0
  rw [encode_eq]
  simp only [decode, second, List.getD_cons_succ, List.getD_cons_zero, List.drop_succ_cons, List.drop_zero, List.take_succ_cons, List.take_zero, val2, val4, decide_eq_true_eq, List.cons.injEq]
  refine ⟨h0.symm, ?_, by omega, by omega, by omega, by omega, by omega, by omega, by omega, by omega, by omega, by omega, trivial⟩
  split <;> omega

theorem decode_ok {l : List Int} (h : 12 ≤ l.length) (hb : IsBytes l) (hl : l.length ≤ 1012) : PktOk (decode l) := by
  obtain ⟨a0, a1, a2, a3, a4, a5, a6, a7, a8, a9, a10, a11, r, rfl⟩ := bytes12 h
  have b1 := hb a1 (by simp)
  have b2 := hb a2 (by simp)
  have b3 := hb a3 (by simp)
  have b4 := hb a4 (by simp)
  have b5 := hb a5 (by simp)
  have b6 := hb a6 (by simp)
  have b7 := hb a7 (by simp)
  have b8 := hb a8 (by simp)
  have b9 := hb a9 (by simp)
  have b10 := hb a10 (by simp)
  have b11 := hb a11 (by simp)
  refine ⟨?_, ?_, ?_, ?_, ?_, ?_, ?_, ?_, ?_, ?_⟩ <;> simp only [decode, List.getD_cons_succ, List.getD_cons_zero, List.drop_succ_cons, List.drop_zero, List.take_succ_cons, List.take_zero, val2, val4]
  · omega
  · omega
  · omega
  · omega
  · omega
  · omega
  · omega
  · omega
  · intro x hx; exact hb x (by simp [hx])
  · simp only [List.length_cons] at hl; omega
end Go.Proofs.YtdjlchhfpomaiaaDoor
