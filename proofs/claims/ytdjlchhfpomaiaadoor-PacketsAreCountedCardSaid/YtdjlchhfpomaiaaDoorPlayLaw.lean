/- What is proved here: packets that come in time, one behind the other, are played as they were sent, on lists. No condition. -/
import Derived.Test.YtdjlchhfpomaiaaDoorPlayOut
set_option linter.unusedVariables false
set_option linter.unusedSimpArgs false
namespace Go.Proofs.YtdjlchhfpomaiaaDoor

/-- Packets of 40 bytes, one behind the other, each five milliseconds behind the last and at most four late. -/
structure InTime (l : List Arr) (T : Int) : Prop where
  t0 : 0 ≤ T
  t1 : T ≤ 4294967295
  lo : ∀ j, j < l.length → 5 * (j : Int) ≤ (l.getD j noArr).at_
  hi : ∀ j, j < l.length → (l.getD j noArr).at_ ≤ 5 * (j : Int) + 4
  time : ∀ j, j < l.length → (l.getD j noArr).p.time = (T + 40 * (j : Int)) % 4294967296
  pay : ∀ j, j < l.length → (l.getD j noArr).p.pay.length = 40

def flatPay (l : List Arr) (k : Nat) : List Int := (l.take k).flatMap (fun x => x.p.pay)

theorem flatPay_succ (l : List Arr) (k : Nat) (h : k < l.length) : flatPay l (k + 1) = flatPay l k ++ (l.getD k noArr).p.pay := by
  unfold flatPay
  rw [List.take_succ_eq_append_getElem h, List.flatMap_append]
  simp [h]
theorem flatPay_len (l : List Arr) (T : Int) (h : InTime l T) : ∀ k, k ≤ l.length → (flatPay l k).length = 40 * k
  | 0, _ => by simp [flatPay]
  | k + 1, hk => by rw [flatPay_succ l k (by omega), List.length_append, flatPay_len l T h k (by omega), h.pay k (by omega)]; omega

theorem hide_all (ts : List Bool) (os : List Int) (h : ∀ i, ts.getD i true = true) : ∀ k, hideTo ts os k = os
  | 0 => rfl
  | k + 1 => by rw [hideTo, if_neg (by rw [h k]; simp), hide_all ts os h k]

theorem getD_true (n i : Nat) : (List.replicate n true).getD i true = true := by
  rw [List.getD_eq_getElem?_getD, List.getElem?_replicate]
  split <;> rfl

theorem play_in_time (l : List Arr) (T : Int) (delay : Int) (h : InTime l T) (hl : l.length ≤ 5) (hd : 5 ≤ delay) : ∀ k, k ≤ l.length → playSt l delay (40 * l.length) k = ((flatPay l k).map expandI ++ List.replicate (40 * l.length - 40 * k) 0, List.replicate (40 * k) true ++ List.replicate (40 * l.length - 40 * k) false)
  | 0, _ => by simp [playSt, playTo, flatPay]
  | k + 1, hk => by
    have ih := play_in_time l T delay h hl hd k (by omega)
    unfold playSt at ih ⊢
    rw [playTo, ih]
    have tk := h.time k (by omega)
    have tz := h.time 0 (by omega)
    have hap : apartI (l.getD k noArr).p.time (l.getD 0 noArr).p.time = 40 * (k : Int) := by
      have := h.t0
      have := h.t1
      rw [tk, tz]
      unfold apartI
      split <;> omega
    have hlate : lateB l delay k = false := by
      unfold lateB
      rw [hap]
      have h1 := h.lo 0 (by omega)
      have h2 := h.hi k (by omega)
      exact decide_eq_false (by omega)
    rw [hlate, hap]
    simp only [Bool.false_eq_true, if_false]
    have hA : ((flatPay l k).map expandI).length = 40 * k := by rw [List.length_map, flatPay_len l T h k (by omega)]
    have hp := h.pay k (by omega)
    have hf := payTo_fits ((flatPay l k).map expandI) (l.getD k noArr).p.pay (40 * l.length - 40 * k) (l.getD k noArr).p.pay.length (Nat.le_refl _) (by omega)
    rw [hA] at hf
    have e1 : ((40 * k : Nat) : Int) = 40 * (k : Int) := by omega
    rw [e1] at hf
    rw [hf, List.take_length, hp, flatPay_succ l k (by omega), List.map_append]
    have e2 : 40 * l.length - 40 * k - 40 = 40 * l.length - 40 * (k + 1) := by omega
    have e3 : 40 * k + 40 = 40 * (k + 1) := by omega
    rw [e2, e3]

theorem play_whole (l : List Arr) (T : Int) (delay : Int) (h : InTime l T) (hl : l.length ≤ 5) (hd : 5 ≤ delay) : playL l delay (40 * l.length) = (l.flatMap (fun x => x.p.pay)).map expandI := by
  unfold playL
  rw [play_in_time l T delay h hl hd l.length (Nat.le_refl _)]
  simp only [Nat.sub_self, List.replicate_zero, List.append_nil]
  rw [hide_all _ _ (getD_true _)]
  unfold flatPay
  rw [List.take_length]
end Go.Proofs.YtdjlchhfpomaiaaDoor
