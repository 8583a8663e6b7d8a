/- What is proved here: plain facts on sounds that are added, with no program in sight. No condition. -/
import Derived.Test.YtlllckclfpdhgaaDoorSounds
namespace Go.Proofs.YtlllckclfpdhgaaDoor

def cutI (n : Int) : Int := min (max n (-32768)) 32767
def longTo (rows : List (List Int)) : Nat → Nat
  | 0 => 0
  | k + 1 => max (longTo rows k) (rows.getD k []).length
def sumTo (rows : List (List Int)) (i : Nat) : Nat → Int
  | 0 => 0
  | k + 1 => sumTo rows i k + (rows.getD k []).getD i 0
def mixL (rows : List (List Int)) : List Int := (List.range (longTo rows rows.length)).map (fun i => cutI (sumTo rows i rows.length))

theorem longTo_le (rows : List (List Int)) : ∀ (n k : Nat), k < n → (rows.getD k []).length ≤ longTo rows n
  | 0, _, h => by omega
  | n + 1, k, h => by
    show _ ≤ max _ _
    by_cases e : k = n
    · subst e; omega
    · have := longTo_le rows n k (by omega); omega

theorem longTo_bound (rows : List (List Int)) (B : Nat) (h : ∀ k, (rows.getD k []).length ≤ B) : ∀ n, longTo rows n ≤ B
  | 0 => Nat.zero_le _
  | n + 1 => by
    have := longTo_bound rows B h n
    have := h n
    show max _ _ ≤ _
    omega

theorem sample_getD {r : List Int} (h : Samples r) (i : Nat) : -32768 ≤ r.getD i 0 ∧ r.getD i 0 ≤ 32767 := by
  by_cases hi : i < r.length
  · exact h _ (mem_getD hi)
  · rw [List.getD_eq_getElem?_getD, List.getElem?_eq_none (by omega)]; simp

theorem sumTo_bound (rows : List (List Int)) (h : ∀ k, Samples (rows.getD k [])) (i : Nat) : ∀ n : Nat, -32768 * (n : Int) ≤ sumTo rows i n ∧ sumTo rows i n ≤ 32768 * (n : Int)
  | 0 => by simp [sumTo]
  | n + 1 => by
    have := sumTo_bound rows h i n
    have := sample_getD (h n) i
    show _ ≤ sumTo rows i n + _ ∧ sumTo rows i n + _ ≤ _
    omega

theorem getD_short {r : List Int} {i : Nat} (h : r.length ≤ i) : r.getD i 0 = 0 := by
  rw [List.getD_eq_getElem?_getD, List.getElem?_eq_none h]; rfl

theorem mix_two (x y : List Int) : mixL [x, y] = (List.range (max x.length y.length)).map (fun i => cutI (x.getD i 0 + y.getD i 0)) := by
  unfold mixL
  have e1 : longTo [x, y] [x, y].length = max x.length y.length := by
    show max (max 0 x.length) y.length = _
    omega
  rw [e1]
  apply List.map_congr_left
  intro i _
  show cutI (0 + x.getD i 0 + y.getD i 0) = _
  rw [Int.zero_add]

theorem mix_comm (x y : List Int) : mixL [x, y] = mixL [y, x] := by
  rw [mix_two, mix_two, Nat.max_comm]
  apply List.map_congr_left
  intro i _
  rw [Int.add_comm]

theorem cut_sample {n : Int} (h0 : -32768 ≤ n) (h1 : n ≤ 32767) : cutI n = n := by unfold cutI; omega
theorem cut_range (n : Int) : -32768 ≤ cutI n ∧ cutI n ≤ 32767 := by unfold cutI; omega

theorem mix_silence {x : List Int} (h : Samples x) (z : List Int) (hz : z = List.replicate x.length 0) : mixL [x, z] = x := by
  subst hz
  rw [mix_two]
  apply List.ext_getElem
  · simp
  · intro i h1 h2
    have hx : x.getD i 0 = x[i] := by simp [List.getD_eq_getElem?_getD, List.getElem?_eq_getElem h2]
    have hz : (List.replicate x.length (0 : Int)).getD i 0 = 0 := by simp [List.getD_eq_getElem?_getD, List.getElem?_replicate]; split <;> rfl
    simp only [List.getElem_map, List.getElem_range]
    rw [hx, hz, Int.add_zero]
    exact cut_sample (h _ (List.getElem_mem h2)).1 (h _ (List.getElem_mem h2)).2

theorem mix_samples (rows : List (List Int)) : Samples (mixL rows) := by
  intro v hv
  obtain ⟨i, _, rfl⟩ := List.mem_map.1 hv
  exact cut_range _

theorem loud_same {x : List Int} (h : Samples x) : x.map (fun n => cutI (n * 256 / 256)) = x := by
  conv => rhs; rw [← List.map_id x]
  apply List.map_congr_left
  intro n hn
  have := h n hn
  rw [Int.mul_ediv_cancel _ (by omega)]
  exact cut_sample this.1 this.2
end Go.Proofs.YtlllckclfpdhgaaDoor
