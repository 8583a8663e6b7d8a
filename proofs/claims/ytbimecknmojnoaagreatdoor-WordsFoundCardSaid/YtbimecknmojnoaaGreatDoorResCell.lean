/- What is proved here: a function's results where the first is a struct that lies in memory. No condition beyond those stated. -/
import Derived.Test.YtbimecknmojnoaaGreatDoorBase
import Derived.Shelf.SlicesQ.Load
namespace Go.Proofs.YtbimecknmojnoaaGreatDoor
open Go.RowKit

theorem load_struct {P : Program} {w : World} {B k : Nat} (cs : List Value) (hk : cs.length = k) (hc : ∀ j v, cs[j]? = some v → w.cell? ⟨B, j, none⟩ = some v) :
    (loadCellsFrom ⟨B, 0, none⟩ 0 k #[]).run P w = .ok cs.toArray w :=
  run_loadCellsFrom_list P w ⟨B, 0, none⟩ cs k hk (fun j v hj => by
    rw [show (⟨B, 0, none⟩ : Addr).add j = ⟨B, j, none⟩ by unfold Addr.add; split <;> simp_all]; exact hc j v hj)

theorem results_cell2 {fn : Func} {t u : Tmp} {T : TypeId} (h : fn.results = #[.cell t T, .tmp u]) (P : Program) (w : World) (tmps : Array Value) {B k : Nat} (hA : ∀ w, (isAgg T).run P w = .ok true w) (hZ : ∀ w, (Go.sizeOf T).run P w = .ok k w) (ht : tmps.getD t undef = .pointer (some ⟨B, 0, none⟩)) (cs : List Value) (hk : cs.length = k) (hc : ∀ j v, cs[j]? = some v → w.cell? ⟨B, j, none⟩ = some v) :
    (results fn tmps).run P w = .ok (.tuple #[.agg cs.toArray, tmps.getD u undef]) w := by
  have h9 := load_struct (P := P) cs hk hc
  have ht' : tmps[t]?.getD undef = .pointer (some ⟨B, 0, none⟩) := by simpa using ht
  simp [results, h, ht', h9, hA, hZ, asAddr, go_sem]

theorem results_cell1 {fn : Func} {t : Tmp} {T : TypeId} (h : fn.results = #[.cell t T]) (P : Program) (w : World) (tmps : Array Value) {B k : Nat} (hA : ∀ w, (isAgg T).run P w = .ok true w) (hZ : ∀ w, (Go.sizeOf T).run P w = .ok k w) (ht : tmps.getD t undef = .pointer (some ⟨B, 0, none⟩)) (cs : List Value) (hk : cs.length = k) (hc : ∀ j v, cs[j]? = some v → w.cell? ⟨B, j, none⟩ = some v) :
    (results fn tmps).run P w = .ok (.agg cs.toArray) w := by
  have h9 := load_struct (P := P) cs hk hc
  have ht' : tmps[t]?.getD undef = .pointer (some ⟨B, 0, none⟩) := by simpa using ht
  simp [results, h, ht', h9, hA, hZ, asAddr, go_sem]

/-- Values that are stored one behind the other. -/
def setRow (w : World) (B : Nat) : Nat → List Value → World
  | _, [] => w
  | k, v :: vs => setRow (w.setCell ⟨B, k, none⟩ v) B (k + 1) vs

theorem setRow_low {B : Nat} : ∀ (vs : List Value) (w : World) (k j : Nat), j < k → (setRow w B k vs).cell? ⟨B, j, none⟩ = w.cell? ⟨B, j, none⟩
  | [], _, _, _, _ => rfl
  | v :: vs, w, k, j, h => by
    rw [setRow, setRow_low vs _ (k + 1) j (by omega)]
    exact World.cell?_setCell_other _ _ _ _ (by intro e; injection e with _ e2 _; omega)
theorem setRow_cell {B n : Nat} : ∀ (vs : List Value) (w : World) (k : Nat), (∀ j, j < n → ∃ u, w.cell? ⟨B, j, none⟩ = some u) → k + vs.length ≤ n → ∀ i v, vs[i]? = some v → (setRow w B k vs).cell? ⟨B, k + i, none⟩ = some v
  | [], _, _, _, _, _, _, h => by simp at h
  | x :: vs, w, k, hu, hn, i, v, h => by
    simp only [List.length_cons] at hn
    obtain ⟨u, hk⟩ := hu k (by omega)
    have hsame := World.cell?_setCell_same w ⟨B, k, none⟩ x hk
    cases i with
    | zero =>
      simp at h
      subst h
      rw [setRow, setRow_low vs _ (k + 1) _ (by omega)]
      exact hsame
    | succ i =>
      have := setRow_cell vs (w.setCell ⟨B, k, none⟩ x) (k + 1) (fun j hj => by
        by_cases e : j = k
        · subst e; exact ⟨x, hsame⟩
        · obtain ⟨u', hu'⟩ := hu j hj
          exact ⟨u', (World.cell?_setCell_other _ _ _ _ (by intro e9; injection e9 with _ e2 _; omega)).trans hu'⟩) (by omega) i v (by simpa using h)
      rw [setRow, show k + (i + 1) = k + 1 + i by omega]
      exact this
theorem setRow_ext {a : World} {B : Nat} (hB : a.heap.size ≤ B) : ∀ (vs : List Value) (w : World) (k : Nat), Below a.heap.size a w → Below a.heap.size a (setRow w B k vs)
  | [], _, _, h => h
  | _ :: vs, _, k, h => setRow_ext hB vs _ (k + 1) (ext_setCell h hB)
end Go.Proofs.YtbimecknmojnoaaGreatDoor
