/- What is proved here: the ways of so many words to each place, as the reference reckons them: lists alone. No condition beyond those stated. -/
import Derived.Test.YtbimecknmojnoaaGreatDoorWordFew
set_option linter.unusedVariables false
set_option linter.unusedSimpArgs false
namespace Go.Proofs.YtbimecknmojnoaaGreatDoor
open Go.RowKit

/-- The least ways of t words to each place. -/
def Ways (l : List Wd) (d : List UInt8) (t : Nat) (M : Nat → Option (List Wd)) : Prop :=
  ∀ p, (M p = none → p ≤ d.length → ∀ ws, ¬ Good l (d.take p) t ws) ∧ ∀ x, M p = some x → p ≤ d.length ∧ Least l (d.take p) t x
def Min (C : Nat → List Wd → Prop) (N : Nat → Option (List Wd)) : Prop :=
  ∀ q, (N q = none → ∀ x, ¬ C q x) ∧ ∀ y, N q = some y → C q y ∧ ∀ x, C q x → lessL x y = false
theorem ways_zero (l : List Wd) (d : List UInt8) : Ways l d 0 (fun p => if p = 0 then some [] else none) := by
  intro p
  by_cases hp : p = 0
  · subst hp
    refine ⟨fun h => by simp at h, fun x hx => ?_⟩
    simp only [if_true, Option.some.injEq] at hx
    subst hx
    refine ⟨Nat.zero_le _, ⟨⟨rfl, (fun w hw => by cases hw), by simp⟩, fun ws' hg => ?_⟩⟩
    rw [List.eq_nil_of_length_eq_zero hg.1]
    rfl
  · refine ⟨fun _ hpl ws hg => ?_, fun x hx => by simp [hp] at hx⟩
    have h1 := List.eq_nil_of_length_eq_zero hg.1
    have h2 := hg.2.2
    rw [h1] at h2
    have h3 := congrArg List.length h2
    rw [List.length_take] at h3
    simp at h3
    omega
theorem min_start : Min (fun _ _ => False) (fun _ => none) := fun q => ⟨fun _ _ h => h, fun y hy => by cases hy⟩
theorem min_put {C : Nat → List Wd → Prop} {N : Nat → Option (List Wd)} (h : Min C N) (a : Nat) (x : List Wd) (hb : N a = none ∨ ∃ y, N a = some y ∧ lessL x y = true) : Min (fun q z => C q z ∨ (q = a ∧ z = x)) (fun q => if q = a then some x else N q) := by
  intro q
  by_cases hq : q = a
  · subst hq
    refine ⟨fun h0 => by simp at h0, fun y hy => ?_⟩
    simp only [if_true, Option.some.injEq] at hy
    subst hy
    refine ⟨Or.inr ⟨rfl, rfl⟩, fun z hz => ?_⟩
    rcases hz with hz | ⟨-, rfl⟩
    · rcases hb with hb | ⟨y, hy, hl⟩
      · exact absurd hz ((h q).1 hb z)
      · have h1 := ((h q).2 y hy).2 z hz
        cases h2 : lessL z x with
        | false => rfl
        | true => rw [lessL_trans h2 hl] at h1; cases h1
    · exact lessL_irrefl _
  · refine ⟨fun h0 z hz => ?_, fun y hy => ?_⟩
    · simp only [hq, if_false] at h0
      rcases hz with hz | ⟨hz, -⟩
      · exact (h q).1 h0 z hz
      · exact hq hz
    · simp only [hq, if_false] at hy
      obtain ⟨h1, h2⟩ := (h q).2 y hy
      refine ⟨Or.inl h1, fun z hz => ?_⟩
      rcases hz with hz | ⟨hz, -⟩
      · exact h2 z hz
      · exact absurd hz hq
theorem min_keep {C : Nat → List Wd → Prop} {N : Nat → Option (List Wd)} (h : Min C N) (a : Nat) (x y : List Wd) (hy : N a = some y) (hl : lessL x y = false) : Min (fun q z => C q z ∨ (q = a ∧ z = x)) N := by
  intro q
  refine ⟨fun h0 z hz => ?_, fun z hz => ?_⟩
  · rcases hz with hz | ⟨rfl, -⟩
    · exact (h q).1 h0 z hz
    · rw [hy] at h0; cases h0
  · obtain ⟨h1, h2⟩ := (h q).2 z hz
    refine ⟨Or.inl h1, fun u hu => ?_⟩
    rcases hu with hu | ⟨rfl, rfl⟩
    · exact h2 u hu
    · rw [hy] at hz
      injection hz with hz
      rw [← hz]
      exact hl
theorem min_same {C D : Nat → List Wd → Prop} {N : Nat → Option (List Wd)} (h : Min C N) (he : ∀ q x, C q x ↔ D q x) : Min D N := by
  have : C = D := by funext q x; exact propext (he q x)
  rw [← this]; exact h
/-- What a round looks at. -/
def Cand (l : List Wd) (d : List UInt8) (p : Nat) (way : List Wd) (q : Nat) (x : List Wd) (w : Wd) : Prop := Lib.hasPrefix (d.drop p) (keyW w) = true ∧ q = p + w.length ∧ x = way ++ [w]
def CandAll (l : List Wd) (d : List UInt8) (M : Nat → Option (List Wd)) (q : Nat) (x : List Wd) : Prop := ∃ p way w, M p = some way ∧ w ∈ l ∧ Cand l d p way q x w
theorem take_pre {d : List UInt8} {p : Nat} {w : Wd} (hp : p ≤ d.length) (h : Lib.hasPrefix (d.drop p) (keyW w) = true) : d.take (p + w.length) = d.take p ++ keyW w ∧ p + w.length ≤ d.length := by
  have h1 := pre_len h
  rw [keyW_len, List.length_drop] at h1
  obtain ⟨t, ht⟩ := (pre_iff _ _).1 h
  refine ⟨?_, by omega⟩
  rw [List.take_add, ← ht]
  congr 1
  rw [← keyW_len w, List.take_left]
theorem good_snoc {l : List Wd} {d : List UInt8} {q t : Nat} {ws : List Wd} (hq : q ≤ d.length) (h : Good l (d.take q) (t + 1) ws) : ∃ p ini w, ws = ini ++ [w] ∧ Good l (d.take p) t ini ∧ p ≤ d.length ∧ w ∈ l ∧ Lib.hasPrefix (d.drop p) (keyW w) = true ∧ q = p + w.length := by
  obtain ⟨h1, h2, h3⟩ := h
  have hne : ws ≠ [] := fun e => by rw [e] at h1; simp at h1
  have hsp := List.dropLast_concat_getLast hne
  generalize ws.dropLast = ini at hsp
  generalize ws.getLast hne = w at hsp
  subst hsp
  rw [List.flatMap_append] at h3
  have hlen := congrArg List.length h3
  rw [List.length_append, List.length_take] at hlen
  simp only [List.flatMap_cons, List.flatMap_nil, List.append_nil] at h3 hlen
  rw [keyW_len] at hlen
  have hpl : (ini.flatMap keyW).length = q - w.length := by omega
  have htake : d.take (q - w.length) = ini.flatMap keyW := by
    have : (d.take q).take (q - w.length) = ini.flatMap keyW := by rw [← h3, ← hpl, List.take_left]
    rw [List.take_take] at this
    rw [← this]
    congr 1
    omega
  refine ⟨q - w.length, ini, w, rfl, ⟨by simpa using h1, fun x hx => h2 x (List.mem_append_left _ hx), htake.symm⟩, by omega, h2 w (List.mem_append_right _ (List.mem_singleton.2 rfl)), ?_, by omega⟩
  rw [pre_iff]
  refine ⟨d.drop q, ?_⟩
  have h4 : d = d.take (q - w.length) ++ d.drop (q - w.length) := (List.take_append_drop _ _).symm
  have h5 : d = ini.flatMap keyW ++ (keyW w ++ d.drop q) := by
    rw [← List.append_assoc, h3, List.take_append_drop]
  have h6 : ini.flatMap keyW ++ d.drop (q - w.length) = ini.flatMap keyW ++ (keyW w ++ d.drop q) := by
    rw [← htake, ← h4, htake, ← h5]
  exact (List.append_cancel_left h6).symm
theorem ways_step {l : List Wd} {d : List UInt8} {t : Nat} {M N : Nat → Option (List Wd)} (hM : Ways l d t M) (hN : Min (CandAll l d M) N) : Ways l d (t + 1) N := by
  have hcand : ∀ q ws, q ≤ d.length → Good l (d.take q) (t + 1) ws → ∃ ini w p way, ws = ini ++ [w] ∧ M p = some way ∧ Least l (d.take p) t way ∧ Good l (d.take p) t ini ∧ CandAll l d M q (way ++ [w]) := by
    intro q ws hq hg
    obtain ⟨p, ini, w, rfl, hgi, hp, hw, hpre, hqq⟩ := good_snoc hq hg
    cases hm : M p with
    | none => exact absurd hgi ((hM p).1 hm hp ini)
    | some way => exact ⟨ini, w, p, way, rfl, hm, ((hM p).2 way hm).2, hgi, p, way, w, hm, hw, hpre, hqq, rfl⟩
  intro q
  refine ⟨fun hn hq ws hg => ?_, fun y hy => ?_⟩
  · obtain ⟨ini, w, p, way, -, -, -, -, hc⟩ := hcand q ws hq hg
    exact (hN q).1 hn _ hc
  · obtain ⟨hc, hmin⟩ := (hN q).2 y hy
    obtain ⟨p, way, w, hm, hw, hpre, rfl, rfl⟩ := hc
    obtain ⟨hp, hlw⟩ := (hM p).2 way hm
    obtain ⟨htk, hpq⟩ := take_pre hp hpre
    refine ⟨hpq, ⟨⟨by rw [List.length_append, hlw.1.1]; rfl, fun x hx => ?_, ?_⟩, fun ws' hg' => ?_⟩⟩
    · rcases List.mem_append.1 hx with hx | hx
      · exact hlw.1.2.1 x hx
      · rw [List.mem_singleton.1 hx]; exact hw
    · rw [List.flatMap_append, hlw.1.2.2, htk]
      simp
    · obtain ⟨ini, w', p', way', rfl, hm', hl', hgi, hc'⟩ := hcand _ ws' hpq hg'
      have h1 := hmin _ hc'
      cases h2 : lessL (ini ++ [w']) (way ++ [w]) with
      | false => rfl
      | true =>
        by_cases he : ini = way'
        · rw [he, h1] at h2; cases h2
        · have h3 := lessL_total ini way' (hl'.2 ini hgi) he
          have h4 := lessL_snoc [w'] (by rw [hl'.1.1, hgi.1]) h3
          rw [lessL_trans h4 h2] at h1
          cases h1
theorem ways_found {l : List Wd} {d : List UInt8} {t : Nat} {N : Nat → Option (List Wd)} {x : List Wd} (h : Ways l d t N) (hx : N d.length = some x) (hb : ∀ t', t' < t → ∀ ws, ¬ Good l d t' ws) : Found l d true x := by
  have := ((h d.length).2 x hx).2
  rw [List.take_length] at this
  exact Or.inl ⟨rfl, t, this, hb⟩
theorem ways_none {l : List Wd} {d : List UInt8} {t : Nat} {N : Nat → Option (List Wd)} (h : Ways l d t N) (hx : N d.length = none) : ∀ ws, ¬ Good l d t ws := by
  have := (h d.length).1 hx (Nat.le_refl _)
  rw [List.take_length] at this
  exact this
theorem found_end {l : List Wd} (hl : ∀ w ∈ l, w ≠ []) {d : List UInt8} (hb : ∀ t', t' ≤ d.length → ∀ ws, ¬ Good l d t' ws) : Found l d false [] := Or.inr ⟨rfl, rfl, fun t ws hg => hb t (good_len hl hg) ws hg⟩
end Go.Proofs.YtbimecknmojnoaaGreatDoor
