/- What is proved here: a map from places to slices of words that the call makes. No condition beyond those stated. -/
import Derived.Test.YtbimecknmojnoaaGreatDoorWordClone
import Derived.Test.YtbimecknmojnoaaGreatDoorWordRefM
import Derived.Maps.RangeWalk
import Derived.Maps.OwnSet
import Derived.Maps.Views
set_option linter.unusedVariables false
set_option linter.unusedSimpArgs false
namespace Go.Proofs.YtbimecknmojnoaaGreatDoor
open Go.RowKit
open Go.Maps

/-- An element reads as itself. -/
def rdS (v : Value) : Option (DataW Value × List MemPlace) := match v with
  | .slice a n c => some (.held (.slice a n c), [])
  | _ => none
def mkS (x : Option Addr × Nat × Nat) : Value := .slice x.1 x.2.1 x.2.2
theorem rdS_mk (x : Option Addr × Nat × Nat) : rdS (mkS x) = some (.held (mkS x), []) := rfl
theorem rdS_inv {v : Value} {y : DataW Value × List MemPlace} (h : rdS v = some y) : ∃ c, v = mkS c ∧ y = (.held v, []) := by
  unfold rdS at h
  split at h
  · rename_i a n c
    exact ⟨(a, n, c), rfl, by injection h with h; exact h.symm⟩
  · cases h
def keyP (p : Nat) : Lit := .int .i64 p
theorem keyP_inj {p q : Nat} (h : keyP p = keyP q) : p = q := by unfold keyP at h; injection h with _ h; exact Int.ofNat.inj h
theorem keyP_lit (p : Nat) : WideAt.IsKeyLit (keyP p) := by unfold keyP; trivial
/-- The map says what M says; each element is a slice of the call's own. -/
def MapOf (w : World) (base : Nat) (D : DataW Value) (M : Nat → Option (List Wd)) : Prop :=
  (∀ kl, Maps.has D kl = true → ∃ p : Nat, kl = keyP p ∧ M p ≠ none) ∧
  ∀ p x, M p = some x → Maps.has D (keyP p) = true ∧ ∃ v, (∀ z, D.atKey (keyP p) z = .held v) ∧ w.ownsRow base 9 1 v x.length (x.map encS)
theorem MapOf.start (w : World) (base : Nat) : MapOf w base (.map []) (fun _ => none) := ⟨fun kl h => by simp [Maps.has] at h, fun p x h => by cases h⟩
theorem MapOf.has_iff {w : World} {base : Nat} {D : DataW Value} {M : Nat → Option (List Wd)} (h : MapOf w base D M) (p : Nat) : Maps.has D (keyP p) = (M p).isSome := by
  cases hm : M p with
  | none =>
    cases hh : Maps.has D (keyP p) with
    | false => rfl
    | true =>
      obtain ⟨q, hq, hne⟩ := h.1 _ hh
      have := keyP_inj hq
      subst this
      exact absurd hm hne
  | some x => rw [(h.2 p x hm).1]; rfl
theorem MapOf.put {w : World} {base : Nat} {D : DataW Value} {M : Nat → Option (List Wd)} (h : MapOf w base D M) (hD : IsMap D) {v : Value} {x : List Wd} (a : Nat) (hv : w.ownsRow base 9 1 v x.length (x.map encS)) : MapOf w base (D.put (keyP a) (.held v)) (fun q => if q = a then some x else M q) := by
  refine ⟨fun kl hk => ?_, fun p y hy => ?_⟩
  · by_cases he : kl = keyP a
    · exact ⟨a, he, by simp⟩
    · rw [has_put_other he] at hk
      obtain ⟨p, rfl, hp⟩ := h.1 kl hk
      exact ⟨p, rfl, by simp only [show ¬ p = a from fun e => he (by rw [e]), if_false]; exact hp⟩
  · by_cases hp : p = a
    · subst hp
      simp only [if_true, Option.some.injEq] at hy
      subst hy
      exact ⟨has_put_same hD (keyP_lit _) _, v, fun z => atKey_put_same hD (keyP_lit _) _ z, hv⟩
    · simp only [hp, if_false] at hy
      obtain ⟨h1, u, h2, h3⟩ := h.2 p y hy
      have hne : keyP p ≠ keyP a := fun e => hp (keyP_inj e)
      exact ⟨by rw [has_put_other hne]; exact h1, u, fun z => by rw [atKey_put_other hne]; exact h2 z, h3⟩
theorem MapOf.keep {w w' : World} {base : Nat} {D : DataW Value} {M : Nat → Option (List Wd)} (h : MapOf w base D M) (hk : ∀ (v : Value) (x : List Wd), w.ownsRow base 9 1 v x.length (x.map encS) → w'.ownsRow base 9 1 v x.length (x.map encS)) : MapOf w' base D M :=
  ⟨h.1, fun p x hx => by obtain ⟨h1, v, h2, h3⟩ := h.2 p x hx; exact ⟨h1, v, h2, hk v x h3⟩⟩
/-- A row stays while a block that is no row is written. -/
theorem own_other {w w' : World} {base e size : Nat} {v : Value} {n r : Nat} {xs : List Value} (h : w.ownsRow base e size v n xs) (hg : w.grownBy w' (some r)) (hr : ∀ cs t f, w.heap[r]? ≠ some (.cells cs t f)) : w'.ownsRow base e size v n xs := by
  refine ⟨h.1, h.2.imp id ?_⟩
  rintro ⟨g, cap, cur, rfl, h1, h2, h3⟩
  refine ⟨g, cap, cur, rfl, h1, (hg.block g (Array.getElem?_eq_some_iff.1 h2).1 (fun e => ?_)).trans h2, h3⟩
  injection e with e
  subst e
  exact hr _ _ _ h2
theorem map_no_row {w : World} {b n : Nat} {D : DataW Value} (h : w.ownsMap Tryz.prog 3 rdS b n D) : ∀ cs t f, w.heap[b]? ≠ some (.cells cs t f) := fun cs t f e => by
  obtain ⟨es, clock, hb, _⟩ := h
  rw [hb] at e
  cases e
theorem iter_no_row {w : World} {b r n cnt : Nat} {D : DataW Value} {left : Lit → Bool} (h : w.ranges Tryz.prog 3 rdS b r n D left cnt) : ∀ cs t f, w.heap[r]? ≠ some (.cells cs t f) := fun cs t f e => by
  obtain ⟨es, clock, since, seen, c0, _, _, _, _, hr, _⟩ := h
  rw [hr] at e
  cases e
/-- So many different numbers below L are no more than L. -/
theorem pigeon : ∀ (L : Nat) (ks : List Nat), ks.Pairwise (· ≠ ·) → (∀ k ∈ ks, k < L) → ks.length ≤ L
  | 0, [], _, _ => Nat.le_refl _
  | 0, k :: ks, _, h => by have := h k List.mem_cons_self; omega
  | L + 1, ks, hp, h => by
    have h1 := pigeon L (ks.filter (· ≠ L)) (hp.filter _) (fun k hk => by
      have h2 := List.mem_filter.1 hk
      have h3 := h k h2.1
      have h4 : k ≠ L := by simpa using h2.2
      omega)
    have h5 : ks.length ≤ (ks.filter (· ≠ L)).length + 1 := by
      clear h h1
      induction ks with
      | nil => simp
      | cons k ks ih =>
        rw [List.pairwise_cons] at hp
        have h6 := ih hp.2
        by_cases hk : k = L
        · subst hk
          have : ks.filter (· ≠ k) = ks := by
            rw [List.filter_eq_self]
            intro x hx
            have := hp.1 x hx
            simpa using fun e => this e.symm
          rw [List.filter_cons, this]
          simp
        · rw [List.filter_cons, if_pos (by simpa using hk)]
          simp only [List.length_cons]
          omega
    omega
/-- A map all of whose keys are places up to L has no more than L + 1 entries. -/
theorem own_places {w : World} {b n : Nat} {D : DataW Value} (h : w.ownsMap Tryz.prog 3 rdS b n D) (L : Nat) (hk : ∀ kl, Maps.has D kl = true → ∃ p : Nat, kl = keyP p ∧ p ≤ L) : w.ownsMap Tryz.prog 3 rdS b (L + 1) D := by
  obtain ⟨es2, hD, hpw, hlit⟩ := h.entries (int_keyed Tryz.underlying3)
  obtain ⟨es, clock, hb, F, hs, hD2⟩ := h
  refine ⟨es, clock, hb, F, ?_, hD2⟩
  have hsz : es.size = es2.length := by
    have := hD2.symm.trans hD
    injection this with this
    rw [← this, length_sorted]
    simp
  rw [hsz]
  have hall : ∀ p ∈ es2, ∃ q : Nat, p.1 = keyP q ∧ q ≤ L := fun p hp => by
    refine hk p.1 ?_
    rw [hD]
    exact List.any_eq_true.2 ⟨p, hp, WideAt.sameKey_self (hlit p hp)⟩
  have hks : ∃ ks : List Nat, ks.map keyP = es2.map (·.1) ∧ ∀ k ∈ ks, k < L + 1 := by
    clear hD hpw hlit hsz hD2
    induction es2 with
    | nil => exact ⟨[], rfl, fun k hk => by cases hk⟩
    | cons p es2 ih =>
      obtain ⟨ks, h1, h2⟩ := ih (fun q hq => hall q (List.mem_cons_of_mem _ hq))
      obtain ⟨q, h3, h4⟩ := hall p List.mem_cons_self
      refine ⟨q :: ks, by simp [h1, h3], fun k hk => ?_⟩
      rcases List.mem_cons.1 hk with rfl | hk
      · omega
      · exact h2 k hk
  obtain ⟨ks, h1, h2⟩ := hks
  have hlen : ks.length = es2.length := by have := congrArg List.length h1; simpa using this
  rw [← hlen]
  refine pigeon (L + 1) ks ?_ h2
  have h3 : (es2.map (·.1)).Pairwise (· ≠ ·) := List.pairwise_map.2 hpw
  rw [← h1, List.pairwise_map] at h3
  exact h3.imp (fun h e => h (by rw [e]))
end Go.Proofs.YtbimecknmojnoaaGreatDoor
