/- What is proved here: whether a home is right, as the reference reckons. Condition: the plan lies in memory as stated. -/
import Derived.Test.YthajppcmmmkfcaaGreatDoorHomes
set_option linter.unusedVariables false
set_option linter.unusedSimpArgs false
namespace Go.Proofs.YthajppcmmmkfcaaGreatDoor
open Go.RowKit

theorem home_none {l : List Ctry} {code : List UInt8} (area : List UInt8) (h : (l.find? fun c => c.code == code) = none) : homeErr l code area = 8 := by unfold homeErr homeR; rw [h]; rfl
theorem home_empty {l : List Ctry} {code : List UInt8} {c : Ctry} (h : (l.find? fun c => c.code == code) = some c) : homeErr l code [] = 0 := by unfold homeErr homeR; rw [h]; rfl
theorem home_area {l : List Ctry} {code area : List UInt8} {c : Ctry} (ha : area ≠ []) (h : (l.find? fun c => c.code == code) = some c) : homeErr l code area = if (c.areas.any fun a => a.pre == area) = true then 0 else 8 := by
  unfold homeErr homeR
  rw [h]
  have : (area == []) = false := by cases area with
    | nil => exact absurd rfl ha
    | cons _ _ => rfl
  simp only [Option.bind_some, this, Bool.false_or]
  split <;> rfl

set_option maxRecDepth 100000 in
set_option maxHeartbeats 2000000 in
theorem homeFault_any (w : World) (a : Option Addr) (n cap : Nat) (l : List Ctry) (hr : CtryRow w a n l) (hcap : n ≤ cap) (hne : 1 ≤ n) (hna : ∀ i, i < l.length → 1 ≤ (l.getD i noCtry).an) (code area : List UInt8) : Calls Tryz.prog 13 #[.slice a n cap, .agg #[.string ⟨code.toArray⟩, .string ⟨area.toArray⟩]] w (ErrPost (homeErr l code area) w) := by
  have HR := Lib.hid hr
  have HNA := Lib.hid hna
  have HLEN := Lib.hid hr.len
  have hfew := hr.few
  have HN := Lib.hid (fun h => home_none (l := l) (code := code) area h)
  have HE0 := Lib.hid (fun (c : Ctry) h => home_empty (l := l) (code := code) (c := c) h)
  have HE1 := Lib.hid (fun (c : Ctry) (ha : area ≠ []) h => home_area (l := l) (code := code) (c := c) ha h)
  have HEE : Hid (area = [] → homeErr l code area = homeErr l code []) := fun h => by rw [h]
  generalize homeErr l code area = R at HN HE1 HEE ⊢
  clear hr hna
  go_enter Tryz.func13, Tryz.ntmps13
  go_wp2_with fail
  refine (countryAt_any _ a n cap l (HR.out.below (ext_alloc (Below.refl _ _))) hne code).mono ?_
  rintro e w1 ⟨r, rfl, hcase, hb1⟩
  have c0 : w1.cell? ⟨w.heap.size, 0, none⟩ = some (.string ⟨code.toArray⟩) := (hb1.cell (p := ⟨w.heap.size, 0, none⟩) (by simp)).trans (by go_simp)
  have c1 : w1.cell? ⟨w.heap.size, 1, none⟩ = some (.string ⟨area.toArray⟩) := (hb1.cell (p := ⟨w.heap.size, 1, none⟩) (by simp)).trans (by go_simp)
  have hz1 : w.heap.size < w1.heap.size := by have := hb1.size; simp at this; omega
  have HB1 : Hid (Below w.heap.size w w1) := ext_trans (ext_alloc (Below.refl _ _)) hb1
  have HR1 := Lib.hid (HR.out.below HB1.out)
  clear hb1
  rcases hcase with ⟨rfl, hnone⟩ | ⟨k, rfl, hk, hsome⟩
  · have HF := Lib.hid (HN.out hnone)
    clear hnone
    as_aux_lemma =>
      go_wp2_with fail
      go_ret
      exact ⟨by rw [HF.out]; rfl, HB1.out⟩
  · rcases HR1.out.row with h0 | ⟨b, off, rfl, hb, hcl⟩
    · omega
    have k3 := hcl k (by have := HLEN.out; omega) 3 (by omega)
    have HFI := Lib.hid (HR1.out.each k hk)
    have hsm := HNA.out k hk
    have hkn : k < n := by have := HLEN.out; omega
    have HS := Lib.hid hsome
    clear hcl hsome HN hk
    generalize l.getD k noCtry = c at k3 HFI hsm HS
    obtain ⟨code2, abroad, trunk, aa, an, ac, areas⟩ := c
    simp only [Ctry.cells, List.getElem?_cons_zero, List.getElem?_cons_succ] at k3
    simp only at hsm
    by_cases harea : area = []
    · have HF : Hid (R = 0) := by show _ = _; rw [HEE.out harea, HE0.out _ HS.out]
      subst harea
      as_aux_lemma =>
        go_wp2_with fail
        go_ret
        exact ⟨by rw [HF.out]; rfl, HB1.out⟩
    · have HF := Lib.hid (HE1.out _ harea HS.out)
      have hrow := HFI.out.row
      rcases hrow.row with h0 | ⟨ab, ao, haa, hab, hac⟩
      · have h9 : an = 0 := h0
        omega
      have haa : aa = some ⟨ab, ao, none⟩ := haa
      subst haa
      have hman : an ≤ 1000 := HFI.out.many
      have hl2 : an = areas.length := hrow.len
      have HCA : Hid (Calls Tryz.prog 57 #[.slice (some ⟨ab, ao, none⟩) an ac, .func (.func 58) #[] #[.pointer (some ⟨w.heap.size, 0, none⟩)]] w1 fun e w' => e = .returned (.bool (areas.any fun x => x.pre == area)) ∧ Below w1.heap.size w1 w') := by
        have hh := Tryz.slices_hasA Area.cells (fun x => rfl) (fun x => x.pre == area) 58 #[.pointer (some ⟨w.heap.size, 0, none⟩)] (fun args w => rfl) ab ao an ac areas w1 (areaAt_pred area w.heap.size w1 hz1 c1) (by rw [← hl2]; exact Nat.le_refl _) (by omega) hab (fun j hj i v hv => by
          have hi : i < 3 := by have := (List.getElem?_eq_some_iff.1 hv).1; simpa [Area.cells] using this
          rw [hac j (by rw [hl2]; exact hj) i hi, show areas.getD j noArea = areas[j]! by simp [hj]]
          exact hv)
        rw [List.take_of_length_le (by omega)] at hh
        exact hh
      have hne2 : area.isEmpty = false := by
        cases area with
        | nil => exact absurd rfl harea
        | cons x xs => rfl
      generalize (areas.any fun x => x.pre == area) = bb at HF HCA
      clear hac hl2 hrow
      as_aux_lemma =>
        go_wp2_with fail
        refine HCA.out.mono ?_
        rintro e w2 ⟨rfl, hb2⟩
        have HB2 : Hid (Below w.heap.size w w2) := ext_trans HB1.out hb2
        clear hb2
        cases bb
        · have HF2 : Hid (R = 8) := HF.out
          go_wp2_with fail
          go_ret
          exact ⟨by rw [HF2.out]; rfl, HB2.out⟩
        · have HF2 : Hid (R = 0) := HF.out
          go_wp2_with fail
          go_ret
          exact ⟨by rw [HF2.out]; rfl, HB2.out⟩
end Go.Proofs.YthajppcmmmkfcaaGreatDoor
