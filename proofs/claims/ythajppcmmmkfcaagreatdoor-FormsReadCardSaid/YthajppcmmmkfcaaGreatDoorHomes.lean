/- What is proved here: where the country of a home is, and whether a home is right, as the reference reckons. Condition: the plan lies in memory as stated. -/
import Derived.Test.YthajppcmmmkfcaaGreatDoorFormMath
import Derived.Test.YthajppcmmmkfcaaGreatDoorRefSmall
import Derived.Test.YthajppcmmmkfcaaGreatDoorPlanFault
set_option linter.unusedVariables false
set_option linter.unusedSimpArgs false
namespace Go.Proofs.YthajppcmmmkfcaaGreatDoor
open Go.RowKit

theorem codeAt_pred (code : List UInt8) (B : Nat) (w : World) (hB : B < w.heap.size) (hcell : w.cell? ⟨B, 0, none⟩ = some (.string ⟨code.toArray⟩)) :
    PredBelow Tryz.prog 95 #[.pointer (some ⟨B, 0, none⟩)] (fun x => .agg (Ctry.cells x).toArray) (fun x => x.code == code) w := fun W x hb => by
  have hc : W.cell? ⟨B, 0, none⟩ = some (.string ⟨code.toArray⟩) := (hb.cell (p := ⟨B, 0, none⟩) hB).trans hcell
  have hBW : B < W.heap.size := Nat.lt_of_lt_of_le hB hb.size
  have hne : B ≠ W.heap.size := by omega
  obtain ⟨code2, abroad, trunk, aa, an, ac, areas⟩ := x
  show Calls Tryz.prog 95 #[.agg #[.string ⟨code2.toArray⟩, .string ⟨abroad.toArray⟩, .string ⟨trunk.toArray⟩, .slice aa an ac], .pointer (some ⟨B, 0, none⟩)] W _
  simp only
  have HB := Lib.hid hb
  clear hb hcell hB
  go_enter Tryz.func95, Tryz.ntmps95
  go_wp2_with fail
  go_ret
  refine ⟨?_, HB.out.trans ((ext_alloc (Below.refl _ _)).mono HB.out.size)⟩
  first | rfl | (simp; done)

theorem areaAt_pred (area : List UInt8) (B : Nat) (w : World) (hB : B < w.heap.size) (hcell : w.cell? ⟨B, 1, none⟩ = some (.string ⟨area.toArray⟩)) :
    PredBelow Tryz.prog 58 #[.pointer (some ⟨B, 0, none⟩)] (fun x => .agg (Area.cells x).toArray) (fun x => x.pre == area) w := fun W x hb => by
  have hc : W.cell? ⟨B, 1, none⟩ = some (.string ⟨area.toArray⟩) := (hb.cell (p := ⟨B, 1, none⟩) hB).trans hcell
  have hBW : B < W.heap.size := Nat.lt_of_lt_of_le hB hb.size
  have hne : B ≠ W.heap.size := by omega
  obtain ⟨pre, low, high⟩ := x
  show Calls Tryz.prog 58 #[.agg #[.string ⟨pre.toArray⟩, .int .i64 low, .int .i64 high], .pointer (some ⟨B, 0, none⟩)] W _
  simp only
  have HB := Lib.hid hb
  clear hb hcell hB
  go_enter Tryz.func58, Tryz.ntmps58
  go_wp2_with fail
  go_ret
  refine ⟨?_, HB.out.trans ((ext_alloc (Below.refl _ _)).mono HB.out.size)⟩
  first | rfl | (simp; done)

/-- Where a country is. -/
def AtPost (l : List Ctry) (code : List UInt8) (w : World) (e : Ending) (w' : World) : Prop :=
  ∃ r : Int, e = .returned (.int .i64 r) ∧ ((r = -1 ∧ (l.find? fun c => c.code == code) = none) ∨ ∃ k : Nat, r = k ∧ k < l.length ∧ (l.find? fun c => c.code == code) = some (l.getD k noCtry)) ∧ Below w.heap.size w w'
set_option maxRecDepth 100000 in
theorem countryAt_any (w : World) (a : Option Addr) (n cap : Nat) (l : List Ctry) (hr : CtryRow w a n l) (hne : 1 ≤ n) (code : List UInt8) : Calls Tryz.prog 56 #[.slice a n cap, .string ⟨code.toArray⟩] w (AtPost l code w) := by
  rcases hr.row with h0 | ⟨b, off, rfl, hb, hcl⟩
  · omega
  have HLEN := Lib.hid hr.len
  have hfew := hr.few
  have HENC := Lib.hid (ctry_enc hr.len hcl)
  clear hr hcl
  go_enter Tryz.func56, Tryz.ntmps56
  go_wp2_with fail
  refine (Tryz.slices_idxC Ctry.cells (fun x => rfl) (fun x => x.code == code) 95 #[.pointer (some ⟨w.heap.size, 0, none⟩)] (fun args w => rfl) b off n cap l _ (codeAt_pred code w.heap.size _ (by simp) (by go_simp)) (by have := HLEN.out; omega) (by omega) (by simp; omega) (fun j hj i v hv => (World.cell?_alloc_lt _ _ _ (by show b < _; omega)).trans (HENC.out j hj i v hv))).mono ?_
  rintro e w1 ⟨rfl, hb1⟩
  have HB1 : Hid (Below w.heap.size w w1) := ext_trans (ext_alloc (Below.refl _ _)) hb1
  have hi := idx_find (fun x => x.code == code) (l.take n)
  rw [List.take_of_length_le (by have := HLEN.out; omega)] at hi ⊢
  have HI := Lib.hid hi
  clear hb1 hi
  generalize Lib.idxBy (fun _ y => y.code == code) l default = r at HI ⊢
  go_wp2_with fail
  go_ret
  refine ⟨r, rfl, ?_, HB1.out⟩
  rcases HI.out with ⟨h1, h2⟩ | ⟨k, hk, h1, h2, _⟩
  · exact Or.inl ⟨h1, h2⟩
  · exact Or.inr ⟨k, h1, hk, by rw [h2]; simp [hk]⟩

def homeErr (l : List Ctry) (code area : List UInt8) : Int := if (homeR l code area).isSome then 0 else 8
end Go.Proofs.YthajppcmmmkfcaaGreatDoor
