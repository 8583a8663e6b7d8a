/- What is proved here: what dialplan.Open and Turns answer at right hours. Condition: the hours lie in memory as stated. -/
import Derived.Test.YtkfflafhlgephaaDoorHourCheck
import Derived.Test.YtkfflafhlgephaaDoorInfos
set_option linter.unusedVariables false
set_option linter.unusedSimpArgs false
namespace Go.Proofs.YtkfflafhlgephaaDoor
open Go.RowKit

set_option maxRecDepth 100000 in
set_option maxHeartbeats 4000000 in
theorem checkHours_one (w : World) (b : Nat) (key : List UInt8) (zone : Int) (ra ha : Option Addr) (rn rc hn hc : Nat) (rows hols : List Tri) (hb : b < w.heap.size) (h0 : w.cell? ⟨b, 0, none⟩ = some (.string ⟨key.toArray⟩)) (h1 : w.cell? ⟨b, 1, none⟩ = some (.int .i64 zone)) (h2 : w.cell? ⟨b, 2, none⟩ = some (.slice ra rn rc)) (h3 : w.cell? ⟨b, 3, none⟩ = some (.slice ha hn hc)) (hkey : isKeyB key = true) (hkl : key.length ≤ 1000) (hr : TriRow w ra rn rows) (hh : TriRow w ha hn hols) (hok : HoursOk zone rows hols) :
    Calls Tryd.prog 29 #[.slice (some ⟨b, 0, none⟩) 1 1] w fun e w' => e = .returned (.int .i64 0) ∧ Below w.heap.size w w' := by
  have HR := Lib.hid hr
  have HH := Lib.hid hh
  have HOK := Lib.hid hok
  have z0 := hok.z0
  have z1 := hok.z1
  have HKEY := Lib.hid hkey
  clear hr hh hok hkey
  go_enter Tryd.func29, Tryd.ntmps29
  go_wp2_with fail
  refine wp_loop_rounds 2 ?_
  rw [rounds_succ]
  go_wp2_with fail
  refine (isKey_any key _ (by omega)).mono ?_
  rw [HKEY.out]
  rintro e w1 ⟨rfl, hB1⟩
  have hs1 := hB1.size
  have k0 := (hB1.cell (p := ⟨w.heap.size, 0, none⟩) (by simp)).trans (show _ = some (.string ⟨key.toArray⟩) by go_simp)
  have k1 := (hB1.cell (p := ⟨w.heap.size, 1, none⟩) (by simp)).trans (show _ = some (.int .i64 zone) by go_simp)
  have k2 := (hB1.cell (p := ⟨w.heap.size, 2, none⟩) (by simp)).trans (show _ = some (.slice ra rn rc) by go_simp)
  have k3 := (hB1.cell (p := ⟨w.heap.size, 3, none⟩) (by simp)).trans (show _ = some (.slice ha hn hc) by go_simp)
  have HB1 : Hid (Below w.heap.size w w1) := ext_trans (ext_alloc (Below.refl _ _)) hB1
  clear hB1
  go_wp2_with fail
  go_quiet (fail)
  have HBQ : Hid (Below w.heap.size w (w1.drewN nq)) := ext_drewN HB1.out
  go_wp2_with (go_at_call 62; refine (within_d _ _ _ _ z0 z1).mono ?_; rintro e w' ⟨rfl, rfl⟩)
  refine (checkTimes_ok _ key zone ra ha rn rc hn hc rows hols (HR.out.below HBQ.out) (HH.out.below HBQ.out) HOK.out).mono ?_
  rintro e w2 ⟨rfl, hB2⟩
  have HB2 := Lib.hid (ext_trans HBQ.out hB2)
  clear hB2
  go_wp2_with fail
  rw [rounds_succ]
  go_wp2_with fail
  go_ret
  exact ⟨rfl, HB2.out⟩

set_option maxRecDepth 100000 in
set_option maxHeartbeats 4000000 in
theorem open_any (w : World) (key : List UInt8) (zone : Int) (ra ha : Option Addr) (rn rc hn hc : Nat) (rows hols : List Tri) (at_ : Int) (hkey : isKeyB key = true) (hkl : key.length ≤ 1000) (hr : TriRow w ra rn rows) (hh : TriRow w ha hn hols) (hok : HoursOk zone rows hols) (a0 : 0 ≤ at_) (a1 : at_ < 345686400000) :
    Calls Tryd.prog 11 #[hoursVal key zone ra rn rc ha hn hc, .int .i64 at_] w fun e w' => e = .returned (.tuple #[.bool (openI zone rows hols at_), .int .i64 0]) ∧ Below w.heap.size w w' := by
  have HR := Lib.hid hr
  have HH := Lib.hid hh
  have HOK := Lib.hid hok
  have HKEY := Lib.hid hkey
  clear hr hh hok hkey
  unfold hoursVal
  go_enter Tryd.func11, Tryd.ntmps11
  go_wp2_with fail
  refine (checkHours_one _ (w.heap.size + 1) key zone ra ha rn rc hn hc rows hols (by simp) (by go_simp) (by go_simp) (by go_simp) (by go_simp) HKEY.out hkl (HR.out.below (ext_alloc (ext_alloc (Below.refl _ _)))) (HH.out.below (ext_alloc (ext_alloc (Below.refl _ _)))) HOK.out).mono ?_
  rintro e w1 ⟨rfl, hB1⟩
  have k0 := (hB1.cell (p := ⟨w.heap.size, 0, none⟩) (by simp; omega)).trans (show _ = some (.string ⟨key.toArray⟩) by go_simp)
  have k1 := (hB1.cell (p := ⟨w.heap.size, 1, none⟩) (by simp; omega)).trans (show _ = some (.int .i64 zone) by go_simp)
  have k2 := (hB1.cell (p := ⟨w.heap.size, 2, none⟩) (by simp; omega)).trans (show _ = some (.slice ra rn rc) by go_simp)
  have k3 := (hB1.cell (p := ⟨w.heap.size, 3, none⟩) (by simp; omega)).trans (show _ = some (.slice ha hn hc) by go_simp)
  have HB1 : Hid (Below w.heap.size w w1) := ext_trans (ext_alloc (ext_alloc (Below.refl _ _))) hB1
  have hmom : isMomB at_ = true := by unfold isMomB; simp; omega
  have HMO := Lib.hid hmom
  clear hB1 hmom
  go_wp2_with (go_at_call 33; refine (isMoment_any _ _).mono ?_; rw [HMO.out]; rintro e w' ⟨rfl, rfl⟩)
  refine (isOpen_any _ key zone ra ha rn rc hn hc rows hols at_ (HR.out.below HB1.out) (HH.out.below HB1.out) HOK.out a0 (by omega)).mono ?_
  rintro e w2 ⟨rfl, hB2⟩
  have HB2 := Lib.hid (ext_trans HB1.out hB2)
  clear hB2
  go_wp2_with fail
  go_ret2
  exact ⟨rfl, HB2.out⟩
end Go.Proofs.YtkfflafhlgephaaDoor
