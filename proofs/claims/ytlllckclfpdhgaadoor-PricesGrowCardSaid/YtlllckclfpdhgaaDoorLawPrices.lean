/- What is proved here: the walk of the statement PricesGrow: it answers true. Condition: the slice that came in lies in memory, and a table of the library as its initialiser lays it. -/
import Derived.Test.YtlllckclfpdhgaaDoorRightTariff
import Derived.Test.YtlllckclfpdhgaaDoorReady
import Derived.IntWalk
import Derived.Deep.RegionHeld3
namespace Go.Proofs.YtlllckclfpdhgaaDoor
open Go.RowKit
set_option linter.unusedVariables false
set_option linter.unusedSimpArgs false

theorem price_some {w : World} {a : Option Addr} {n cap : Nat} {cs : List Cls} {free : Int} {a2 : Option Addr} {n2 cap2 : Nat} {ss : List (List UInt8)} {c : Cls} {l : List UInt8} (hcl : clsOf cs l = some c) (h : TariffAt w a n cs free a2 n2 ss) (hl : isNumB l = true) (hl2 : l.length ≤ 1000) (talk : Int) (t0 : 0 ≤ talk) (t1 : talk ≤ 86400000) :
    Calls Tryd.prog 13 #[.agg #[.slice a n cap, .int .i64 free, .slice a2 n2 cap2], .string ⟨l.toArray⟩, .int .i64 talk] w fun e w' => e = .returned (.tuple #[.int .i64 (priceI c talk), .int .i64 0]) ∧ Below w.heap.size w w' :=
  (price_at h l hl hl2 talk t0 t1).mono fun e w' ⟨h1, h2⟩ => ⟨by rw [h2, hcl], h1⟩
theorem price_none {w : World} {a : Option Addr} {n cap : Nat} {cs : List Cls} {free : Int} {a2 : Option Addr} {n2 cap2 : Nat} {ss : List (List UInt8)} {l : List UInt8} (hcl : clsOf cs l = none) (h : TariffAt w a n cs free a2 n2 ss) (hl : isNumB l = true) (hl2 : l.length ≤ 1000) (talk : Int) (t0 : 0 ≤ talk) (t1 : talk ≤ 86400000) :
    Calls Tryd.prog 13 #[.agg #[.slice a n cap, .int .i64 free, .slice a2 n2 cap2], .string ⟨l.toArray⟩, .int .i64 talk] w fun e w' => e = .returned (.tuple #[.int .i64 0, .int .i64 8]) ∧ Below w.heap.size w w' :=
  (price_at h l hl hl2 talk t0 t1).mono fun e w' ⟨h1, h2⟩ => ⟨by rw [h2, hcl], h1⟩
theorem class_some {w : World} {a : Option Addr} {n cap : Nat} {cs : List Cls} {free : Int} {a2 : Option Addr} {n2 cap2 : Nat} {ss : List (List UInt8)} {c : Cls} {l : List UInt8} (hcl : clsOf cs l = some c) (h : TariffAt w a n cs free a2 n2 ss) (hl : isNumB l = true) (hl2 : l.length ≤ 1000) :
    Calls Tryd.prog 14 #[.agg #[.slice a n cap, .int .i64 free, .slice a2 n2 cap2], .string ⟨l.toArray⟩] w fun e w' => e = .returned (.tuple #[.agg #[.string ⟨c.pre.toArray⟩, .string ⟨c.name.toArray⟩, .int .i64 c.setup, .int .i64 c.first, .int .i64 c.step, .int .i64 c.rate], .int .i64 0]) ∧ Below w.heap.size w w' :=
  (class_at h l hl hl2).mono fun e w' ⟨h1, h2⟩ => ⟨by rw [h2, hcl]; rfl, h1⟩
theorem class_none {w : World} {a : Option Addr} {n cap : Nat} {cs : List Cls} {free : Int} {a2 : Option Addr} {n2 cap2 : Nat} {ss : List (List UInt8)} {l : List UInt8} (hcl : clsOf cs l = none) (h : TariffAt w a n cs free a2 n2 ss) (hl : isNumB l = true) (hl2 : l.length ≤ 1000) :
    Calls Tryd.prog 14 #[.agg #[.slice a n cap, .int .i64 free, .slice a2 n2 cap2], .string ⟨l.toArray⟩] w fun e w' => e = .returned (.tuple #[.agg #[.string ⟨#[]⟩, .string ⟨#[]⟩, .int .i64 0, .int .i64 0, .int .i64 0, .int .i64 0], .int .i64 8]) ∧ Below w.heap.size w w' :=
  (class_at h l hl hl2).mono fun e w' ⟨h1, h2⟩ => ⟨by rw [h2, hcl]; rfl, h1⟩

theorem take_beq (l p : List UInt8) (k : Nat) : (((⟨l.toArray⟩ : ByteArray).extract 0 k).toList == p) = (l.take k == p) := by
  rw [Go.ByteArray.toList_eq, extract_take]

theorem clsOf_mem {cs : List Cls} {l : List UInt8} {c : Cls} (h : clsOf cs l = some c) : c ∈ cs := by
  obtain ⟨j, _, hs, _⟩ := clsTo_spec cs l c _ h
  exact List.mem_of_find?_eq_some hs

set_option maxRecDepth 100000 in
set_option maxHeartbeats 4000000 in
theorem prices_true (w : World) (a : Option Addr) (len cap : Nat) (zs : List Int) (hr : ArgRow w a len cap zs) (ht : TabAt w) :
    Calls Tryd.prog 3 #[.slice a len cap] w fun e w' => e = .returned (.bool true) ∧ Below w.heap.size w w' := by
  have hst := stream_start hr
  have HT := Lib.hid ht
  have HS0 := Lib.hid hst
  clear hr ht hst
  go_enter Tryd.func3, Tryd.ntmps3
  go_wp2_with fail
  refine (rightTariff_any w.heap.size 0 _ HS0.out (by omega)).mono ?_
  rintro e w1 ⟨ta, tn, tc, cs, free, ta2, tn2, tc2, ss, rfl, hta, hb1, hb2, hst1, hkp1⟩
  have HTA := Lib.hid hta
  have HB1 := Lib.hid hb1
  have HB2 := Lib.hid hb2
  have HS1 := Lib.hid hst1
  have HK1 := Lib.hid hkp1
  have z1 : w.heap.size + 1 ≤ w1.heap.size := by have := hkp1.size; simp at this; omega
  clear hta hb1 hb2 hst1 hkp1
  go_wp2_with fail
  refine (some4 w.heap.size 40 _ [43, 52, 57, 51, 48, 49] [43, 52, 51, 49, 50] [43, 53, 53, 49, 50] [43, 49, 50, 48, 48] (fun r => isNumB r = true ∧ r.length ≤ 1000) _ (HS1.out.below (ext_alloc (Below.refl _ _))) (by omega) (by simp) (by omega) (by go_simp) (by go_simp) (by go_simp) (by go_simp) (by decide) (by decide) (by decide) (by decide)).mono ?_
  rintro e w2 ⟨l, rfl, ⟨hl, hl2⟩, hst2, hkp2⟩
  have hkp2' : Keeps w.heap.size w1 w2 := Keeps.trans (Keeps.of_below (ext_alloc (Below.refl _ _))) hkp2
  have HTA2 := Lib.hid (HTA.out.keeps hkp2' HB1.out HB2.out)
  have HK2 := Lib.hid (HK1.out.trans hkp2')
  have HS2 := Lib.hid hst2
  have HL := Lib.hid hl
  have z2 : w1.heap.size + 1 ≤ w2.heap.size := by have := hkp2.size; simp at this; omega
  clear hkp2 hkp2' hst2 hl
  go_wp2_with fail
  refine (range_any w.heap.size 41 1 100000 _ HS2.out (by omega) (by omega) (by omega) (by omega)).mono ?_
  rintro e w3 ⟨talk, rfl, k0, k1, hst3, hkp3⟩
  have HTA3 := Lib.hid (HTA2.out.keeps hkp3 HB1.out HB2.out)
  have HK3 := Lib.hid (HK2.out.trans hkp3)
  have HS3 := Lib.hid hst3
  have z3 : w2.heap.size ≤ w3.heap.size := hkp3.size
  clear hkp3 hst3
  cases hcl : clsOf cs l with
  | none =>
    have HCL := Lib.hid hcl
    clear hcl
    go_wp2_with (go_at_call 13; refine (price_none HCL.out (HTA3.out.below (ext_alloc (Below.refl _ _))) HL.out hl2 talk (by omega) (by omega)).mono ?_; rintro e w4 ⟨rfl, hB4⟩)
    have e4 : ∀ j, w4.cell? ⟨w3.heap.size, j, none⟩ = (w3.alloc (.cells #[.slice ta tn tc, .int .i64 free, .slice ta2 tn2 tc2] 29)).cell? ⟨w3.heap.size, j, none⟩ := fun j => hB4.cell (p := ⟨w3.heap.size, j, none⟩) (by simp)
    have c40 : w4.cell? ⟨w3.heap.size, 0, none⟩ = some (.slice ta tn tc) := by rw [e4]; go_simp
    have c41 : w4.cell? ⟨w3.heap.size, 1, none⟩ = some (.int .i64 free) := by rw [e4]; go_simp
    have c42 : w4.cell? ⟨w3.heap.size, 2, none⟩ = some (.slice ta2 tn2 tc2) := by rw [e4]; go_simp
    have hW4 : Below w3.heap.size w3 w4 := (by (try show Below _ _ _); repeat (with_reducible first | exact Below.refl _ _ | assumption | exact Hid.out (by assumption) | refine ext_alloc ?_ | refine ext_drewN ?_ | refine ext_drew ?_ | refine ext_setCell ?_ (Nat.le_refl _) | refine ext_setCell ?_ (Nat.le_succ _) | refine ext_trans ?_ (by assumption) | (refine ext_setCell ?_ (by simp)) | (refine ext_setCell ?_ (by simp at *; omega))))
    have HS4 := Lib.hid (HS3.out.below hW4)
    have HTA4 := Lib.hid (HTA3.out.below hW4)
    have HK4 := Lib.hid (HK3.out.ext hW4)
    have z4 : w3.heap.size + 1 ≤ w4.heap.size := by have := hB4.size; simp at this; omega
    clear e4 hB4 hW4
    go_region_held3 (fun w' => w'.cell? ⟨w3.heap.size, 0, none⟩ = some (.slice ta tn tc) ∧ w'.cell? ⟨w3.heap.size, 1, none⟩ = some (.int .i64 free) ∧ w'.cell? ⟨w3.heap.size, 2, none⟩ = some (.slice ta2 tn2 tc2))
      (first
        | exact ⟨(hB6.cell (p := ⟨w3.heap.size, 0, none⟩) y5).trans d50, (hB6.cell (p := ⟨w3.heap.size, 1, none⟩) y5).trans d51, (hB6.cell (p := ⟨w3.heap.size, 2, none⟩) y5).trans d52⟩
        | exact ⟨d50, d51, d52⟩
        | exact ⟨c40, c41, c42⟩)
      (first
        | (go_at_call 12; refine (range_any w.heap.size 42 0 100000 _ (HS4.out.below (ext_drew (Below.refl _ _))) (by omega) (by omega) (by omega) (by omega)).mono ?_; rintro e w5 ⟨more, rfl, m0, m1, hst5, hkp5⟩; have z5 : w4.heap.size ≤ w5.heap.size := hkp5.size; have d50 := (hkp5.cell (p := ⟨w3.heap.size, 0, none⟩) (by show w3.heap.size < w4.heap.size; omega) (by show w3.heap.size ≠ w.heap.size; omega)).trans c40; have d51 := (hkp5.cell (p := ⟨w3.heap.size, 1, none⟩) (by show w3.heap.size < w4.heap.size; omega) (by show w3.heap.size ≠ w.heap.size; omega)).trans c41; have d52 := (hkp5.cell (p := ⟨w3.heap.size, 2, none⟩) (by show w3.heap.size < w4.heap.size; omega) (by show w3.heap.size ≠ w.heap.size; omega)).trans c42; have y5 : w3.heap.size < w5.heap.size := (by omega); have b0 : 0 ≤ talk + more := (by omega); have b1 : talk + more ≤ 86400000 := (by omega); have hwr : IntKind.i64.wrap (talk + more) = talk + more := IntWalk.i64_in _ (by omega))
        | (go_at_call 13; refine (price_none HCL.out (HTA4.out.keeps (Keeps.trans (by exact Keeps.of_below (ext_drew (Below.refl _ _))) hkp5) HB1.out HB2.out) HL.out hl2 (talk + more) b0 b1).mono ?_; rintro e w6 ⟨rfl, hB6⟩))
    clear hwr
    have hk5 : Keeps w.heap.size w4 w5 := Keeps.trans (by exact Keeps.of_below (ext_drew (Below.refl _ _))) hkp5
    have HTA6 := Lib.hid ((HTA4.out.keeps hk5 HB1.out HB2.out).below hB6)
    have HK6 := Lib.hid ((HK4.out.trans hk5).ext hB6)
    have c60 := (hB6.cell (p := ⟨w3.heap.size, 0, none⟩) (by show w3.heap.size < _; omega)).trans ((hk5.cell (p := ⟨w3.heap.size, 0, none⟩) (by show w3.heap.size < _; omega) (by show w3.heap.size ≠ w.heap.size; omega)).trans c40)
    have c61 := (hB6.cell (p := ⟨w3.heap.size, 1, none⟩) (by show w3.heap.size < _; omega)).trans ((hk5.cell (p := ⟨w3.heap.size, 1, none⟩) (by show w3.heap.size < _; omega) (by show w3.heap.size ≠ w.heap.size; omega)).trans c41)
    have c62 := (hB6.cell (p := ⟨w3.heap.size, 2, none⟩) (by show w3.heap.size < _; omega)).trans ((hk5.cell (p := ⟨w3.heap.size, 2, none⟩) (by show w3.heap.size < _; omega) (by show w3.heap.size ≠ w.heap.size; omega)).trans c42)
    have z6 : w5.heap.size ≤ w6.heap.size := hB6.size
    clear hB6 hkp5 hst5 hk5 c40 c41 c42
    try clear hHeld
    go_wp2_with fail
    refine (class_none HCL.out HTA6.out HL.out hl2).mono ?_
    rintro e w7 ⟨rfl, hB7⟩
    have HT7 : Hid (TabAt w7) := (HT.out.below (ext_alloc (Below.refl _ _))).keeps (HK6.out.ext hB7) (by have := HT.out.1; omega)
    go_wp2_with fail
    refine (ready_true _ (HT7.out.below (ext_alloc (Below.refl _ _)))).mono ?_
    rintro e w9 ⟨rfl, hB9⟩
    go_wp2_with fail
    go_ret
    exact ⟨rfl, law_end (HK6.out.ext (by (try show Below _ _ _); repeat (with_reducible first | exact Below.refl _ _ | assumption | exact Hid.out (by assumption) | refine ext_alloc ?_ | refine ext_drewN ?_ | refine ext_drew ?_ | refine ext_setCell ?_ (Nat.le_refl _) | refine ext_setCell ?_ (Nat.le_succ _) | refine ext_trans ?_ (by assumption) | (refine ext_setCell ?_ (by simp)) | (refine ext_setCell ?_ (by simp at *; omega)))))⟩
  | some c =>
    have HCL := Lib.hid hcl
    clear hcl
    go_wp2_with (go_at_call 13; refine (price_some HCL.out (HTA3.out.below (ext_alloc (Below.refl _ _))) HL.out hl2 talk (by omega) (by omega)).mono ?_; rintro e w4 ⟨rfl, hB4⟩)
    have e4 : ∀ j, w4.cell? ⟨w3.heap.size, j, none⟩ = (w3.alloc (.cells #[.slice ta tn tc, .int .i64 free, .slice ta2 tn2 tc2] 29)).cell? ⟨w3.heap.size, j, none⟩ := fun j => hB4.cell (p := ⟨w3.heap.size, j, none⟩) (by simp)
    have c40 : w4.cell? ⟨w3.heap.size, 0, none⟩ = some (.slice ta tn tc) := by rw [e4]; go_simp
    have c41 : w4.cell? ⟨w3.heap.size, 1, none⟩ = some (.int .i64 free) := by rw [e4]; go_simp
    have c42 : w4.cell? ⟨w3.heap.size, 2, none⟩ = some (.slice ta2 tn2 tc2) := by rw [e4]; go_simp
    have hW4 : Below w3.heap.size w3 w4 := (by (try show Below _ _ _); repeat (with_reducible first | exact Below.refl _ _ | assumption | exact Hid.out (by assumption) | refine ext_alloc ?_ | refine ext_drewN ?_ | refine ext_drew ?_ | refine ext_setCell ?_ (Nat.le_refl _) | refine ext_setCell ?_ (Nat.le_succ _) | refine ext_trans ?_ (by assumption) | (refine ext_setCell ?_ (by simp)) | (refine ext_setCell ?_ (by simp at *; omega))))
    have HS4 := Lib.hid (HS3.out.below hW4)
    have HTA4 := Lib.hid (HTA3.out.below hW4)
    have HK4 := Lib.hid (HK3.out.ext hW4)
    have z4 : w3.heap.size + 1 ≤ w4.heap.size := by have := hB4.size; simp at this; omega
    clear e4 hB4 hW4
    go_region_held3 (fun w' => w'.cell? ⟨w3.heap.size, 0, none⟩ = some (.slice ta tn tc) ∧ w'.cell? ⟨w3.heap.size, 1, none⟩ = some (.int .i64 free) ∧ w'.cell? ⟨w3.heap.size, 2, none⟩ = some (.slice ta2 tn2 tc2))
      (first
        | exact ⟨(hB6.cell (p := ⟨w3.heap.size, 0, none⟩) y5).trans d50, (hB6.cell (p := ⟨w3.heap.size, 1, none⟩) y5).trans d51, (hB6.cell (p := ⟨w3.heap.size, 2, none⟩) y5).trans d52⟩
        | exact ⟨d50, d51, d52⟩
        | exact ⟨c40, c41, c42⟩)
      (first
        | (go_at_call 12; refine (range_any w.heap.size 42 0 100000 _ (HS4.out.below (ext_drew (Below.refl _ _))) (by omega) (by omega) (by omega) (by omega)).mono ?_; rintro e w5 ⟨more, rfl, m0, m1, hst5, hkp5⟩; have z5 : w4.heap.size ≤ w5.heap.size := hkp5.size; have d50 := (hkp5.cell (p := ⟨w3.heap.size, 0, none⟩) (by show w3.heap.size < w4.heap.size; omega) (by show w3.heap.size ≠ w.heap.size; omega)).trans c40; have d51 := (hkp5.cell (p := ⟨w3.heap.size, 1, none⟩) (by show w3.heap.size < w4.heap.size; omega) (by show w3.heap.size ≠ w.heap.size; omega)).trans c41; have d52 := (hkp5.cell (p := ⟨w3.heap.size, 2, none⟩) (by show w3.heap.size < w4.heap.size; omega) (by show w3.heap.size ≠ w.heap.size; omega)).trans c42; have y5 : w3.heap.size < w5.heap.size := (by omega); have b0 : 0 ≤ talk + more := (by omega); have b1 : talk + more ≤ 86400000 := (by omega); have hwr : IntKind.i64.wrap (talk + more) = talk + more := IntWalk.i64_in _ (by omega))
        | (go_at_call 13; refine (price_some HCL.out (HTA4.out.keeps (Keeps.trans (by exact Keeps.of_below (ext_drew (Below.refl _ _))) hkp5) HB1.out HB2.out) HL.out hl2 (talk + more) b0 b1).mono ?_; rintro e w6 ⟨rfl, hB6⟩))
    clear hwr
    have hk5 : Keeps w.heap.size w4 w5 := Keeps.trans (by exact Keeps.of_below (ext_drew (Below.refl _ _))) hkp5
    have HTA6 := Lib.hid ((HTA4.out.keeps hk5 HB1.out HB2.out).below hB6)
    have HK6 := Lib.hid ((HK4.out.trans hk5).ext hB6)
    have c60 := (hB6.cell (p := ⟨w3.heap.size, 0, none⟩) (by show w3.heap.size < _; omega)).trans ((hk5.cell (p := ⟨w3.heap.size, 0, none⟩) (by show w3.heap.size < _; omega) (by show w3.heap.size ≠ w.heap.size; omega)).trans c40)
    have c61 := (hB6.cell (p := ⟨w3.heap.size, 1, none⟩) (by show w3.heap.size < _; omega)).trans ((hk5.cell (p := ⟨w3.heap.size, 1, none⟩) (by show w3.heap.size < _; omega) (by show w3.heap.size ≠ w.heap.size; omega)).trans c41)
    have c62 := (hB6.cell (p := ⟨w3.heap.size, 2, none⟩) (by show w3.heap.size < _; omega)).trans ((hk5.cell (p := ⟨w3.heap.size, 2, none⟩) (by show w3.heap.size < _; omega) (by show w3.heap.size ≠ w.heap.size; omega)).trans c42)
    have z6 : w5.heap.size ≤ w6.heap.size := hB6.size
    clear hB6 hkp5 hst5 hk5 c40 c41 c42
    try clear hHeld
    go_wp2_with fail
    refine (class_some HCL.out HTA6.out HL.out hl2).mono ?_
    rintro e w7 ⟨rfl, hB7⟩
    have HT7 : Hid (TabAt w7) := (HT.out.below (ext_alloc (Below.refl _ _))).keeps (HK6.out.ext hB7) (by have := HT.out.1; omega)
    have HK7 := Lib.hid (HK6.out.ext hB7)
    have HTA7 := Lib.hid (HTA6.out.below hB7)
    have c70 := (hB7.cell (p := ⟨w3.heap.size, 0, none⟩) (by show w3.heap.size < w6.heap.size; omega)).trans c60
    have hC : w7.heap.size < (w7.alloc (.cells #[.string ⟨c.pre.toArray⟩, .string ⟨c.name.toArray⟩, .int .i64 c.setup, .int .i64 c.first, .int .i64 c.step, .int .i64 c.rate] 37)).heap.size := by simp
    have z7 : w6.heap.size ≤ w7.heap.size := hB7.size
    have hmon : Hid (priceI c talk ≤ priceI c (talk + more)) := price_mono (HTA7.out.mem (clsOf_mem HCL.out)) k0 (by omega)
    clear hB7 c60 c61 c62
    have y7 : w3.heap.size < w7.heap.size := by omega
    go_wp2_with fail
    go_loopw [67] (fun i wr => ∃ k : Nat, k ≤ tn ∧ i = .int .i64 k ∧ Hid (Below (w7.alloc (.cells #[.string ⟨c.pre.toArray⟩, .string ⟨c.name.toArray⟩, .int .i64 c.setup, .int .i64 c.first, .int .i64 c.step, .int .i64 c.rate] 37)).heap.size (w7.alloc (.cells #[.string ⟨c.pre.toArray⟩, .string ⟨c.name.toArray⟩, .int .i64 c.setup, .int .i64 c.first, .int .i64 c.step, .int .i64 c.rate] 37)) wr)) (fun i _ => tn - (intOf i).toNat)
    case atStart => exact ⟨0, Nat.zero_le _, rfl, Below.refl _ _⟩
    case round =>
      obtain ⟨k, hk, rfl, HB⟩ := hrel
      have hbw : Below w7.heap.size w7 wr := ext_trans (ext_alloc (Below.refl _ _)) HB.out
      have z8 : w7.heap.size + 1 ≤ wr.heap.size := by have := HB.out.size; simp at this; omega
      by_cases hlt : k < tn
      · obtain ⟨hrl, hr200, hrow⟩ := HTA7.out.row
        rcases hrow with h0 | ⟨b, off, rfl, hb, hc⟩
        · omega
        obtain ⟨c0, c1, c2, c3, c4, c5⟩ := cls_cells (w := wr) (fun j hj => (hbw.cell (p := ⟨b, off + k * 6 + j, none⟩) hb).trans (hc k hlt j hj))
        have cp : wr.cell? ⟨w7.heap.size, 0, none⟩ = some (.string ⟨c.pre.toArray⟩) := (HB.out.cell (p := ⟨w7.heap.size, 0, none⟩) (by simp)).trans (by simp)
        have zb : b < wr.heap.size := by omega
        have zc : w7.heap.size < wr.heap.size := by omega
        have hxm : cs.getD k noCls ∈ cs := by
          rw [show cs.getD k noCls = cs[k]'(by omega) by simp [show k < cs.length by omega]]; exact List.getElem_mem _
        have HLO := Lib.hid (fun h1 h2 => longest (x := cs.getD k noCls) HCL.out hxm h1 h2)
        clear hc hrl hxm
        generalize cs.getD k noCls = x at c0 c1 c2 c3 c4 c5 HLO
        by_cases hle : x.pre.length ≤ l.length
        · by_cases hpe : l.take x.pre.length = x.pre
          · have hno := HLO.out hle hpe
            have hbe : (((⟨l.toArray⟩ : ByteArray).extract 0 x.pre.length).toList == x.pre) = true := by rw [take_beq, hpe]; simp
            have hnd : decide (c.pre.length < x.pre.length) = false := by simpa using hno
            go_wp2_with fail
            go_quiet (fail)
            go_wp2_with fail
            go_roundw
            case rel => exact ⟨k + 1, by omega, by go_num, (by (try show Below _ _ _); repeat (with_reducible first | exact Below.refl _ _ | assumption | exact Hid.out (by assumption) | refine ext_alloc ?_ | refine ext_drewN ?_ | refine ext_drew ?_ | refine ext_setCell ?_ (Nat.le_refl _) | refine ext_setCell ?_ (Nat.le_succ _) | refine ext_trans ?_ (by assumption) | (refine ext_setCell ?_ (by simp)) | (refine ext_setCell ?_ (by simp at *; omega))))⟩
            case measure => simp [intOf]; omega
          · have hbe : (((⟨l.toArray⟩ : ByteArray).extract 0 x.pre.length).toList == x.pre) = false := by rw [take_beq]; simpa using hpe
            go_wp2_with fail
            go_quiet (fail)
            go_wp2_with fail
            go_roundw
            case rel => exact ⟨k + 1, by omega, by go_num, (by (try show Below _ _ _); repeat (with_reducible first | exact Below.refl _ _ | assumption | exact Hid.out (by assumption) | refine ext_alloc ?_ | refine ext_drewN ?_ | refine ext_drew ?_ | refine ext_setCell ?_ (Nat.le_refl _) | refine ext_setCell ?_ (Nat.le_succ _) | refine ext_trans ?_ (by assumption) | (refine ext_setCell ?_ (by simp)) | (refine ext_setCell ?_ (by simp at *; omega))))⟩
            case measure => simp [intOf]; omega
        · have hlf : decide (x.pre.length ≤ l.length) = false := by simpa using hle
          go_wp2_with fail
          go_quiet (fail)
          go_wp2_with fail
          go_roundw
          case rel => exact ⟨k + 1, by omega, by go_num, (by (try show Below _ _ _); repeat (with_reducible first | exact Below.refl _ _ | assumption | exact Hid.out (by assumption) | refine ext_alloc ?_ | refine ext_drewN ?_ | refine ext_drew ?_ | refine ext_setCell ?_ (Nat.le_refl _) | refine ext_setCell ?_ (Nat.le_succ _) | refine ext_trans ?_ (by assumption) | (refine ext_setCell ?_ (by simp)) | (refine ext_setCell ?_ (by simp at *; omega))))⟩
          case measure => simp [intOf]; omega
      · have hm := hmon.out
        go_wp2_with fail
        refine (ready_true _ (HT7.out.below hbw)).mono ?_
        rintro e w9 ⟨rfl, hB9⟩
        go_wp2_with fail
        go_ret
        exact ⟨rfl, law_end (HK7.out.ext (by (try show Below _ _ _); repeat (with_reducible first | exact Below.refl _ _ | assumption | exact Hid.out (by assumption) | refine ext_alloc ?_ | refine ext_drewN ?_ | refine ext_drew ?_ | refine ext_setCell ?_ (Nat.le_refl _) | refine ext_setCell ?_ (Nat.le_succ _) | refine ext_trans ?_ (by assumption) | (refine ext_setCell ?_ (by simp)) | (refine ext_setCell ?_ (by simp at *; omega)))))⟩
end Go.Proofs.YtlllckclfpdhgaaDoor
