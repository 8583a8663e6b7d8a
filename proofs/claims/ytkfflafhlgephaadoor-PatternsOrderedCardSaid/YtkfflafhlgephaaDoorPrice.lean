/- What is proved here: what account.Price and account.ClassOf answer at a tariff that is right. Condition: the tariff lies in memory as stated. -/
import Derived.Test.YtkfflafhlgephaaDoorClassOf
namespace Go.Proofs.YtkfflafhlgephaaDoor
open Go.RowKit
set_option linter.unusedVariables false

/-- A tariff that is right, in memory. -/
structure TariffAt (w : World) (a : Option Addr) (n : Nat) (cs : List Cls) (free : Int) (a2 : Option Addr) (n2 : Nat) (ss : List (List UInt8)) : Prop where
  row : ClsRow w a n cs
  good : ∀ i, i < n → GoodCls (cs.getD i noCls)
  sorted : Sorted cs
  ins : StrRow w a2 n2 ss
  keys : ∀ i, i < n2 → isKeyB (ss.getD i []) = true ∧ (ss.getD i []).length ≤ 1000
  order : ∀ i, 0 < i → i < n2 → leS (ss.getD i []) (ss.getD (i - 1) []) = false
  free0 : 0 ≤ free
  free1 : free ≤ 2592000000

theorem TariffAt.below {w w' : World} {a : Option Addr} {n : Nat} {cs : List Cls} {free : Int} {a2 : Option Addr} {n2 : Nat} {ss : List (List UInt8)} (h : TariffAt w a n cs free a2 n2 ss) (hb : Below w.heap.size w w') : TariffAt w' a n cs free a2 n2 ss :=
  ⟨h.row.below hb, h.good, h.sorted, h.ins.below hb, h.keys, h.order, h.free0, h.free1⟩

theorem checkTariff_at {w : World} {a : Option Addr} {n cap : Nat} {cs : List Cls} {free : Int} {a2 : Option Addr} {n2 cap2 : Nat} {ss : List (List UInt8)} (h : TariffAt w a n cs free a2 n2 ss) :
    Calls Tryd.prog 71 #[.agg #[.slice a n cap, .int .i64 free, .slice a2 n2 cap2]] w fun e w' => e = .returned (.int .i64 0) ∧ Below w.heap.size w w' :=
  checkTariff_ok w a n cap cs free a2 n2 cap2 ss h.row h.good (fun i h0 hi => h.sorted i h0 (by rw [← h.row.1]; exact hi)) h.ins h.keys h.order h.free0 h.free1

theorem TariffAt.mem {w : World} {a : Option Addr} {n : Nat} {cs : List Cls} {free : Int} {a2 : Option Addr} {n2 : Nat} {ss : List (List UInt8)} (h : TariffAt w a n cs free a2 n2 ss) {c : Cls} (hc : c ∈ cs) : GoodCls c := by
  obtain ⟨j, hj, rfl⟩ := List.getElem_of_mem hc
  have := h.good j (by rw [h.row.1]; exact hj)
  simpa [List.getD_eq_getElem?_getD, List.getElem?_eq_getElem hj] using this

def PricePost (cs : List Cls) (l : List UInt8) (talk : Int) (w : World) (e : Ending) (w' : World) : Prop :=
  Below w.heap.size w w' ∧ e = .returned (.tuple #[.int .i64 (match clsOf cs l with | some c => priceI c talk | none => 0), .int .i64 (match clsOf cs l with | some _ => 0 | none => 8)])

set_option maxHeartbeats 1000000 in
theorem price_at {w : World} {a : Option Addr} {n cap : Nat} {cs : List Cls} {free : Int} {a2 : Option Addr} {n2 cap2 : Nat} {ss : List (List UInt8)} (h : TariffAt w a n cs free a2 n2 ss) (l : List UInt8) (hl : isNumB l = true) (hl2 : l.length ≤ 1000) (talk : Int) (t0 : 0 ≤ talk) (t1 : talk ≤ 86400000) :
    Calls Tryd.prog 36 #[.agg #[.slice a n cap, .int .i64 free, .slice a2 n2 cap2], .string ⟨l.toArray⟩, .int .i64 talk] w (PricePost cs l talk w) := by
  have H := Lib.hid h
  clear h
  go_enter Tryd.func36, Tryd.ntmps36
  go_wp2_with fail
  refine (checkTariff_at (H.out.below (ext_alloc (Below.refl _ _)))).mono ?_
  rintro e w1 ⟨rfl, hB1⟩
  obtain ⟨q1, -⟩ := bcell hB1
  go_wp2_with fail
  refine (isNumber_any _ _ (by show l.length ≤ _; omega)).mono ?_
  rw [show isNumB (⟨l.toArray⟩ : ByteArray).data.toList = true from hl]
  rintro e w2 ⟨rfl, hB2⟩
  obtain ⟨q2, -⟩ := bcell hB2
  have z0 : w.heap.size < w1.heap.size := by have := hB1.size; simp at this; omega
  clear hl
  have hw2 : Below w.heap.size w w2 := (by (try show Below _ _ _); repeat (with_reducible first | exact Below.refl _ _ | assumption | exact Hid.out (by assumption) | refine ext_alloc ?_ | refine ext_drewN ?_ | refine ext_drew ?_ | refine ext_setCell ?_ (Nat.le_refl _) | refine ext_setCell ?_ (Nat.le_succ _) | refine ext_trans ?_ (by assumption) | (refine ext_setCell ?_ (by simp)) | (refine ext_setCell ?_ (by simp at *; omega))))
  go_wp2_with (go_at_call 73; refine (within_a _ _ _ _ (by omega) (by omega)).mono ?_; rintro e w' ⟨rfl, rfl⟩)
  refine (classOf_any _ _ _ _ cs _ _ l (H.out.row.below hw2) H.out.sorted hl2).mono ?_
  rintro e w3 ⟨hB3, ⟨c, hc, rfl, hcl⟩ | ⟨rfl, hcl⟩⟩
  · have hfin : Hid (PricePost cs l talk w = fun e w' => Below w.heap.size w w' ∧ e = .returned (.tuple #[.int .i64 (priceI c talk), .int .i64 0])) := by
      funext e w'; simp only [PricePost, hcl]
    have g := H.out.mem hc
    have G := Lib.hid g
    clear g hcl
    go_wp2_with fail
    refine (price_any c talk _ G.out t0 t1).mono ?_
    rintro e w4 ⟨rfl, hB4⟩
    go_wp2_with fail
    go_ret2
    rw [hfin.out]
    exact ⟨(by (try show Below _ _ _); repeat (with_reducible first | exact Below.refl _ _ | assumption | exact Hid.out (by assumption) | refine ext_alloc ?_ | refine ext_drewN ?_ | refine ext_drew ?_ | refine ext_setCell ?_ (Nat.le_refl _) | refine ext_setCell ?_ (Nat.le_succ _) | refine ext_trans ?_ (by assumption) | (refine ext_setCell ?_ (by simp)) | (refine ext_setCell ?_ (by simp at *; omega)))), rfl⟩
  · have hfin : Hid (PricePost cs l talk w = fun e w' => Below w.heap.size w w' ∧ e = .returned (.tuple #[.int .i64 0, .int .i64 8])) := by
      funext e w'; simp only [PricePost, hcl]
    clear hcl
    go_wp2_with fail
    go_ret2
    rw [hfin.out]
    exact ⟨(by (try show Below _ _ _); repeat (with_reducible first | exact Below.refl _ _ | assumption | exact Hid.out (by assumption) | refine ext_alloc ?_ | refine ext_drewN ?_ | refine ext_drew ?_ | refine ext_setCell ?_ (Nat.le_refl _) | refine ext_setCell ?_ (Nat.le_succ _) | refine ext_trans ?_ (by assumption) | (refine ext_setCell ?_ (by simp)) | (refine ext_setCell ?_ (by simp at *; omega)))), rfl⟩
end Go.Proofs.YtkfflafhlgephaaDoor
