/- What is proved here: what dialplan.Turns answers at right hours. Condition: the hours lie in memory as stated. -/
import Derived.Test.YtkfflafhlgephaaDoorHourTurns
set_option linter.unusedVariables false
set_option linter.unusedSimpArgs false
namespace Go.Proofs.YtkfflafhlgephaaDoor
open Go.RowKit

theorem own_base {w : World} {base base' : Nat} {e : TypeId} {size : Nat} {v : Value} {n : Nat} {xs : List Value} (h : w.ownsRow base e size v n xs) (hb : base' ≤ base) : w.ownsRow base' e size v n xs := by
  refine ⟨h.1, h.2.imp id ?_⟩
  rintro ⟨g, cap, cur, h1, h2, h3⟩
  exact ⟨g, cap, cur, h1, Nat.le_trans hb h2, h3⟩

set_option maxRecDepth 100000 in
theorem checkWindow_ok (w : World) (F T : Int) (h0 : 0 ≤ F) (h1 : F ≤ T) (h2 : T ≤ 345686400000) (h3 : T - F ≤ 34560000000) :
    Calls Tryd.prog 30 #[.agg #[.int .i64 F, .int .i64 T]] w fun e w' => e = .returned (.int .i64 0) ∧ Below w.heap.size w w' := by
  have q0 : decide (F < 0) = false := decide_eq_false (by omega)
  have q1 : decide (T < F) = false := decide_eq_false (by omega)
  have q2 : decide (345686400000 < T) = false := decide_eq_false (by omega)
  go_enter Tryd.func30, Tryd.ntmps30
  go_wp2
  go_ret
  exact ⟨rfl, (by (try show Below _ _ _); repeat (with_reducible first | exact Below.refl _ _ | assumption | exact Hid.out (by assumption) | refine ext_alloc ?_ | refine ext_drewN ?_ | refine ext_drew ?_ | refine ext_setCell ?_ (Nat.le_refl _) | refine ext_setCell ?_ (Nat.le_succ _) | refine ext_trans ?_ (by assumption) | (refine ext_setCell ?_ (by simp)) | (refine ext_setCell ?_ (by simp at *; omega))))⟩

def TurnPost (P : Int → Bool) (F T : Int) (w : World) (e : Ending) (w' : World) : Prop :=
  ∃ (v : Value) (xs : List Int) (at_ : Int) (was : Bool), e = .returned (.tuple #[v, .int .i64 0]) ∧ w'.ownsRow w.heap.size 3 1 v xs.length (xs.map (Value.int .i64)) ∧ TurnInv P F at_ was xs ∧ T ≤ at_ ∧ (∀ x ∈ xs, x < T) ∧ (xs.length : Int) ≤ at_ - F ∧ at_ ≤ T + 60000 ∧ Below w.heap.size w w'

set_option maxRecDepth 100000 in
set_option maxHeartbeats 4000000 in
theorem turns_any (w : World) (key : List UInt8) (zone : Int) (ra ha : Option Addr) (rn rc hn hc : Nat) (rows hols : List Tri) (F T : Int) (hkey : isKeyB key = true) (hkl : key.length ≤ 1000) (hr : TriRow w ra rn rows) (hh : TriRow w ha hn hols) (hok : HoursOk zone rows hols) (h0 : 0 ≤ F) (h1 : F ≤ T) (h2 : T ≤ 345686400000) (h3 : T - F ≤ 34560000000) :
    Calls Tryd.prog 8 #[hoursVal key zone ra rn rc ha hn hc, .agg #[.int .i64 F, .int .i64 T]] w (TurnPost (openI zone rows hols) F T w) := by
  obtain ⟨i0, hi, hz0, hz1, hz2⟩ := info_parts Tryd.infoInt
  have HR := Lib.hid hr
  have HH := Lib.hid hh
  have HOK := Lib.hid hok
  have HKEY := Lib.hid hkey
  clear hr hh hok hkey
  unfold hoursVal
  go_enter Tryd.func8, Tryd.ntmps8
  go_wp2_with fail
  refine (checkHours_one _ (w.heap.size + 2) key zone ra ha rn rc hn hc rows hols (by simp) (by go_simp) (by go_simp) (by go_simp) (by go_simp) HKEY.out hkl (HR.out.below (ext_alloc (ext_alloc (ext_alloc (Below.refl _ _))))) (HH.out.below (ext_alloc (ext_alloc (ext_alloc (Below.refl _ _))))) HOK.out).mono ?_
  rintro e w1 ⟨rfl, hB1⟩
  have HA1 : Hid (Below ((w.alloc (.cells #[.string ⟨key.toArray⟩, .int .i64 zone, .slice ra rn rc, .slice ha hn hc] 29)).alloc (.cells #[.int .i64 F, .int .i64 T] 34)).heap.size ((w.alloc (.cells #[.string ⟨key.toArray⟩, .int .i64 zone, .slice ra rn rc, .slice ha hn hc] 29)).alloc (.cells #[.int .i64 F, .int .i64 T] 34)) w1) := ext_trans (ext_alloc (Below.refl _ _)) hB1
  have k0 := (hB1.cell (p := ⟨w.heap.size + 1, 0, none⟩) (by simp)).trans (show _ = some (.int .i64 F) by go_simp)
  have k1 := (hB1.cell (p := ⟨w.heap.size + 1, 1, none⟩) (by simp)).trans (show _ = some (.int .i64 T) by go_simp)
  clear hB1
  go_wp2_with fail
  refine (checkWindow_ok _ F T h0 h1 h2 h3).mono ?_
  rintro e w2 ⟨rfl, hB2⟩
  have HA2 : Hid (Below ((w.alloc (.cells #[.string ⟨key.toArray⟩, .int .i64 zone, .slice ra rn rc, .slice ha hn hc] 29)).alloc (.cells #[.int .i64 F, .int .i64 T] 34)).heap.size ((w.alloc (.cells #[.string ⟨key.toArray⟩, .int .i64 zone, .slice ra rn rc, .slice ha hn hc] 29)).alloc (.cells #[.int .i64 F, .int .i64 T] 34)) w2) := ext_trans HA1.out hB2
  clear hB2 k0 k1
  have k0 := (HA2.out.cell (p := ⟨w.heap.size + 1, 0, none⟩) (by simp)).trans (show _ = some (.int .i64 F) by go_simp)
  go_wp2_with fail
  go_loopw [8, 9, 10] (fun v wv av wr => ∃ (xs : List Int) (was : Bool) (at_ : Int), wv = .bool was ∧ av = .int .i64 at_ ∧ Hid (TurnInv (openI zone rows hols) F at_ was xs) ∧ Hid (∀ x ∈ xs, x < T) ∧ (xs.length : Int) ≤ at_ - F ∧ at_ ≤ T + 60000 ∧ Hid (wr.ownsRow (w.heap.size + 2) 3 1 v xs.length (xs.map (Value.int .i64))) ∧ Hid (Below ((w.alloc (.cells #[.string ⟨key.toArray⟩, .int .i64 zone, .slice ra rn rc, .slice ha hn hc] 29)).alloc (.cells #[.int .i64 F, .int .i64 T] 34)).heap.size ((w.alloc (.cells #[.string ⟨key.toArray⟩, .int .i64 zone, .slice ra rn rc, .slice ha hn hc] 29)).alloc (.cells #[.int .i64 F, .int .i64 T] 34)) wr)) (fun _ _ av _ => (T + 60000 - intOf av).toNat)
  case atStart => exact ⟨[], false, F, rfl, rfl, TurnInv.start _ _, (fun x hx => by cases hx), by simp, by omega, World.ownsRow_nil _ _ _ _, HA2⟩
  case round =>
    obtain ⟨xs, was, at_, rfl, rfl, HI, HLT, hlen, hat, HO, HB⟩ := hrel
    have k1 := (HB.out.cell (p := ⟨w.heap.size + 1, 1, none⟩) (by simp)).trans (show _ = some (.int .i64 T) by go_simp)
    have g0 := (HB.out.cell (p := ⟨w.heap.size, 0, none⟩) (by simp; omega)).trans (show _ = some (.string ⟨key.toArray⟩) by go_simp)
    have g1 := (HB.out.cell (p := ⟨w.heap.size, 1, none⟩) (by simp; omega)).trans (show _ = some (.int .i64 zone) by go_simp)
    have g2 := (HB.out.cell (p := ⟨w.heap.size, 2, none⟩) (by simp; omega)).trans (show _ = some (.slice ra rn rc) by go_simp)
    have g3 := (HB.out.cell (p := ⟨w.heap.size, 3, none⟩) (by simp; omega)).trans (show _ = some (.slice ha hn hc) by go_simp)
    have hsz := HB.out.size
    have HBW : Hid (Below w.heap.size w wr) := ext_trans (ext_alloc (ext_alloc (Below.refl _ _))) HB.out
    have hge := HI.out.ge
    by_cases hlt : at_ < T
    · go_wp2_with fail
      refine (isOpen_any _ key zone ra ha rn rc hn hc rows hols at_ (HR.out.below HBW.out) (HH.out.below HBW.out) HOK.out (by omega) (by omega)).mono ?_
      rintro e w5 ⟨rfl, hB5⟩
      have HB5 := Lib.hid (HB.out.trans (hB5.mono hsz))
      have HO5 := Lib.hid (HO.out.kept_below hB5)
      have hs5 := hB5.size
      have HKEEP : Hid (openI zone rows hols at_ = was → TurnInv (openI zone rows hols) F (at_ + (60000 - at_ % 60000)) was xs) := fun e => HI.out.keep (open_minute zone rows hols) h0 e
      have HTURN : Hid (openI zone rows hols at_ ≠ was → TurnInv (openI zone rows hols) F (at_ + (60000 - at_ % 60000)) (openI zone rows hols at_) (xs ++ [at_])) := fun e => HI.out.turn (open_minute zone rows hols) h0 e
      have hml : Hid (xs.length + 1 ≤ maxLen) := by show _ ≤ _; unfold maxLen; omega
      clear hB5
      generalize openI zone rows hols at_ = is at HKEEP HTURN
      by_cases he : is = was
      · have HN := Lib.hid (HKEEP.out he)
        subst he
        go_wp2_with fail
        go_roundw
        case rel => exact ⟨xs, is, _, rfl, rfl, HN, HLT, by omega, by omega, HO5, HB5⟩
        case measure => simp [intOf]; omega
      · have HN := Lib.hid (HTURN.out he)
        have hbb : (is = true ∧ was = false) ∨ (is = false ∧ was = true) := by cases is <;> cases was <;> simp_all
        clear he HKEEP HTURN
        rcases hbb with ⟨rfl, rfl⟩ | ⟨rfl, rfl⟩
        · skip
          go_wp2_with (at_builtin; refine wpList_append_own _ rfl (.tmp 35) (.tmp 37) 22 rfl (w.heap.size + 2) 3 i0 (.int .i64 0) 1 8 Tryd.underlying22 hi hz0 hz1 hz2 rfl (by decide) _ xs.length (xs.map (Value.int .i64)) rfl (HO5.out.alloc _) ⟨w5.heap.size, 0, none⟩ 1 1 [.int .i64 at_] rfl rfl (news_one (by go_simp)) (by simp [Value.oneCell']) hml.out (by omega) (by simp at hsz ⊢; omega) ?_; intro v6 w6 hown6 hgr6 _)
          have hB6 : Below ((w.alloc (.cells #[.string ⟨key.toArray⟩, .int .i64 zone, .slice ra rn rc, .slice ha hn hc] 29)).alloc (.cells #[.int .i64 F, .int .i64 T] 34)).heap.size ((w.alloc (.cells #[.string ⟨key.toArray⟩, .int .i64 zone, .slice ra rn rc, .slice ha hn hc] 29)).alloc (.cells #[.int .i64 F, .int .i64 T] 34)) w6 := HB5.out.trans (upto_grown hgr6 (by simp at hsz ⊢; omega) (fun b e => by have := (HO5.out.lt b e).1; simp; omega))
          have hlt6 : ∀ x ∈ xs ++ [at_], x < T := fun x hx => by
            rcases List.mem_append.1 hx with hx | hx
            · exact HLT.out x hx
            · simp at hx; omega
          go_roundw
          case rel => exact ⟨xs ++ [at_], true, _, rfl, rfl, HN, hlt6, by simp; omega, by omega, (by show World.ownsRow _ _ _ _ _ _ _; rw [List.map_append, List.length_append]; exact hown6), hB6⟩
          case measure => simp [intOf]; omega
        · skip
          go_wp2_with (at_builtin; refine wpList_append_own _ rfl (.tmp 35) (.tmp 37) 22 rfl (w.heap.size + 2) 3 i0 (.int .i64 0) 1 8 Tryd.underlying22 hi hz0 hz1 hz2 rfl (by decide) _ xs.length (xs.map (Value.int .i64)) rfl (HO5.out.alloc _) ⟨w5.heap.size, 0, none⟩ 1 1 [.int .i64 at_] rfl rfl (news_one (by go_simp)) (by simp [Value.oneCell']) hml.out (by omega) (by simp at hsz ⊢; omega) ?_; intro v6 w6 hown6 hgr6 _)
          have hB6 : Below ((w.alloc (.cells #[.string ⟨key.toArray⟩, .int .i64 zone, .slice ra rn rc, .slice ha hn hc] 29)).alloc (.cells #[.int .i64 F, .int .i64 T] 34)).heap.size ((w.alloc (.cells #[.string ⟨key.toArray⟩, .int .i64 zone, .slice ra rn rc, .slice ha hn hc] 29)).alloc (.cells #[.int .i64 F, .int .i64 T] 34)) w6 := HB5.out.trans (upto_grown hgr6 (by simp at hsz ⊢; omega) (fun b e => by have := (HO5.out.lt b e).1; simp; omega))
          have hlt6 : ∀ x ∈ xs ++ [at_], x < T := fun x hx => by
            rcases List.mem_append.1 hx with hx | hx
            · exact HLT.out x hx
            · simp at hx; omega
          go_roundw
          case rel => exact ⟨xs ++ [at_], false, _, rfl, rfl, HN, hlt6, by simp; omega, by omega, (by show World.ownsRow _ _ _ _ _ _ _; rw [List.map_append, List.length_append]; exact hown6), hB6⟩
          case measure => simp [intOf]; omega
    · have hfin : Hid (wr.ownsRow w.heap.size 3 1 u8 xs.length (xs.map (Value.int .i64))) := own_base HO.out (by omega)
      go_wp2_with fail
      go_ret2
      exact ⟨_, xs, at_, was, rfl, hfin.out, HI.out, by omega, HLT.out, hlen, hat, HBW.out⟩
end Go.Proofs.YtkfflafhlgephaaDoor
