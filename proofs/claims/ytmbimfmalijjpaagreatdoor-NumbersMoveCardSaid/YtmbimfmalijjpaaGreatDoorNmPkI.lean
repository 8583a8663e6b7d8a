/- What is proved here: lemmas and contracts for the statement, put together out of smaller texts (PortAt, RngFault, PortFlt). No condition beyond those stated. -/
import Derived.Test.YtmbimfmalijjpaaGreatDoorNmPkH
import Derived.Test.YtmbimfmalijjpaaGreatDoorNmPkE
import Derived.Test.YtmbimfmalijjpaaGreatDoorNmPkF
set_option linter.unusedVariables false
set_option linter.unusedSimpArgs false
namespace Go.Proofs.YtmbimfmalijjpaaGreatDoor
open Go.RowKit Go.Shelf

attribute [local go_sem] Oper.semAt_some

/-- The error of CarrierAt; the carrier. -/
def carE (os : List Own) (ps : List Prt) (n : List UInt8) (t : Int) : Int := if portsErr os ps ≠ 0 then portsErr os ps else if isNumB n = false then 3 else if isMomB t = false then 1 else 0
def carX (os : List Own) (ps : List Prt) (n : List UInt8) (t : Int) : Option (List UInt8) := if carE os ps n t = 0 then carV os ps n t else none
def CarPost (os : List Own) (ps : List Prt) (n : List UInt8) (t : Int) (w : World) (e : Ending) (w' : World) : Prop :=
  e = .returned (.tuple #[.string ⟨((carX os ps n t).getD []).toArray⟩, .bool (carX os ps n t).isSome, .int .i64 (carE os ps n t)]) ∧ Below w.heap.size w w'
/-- The boxes of the call: the number, the moment, the three results. -/
def Five (G : Nat) (n : List UInt8) (t : Int) (x : List UInt8) (b : Bool) (e : Int) (W : World) : Prop :=
  W.cell? ⟨G, 0, none⟩ = some (.string ⟨n.toArray⟩) ∧ W.cell? ⟨G + 1, 0, none⟩ = some (.int .i64 t) ∧ W.cell? ⟨G + 1 + 1, 0, none⟩ = some (.string ⟨x.toArray⟩) ∧ W.cell? ⟨G + 1 + 1 + 1, 0, none⟩ = some (.bool b) ∧ W.cell? ⟨G + 1 + 1 + 1 + 1, 0, none⟩ = some (.int .i64 e) ∧
  W.frozen? ⟨G + 1 + 1, 0, none⟩ = false ∧ W.frozen? ⟨G + 1 + 1 + 1, 0, none⟩ = false ∧ W.frozen? ⟨G + 1 + 1 + 1 + 1, 0, none⟩ = false
theorem Five.below {G : Nat} {n : List UInt8} {t : Int} {x : List UInt8} {b : Bool} {e : Int} {W W' : World} (h : Five G n t x b e W) (hb : Below W.heap.size W W') (hG : G + 1 + 1 + 1 + 1 < W.heap.size) : Five G n t x b e W' := by
  obtain ⟨h0, h1, h2, h3, h4, f2, f3, f4⟩ := h
  obtain ⟨qc, qf⟩ := bcell hb
  exact ⟨(qc _ _ (by omega)).trans h0, (qc _ _ (by omega)).trans h1, (qc _ _ (by omega)).trans h2, (qc _ _ (by omega)).trans h3, (qc _ _ (by omega)).trans h4, (qf _ _ (by omega)).trans f2, (qf _ _ (by omega)).trans f3, (qf _ _ (by omega)).trans f4⟩

theorem Five.store {G : Nat} {n : List UInt8} {t : Int} {x : List UInt8} {b : Bool} {e : Int} {W : World} (h : Five G n t x b e W) (x' : List UInt8) (b' : Bool) (e' : Int) :
    Five G n t x' b' e' (((W.setCell ⟨G + 1 + 1, 0, none⟩ (.string ⟨x'.toArray⟩)).setCell ⟨G + 1 + 1 + 1, 0, none⟩ (.bool b')).setCell ⟨G + 1 + 1 + 1 + 1, 0, none⟩ (.int .i64 e')) := by
  obtain ⟨h0, h1, h2, h3, h4, f2, f3, f4⟩ := h
  refine ⟨?_, ?_, ?_, ?_, ?_, ?_, ?_, ?_⟩
  · rw [World.cell?_setCell_other _ _ _ _ (by simp), World.cell?_setCell_other _ _ _ _ (by simp), World.cell?_setCell_other _ _ _ _ (by simp)]; exact h0
  · rw [World.cell?_setCell_other _ _ _ _ (by simp), World.cell?_setCell_other _ _ _ _ (by simp), World.cell?_setCell_other _ _ _ _ (by simp)]; exact h1
  · rw [World.cell?_setCell_other _ _ _ _ (by simp), World.cell?_setCell_other _ _ _ _ (by simp)]; exact World.cell?_setCell_same _ _ _ h2
  · rw [World.cell?_setCell_other _ _ _ _ (by simp)]; exact World.cell?_setCell_same _ _ _ (by rw [World.cell?_setCell_other _ _ _ _ (by simp)]; exact h3)
  · exact World.cell?_setCell_same _ _ _ (by rw [World.cell?_setCell_other _ _ _ _ (by simp), World.cell?_setCell_other _ _ _ _ (by simp)]; exact h4)
  · simpa using f2
  · simpa using f3
  · simpa using f4
theorem Five.own {G : Nat} {n : List UInt8} {t : Int} {x : List UInt8} {b : Bool} {e : Int} {A B : World} {row : Option Nat} (h : Five G n t x b e A) (hg : A.grownBy B row) (hr : ∀ r, row = some r → ∃ o : Obj, A.heap[r]? = some o ∧ o.isCells = false) : Five G n t x b e B := by
  obtain ⟨h0, h1, h2, h3, h4, f2, f3, f4⟩ := h
  exact ⟨cell_kept h0 hg hr, cell_kept h1 hg hr, cell_kept h2 hg hr, cell_kept h3 hg hr, cell_kept h4 hg hr, (frozen_kept h2 hg hr).trans f2, (frozen_kept h3 hg hr).trans f3, (frozen_kept h4 hg hr).trans f4⟩
theorem Five.lt {G : Nat} {n : List UInt8} {t : Int} {x : List UInt8} {b : Bool} {e : Int} {W : World} (h : Five G n t x b e W) : G + 4 < W.heap.size := by
  obtain ⟨h0, h1, h2, h3, h4, -⟩ := h
  rcases Nat.lt_or_ge (G + 4) W.heap.size with h | h
  · exact h
  · simp [World.cell?, Array.getElem?_eq_none (show W.heap.size ≤ G + 1 + 1 + 1 + 1 by omega)] at h4
def NoHit (n : List UInt8) (t : Int) (pre : List (Int × Prt)) : Prop := ∀ p ∈ pre, ¬ (p.2.n = n ∧ p.2.at_ ≤ t)
def HitAt (G : Nat) (n : List UInt8) (t : Int) (pre : List (Int × Prt)) (W : World) : Prop := ∃ ini last, pre = ini ++ [last] ∧ NoHit n t ini ∧ (last.2.n = n ∧ last.2.at_ ≤ t) ∧ Five G n t last.2.c true 0 W
/-- A port in a block of its own. -/
def PBox (W : World) (B : Nat) (p : Prt) : Prop := W.cell? ⟨B, 0, none⟩ = some (.string ⟨p.n.toArray⟩) ∧ W.cell? ⟨B, 1, none⟩ = some (.int .i64 p.at_) ∧ W.cell? ⟨B, 2, none⟩ = some (.string ⟨p.c.toArray⟩)
theorem PBox.own {B : Nat} {p : Prt} {X Y : World} {row : Option Nat} (h : PBox X B p) (hg : X.grownBy Y row) (hr : ∀ r, row = some r → ∃ o : Obj, X.heap[r]? = some o ∧ o.isCells = false) : PBox Y B p :=
  ⟨cell_kept h.1 hg hr, cell_kept h.2.1 hg hr, cell_kept h.2.2 hg hr⟩
theorem pbox_new (W : World) (p : Prt) : PBox (W.alloc (.cells #[.string ⟨p.n.toArray⟩, .int .i64 p.at_, .string ⟨p.c.toArray⟩] 76)) W.heap.size p := ⟨by go_simp, by go_simp, by go_simp⟩
theorem three_below {w W : World} (h : Below w.heap.size w W) (x : Value) (b : Value) (e : Value) : Below w.heap.size w (((W.setCell ⟨w.heap.size + 1 + 1, 0, none⟩ x).setCell ⟨w.heap.size + 1 + 1 + 1, 0, none⟩ b).setCell ⟨w.heap.size + 1 + 1 + 1 + 1, 0, none⟩ e) :=
  ((h.setCell (p := ⟨w.heap.size + 1 + 1, 0, none⟩) (show w.heap.size ≤ w.heap.size + 1 + 1 by omega) x).setCell (p := ⟨w.heap.size + 1 + 1 + 1, 0, none⟩) (show w.heap.size ≤ w.heap.size + 1 + 1 + 1 by omega) b).setCell (p := ⟨w.heap.size + 1 + 1 + 1 + 1, 0, none⟩) (show w.heap.size ≤ w.heap.size + 1 + 1 + 1 + 1 by omega) e

set_option maxRecDepth 100000 in
set_option maxHeartbeats 4000000 in
theorem carrierAt_in (w : World) (a : Option Addr) (m cap : Nat) (os : List Own) (ho : OwnRow w a m os) (hcap : m ≤ cap) (a2 : Option Addr) (m2 cap2 : Nat) (ps : List Prt) (hp : PrtRow w a2 m2 ps) (hcap2 : m2 ≤ cap2) (n : List UInt8) (hnl : n.length ≤ 100) (t : Int) :
    CallsIn Fence.wide 6 Tryz.prog 10 #[.slice a m cap, .slice a2 m2 cap2, .string ⟨n.toArray⟩, .int .i64 t] w (CarPost os ps n t w) := by
  have HO := Lib.hid ho
  have HP := Lib.hid hp
  have HLEN := Lib.hid hp.len
  have HOK : Hid (portsErr os ps = 0 → OwnsOk os) := fun h => owns_ok (ports_parts h).1
  have HE : Hid (carE os ps n t = if portsErr os ps ≠ 0 then portsErr os ps else if isNumB n = false then 3 else if isMomB t = false then 1 else 0) := rfl
  have HX : Hid (carX os ps n t = if carE os ps n t = 0 then carV os ps n t else none) := rfl
  have HEND : Hid (∀ w' E X, E = carE os ps n t → X = carX os ps n t → Below w.heap.size w w' → CarPost os ps n t w (.returned (.tuple #[.string ⟨(X.getD []).toArray⟩, .bool X.isSome, .int .i64 E])) w') := by
    rintro w' E X rfl rfl h
    exact ⟨rfl, h⟩
  have HNIL : Hid (∀ w' E, E = carE os ps n t → E ≠ 0 → Below w.heap.size w w' → CarPost os ps n t w (.returned (.tuple #[.string ⟨#[]⟩, .bool false, .int .i64 E])) w') := by
    rintro w' E rfl hE h
    have hX : none = carX os ps n t := by unfold carX; rw [if_neg hE]
    exact HEND.out w' _ none rfl hX h
  clear ho hp
  refine callsIn_of_wp_marks Tryz.func10 rfl trivial ?_ rfl
  simp only [Tryz.ntmps10, List.size_toArray, List.length_cons, List.length_nil, Nat.reduceAdd, Nat.reduceSub, Array.replicate_succ, Array.replicate_zero, List.push_toArray, List.append_toArray, List.nil_append, List.cons_append]
  refine wpIn_wide.2 ?_
  go_wp2_with fail
  have HF0 : Hid (Five w.heap.size n t [] false 0 (((((w.alloc (.cells #[.string ⟨n.toArray⟩] 9)).alloc (.cells #[.int .i64 t] 3)).alloc (.cells #[.string ⟨#[]⟩] 9)).alloc (.cells #[.bool false] 4)).alloc (.cells #[.int .i64 0] 32))) := by
    refine ⟨by go_simp, by go_simp, by go_simp, by go_simp, by go_simp, by go_simp, by go_simp, by go_simp⟩
  have HB0 : Hid (Below w.heap.size w (((((w.alloc (.cells #[.string ⟨n.toArray⟩] 9)).alloc (.cells #[.int .i64 t] 3)).alloc (.cells #[.string ⟨#[]⟩] 9)).alloc (.cells #[.bool false] 4)).alloc (.cells #[.int .i64 0] 32))) := (by (try show Below _ _ _); repeat (with_reducible first | exact Below.refl _ _ | assumption | exact Hid.out (by assumption) | refine ext_alloc ?_ | refine ext_drewN ?_ | refine ext_drew ?_ | refine ext_setCell ?_ (Nat.le_refl _) | refine ext_setCell ?_ (Nat.le_succ _) | refine ext_trans ?_ (by assumption) | (refine ext_setCell ?_ (by simp)) | (refine ext_setCell ?_ (by simp at *; omega))))
  have hz0 : (((((w.alloc (.cells #[.string ⟨n.toArray⟩] 9)).alloc (.cells #[.int .i64 t] 3)).alloc (.cells #[.string ⟨#[]⟩] 9)).alloc (.cells #[.bool false] 4)).alloc (.cells #[.int .i64 0] 32)).heap.size = w.heap.size + 5 := by simp
  generalize ((((w.alloc (.cells #[.string ⟨n.toArray⟩] 9)).alloc (.cells #[.int .i64 t] 3)).alloc (.cells #[.string ⟨#[]⟩] 9)).alloc (.cells #[.bool false] 4)).alloc (.cells #[.int .i64 0] 32) = w0 at HF0 HB0 hz0 ⊢
  refine (checkPorts_any _ a m cap os (HO.out.below HB0.out) hcap a2 m2 cap2 ps (HP.out.below HB0.out) hcap2).mono ?_
  rintro e w1 ⟨rfl, hb1⟩
  have HB1 := Lib.hid (ext_trans HB0.out hb1)
  have HF1 := Lib.hid (HF0.out.below hb1 (by omega))
  have hz1 : w.heap.size + 5 ≤ w1.heap.size := by have := hb1.size; omega
  clear hb1 hz0 HB0 HF0
  generalize portsErr os ps = F at HE HOK ⊢
  by_cases hF : F = 0
  case neg =>
    have hE : F = carE os ps n t := by rw [HE.out, if_pos hF]
    have hFb : (F == 0) = false := by simpa using hF
    obtain ⟨k0, k1, k2, k3, k4, f2, f3, f4⟩ := HF1.out
    have HNE := Lib.hid (fun w' => HNIL.out w' F hE hF)
    clear HE HX hE hF HOK
    as_aux_lemma =>
      go_wp2_with fail
      obtain ⟨-, -, r2, r3, r4, -⟩ := HF1.out.store [] false F
      have hbe := three_below HB1.out (.string ⟨#[]⟩) (.bool false) (.int .i64 F)
      refine ⟨_, ?_, HNE.out _ hbe⟩
      simp [results, Tryz.f10, go_sem, r2, r3, r4]
  subst hF
  have HOK2 := Lib.hid (HOK.out rfl)
  clear HOK
  have HE1 : Hid (carE os ps n t = if isNumB n = false then 3 else if isMomB t = false then 1 else 0) := by show _ = _; rw [HE.out, if_neg (by simp)]
  obtain ⟨k0, k1, k2, k3, k4, f2, f3, f4⟩ := HF1.out
  clear HE
  have HF1b : Hid (Five w.heap.size n t [] false 0 w1) := HF1.out
  clear HF1
  as_aux_lemma =>
    go_wp2_with fail
    refine (isNumber_l n _ (by omega)).mono ?_
    rintro e w2 ⟨rfl, hb2⟩
    have HB2 := Lib.hid (ext_trans HB1.out hb2)
    have HF2 := Lib.hid (HF1b.out.below hb2 (by omega))
    have hz2 : w.heap.size + 5 ≤ w2.heap.size := by have := hb2.size; omega
    clear hb2 hz1 HB1 HF1b k0 k1 k2 k3 k4 f2 f3 f4
    obtain ⟨k0, k1, k2, k3, k4, f2, f3, f4⟩ := HF2.out
    have HNUM : Hid (isNumB n = true → isNumB n = true) := fun h => h
    generalize hg1 : isNumB n = g1 at HE1 HNUM ⊢
    have HG1 := Lib.hid hg1
    clear hg1
    cases g1
    · have hE : 3 = carE os ps n t := by rw [HE1.out, if_pos rfl]
      have HNE := Lib.hid (fun w' => HNIL.out w' 3 hE (by decide))
      clear HE1 HX hE HNUM
      as_aux_lemma =>
        go_wp2_with fail
        obtain ⟨-, -, r2, r3, r4, -⟩ := HF2.out.store [] false 3
        have hbe := three_below HB2.out (.string ⟨#[]⟩) (.bool false) (.int .i64 3)
        refine ⟨_, ?_, HNE.out _ hbe⟩
        simp [results, Tryz.f10, go_sem, r2, r3, r4]
    have HE2 : Hid (carE os ps n t = if isMomB t = false then 1 else 0) := by show _ = _; rw [HE1.out, if_neg (by decide)]
    clear HE1 HNUM
    as_aux_lemma =>
      go_wp2_with fail
      refine (isMoment_any t _).mono ?_
      rintro e w3 ⟨rfl, hw3⟩
      subst hw3
      generalize isMomB t = g2 at HE2 ⊢
      cases g2
      · have hE : 1 = carE os ps n t := by rw [HE2.out, if_pos rfl]
        have HNE := Lib.hid (fun w' => HNIL.out w' 1 hE (by decide))
        clear HE2 HX hE
        as_aux_lemma =>
          go_wp2_with fail
          obtain ⟨-, -, r2, r3, r4, -⟩ := HF2.out.store [] false 1
          have hbe := three_below HB2.out (.string ⟨#[]⟩) (.bool false) (.int .i64 1)
          refine ⟨_, ?_, HNE.out _ hbe⟩
          simp [results, Tryz.f10, go_sem, r2, r3, r4]
      have HE3 : Hid (0 = carE os ps n t) := by show _ = _; rw [HE2.out, if_neg (by decide)]
      have HX3 : Hid (carV os ps n t = carX os ps n t) := by show _ = _; rw [HX.out, ← HE3.out, if_pos rfl]
      clear HE2 HX HNIL
      as_aux_lemma =>
        go_wp2_with fail
        refine ((callsIn_wide (n := 5)).1 (back_in 5 a2 m2 cap2 _)).mono ?_
        rintro e w4 ⟨rfl, rfl⟩
        have HF4 : Hid (Five w.heap.size n t [] false 0 (w2.alloc (.cells #[.slice a2 m2 cap2] 27))) := HF2.out.below (ext_alloc (Below.refl _ _)) (by omega)
        have HB4 : Hid (Below w.heap.size w (w2.alloc (.cells #[.slice a2 m2 cap2] 27))) := ext_alloc HB2.out
        have hBs : w2.heap.size < (w2.alloc (.cells #[.slice a2 m2 cap2] 27)).heap.size := by simp
        have hB0 : (w2.alloc (.cells #[.slice a2 m2 cap2] 27)).cell? ⟨w2.heap.size, 0, none⟩ = some (.slice a2 m2 cap2) := by go_simp
        generalize w2.alloc (.cells #[.slice a2 m2 cap2] 27) = W0 at HF4 HB4 hBs hB0 ⊢
        generalize w2.heap.size = Bs at hz2 hBs hB0 ⊢
        clear HF2 HB2 k0 k1 k2 k3 k4 f2 f3 f4
        as_aux_lemma =>
          go_wp2_with fail
          refine (wpIn_wide (n := 6)).1 ?_
          have hz4 : w.heap.size + 5 ≤ W0.heap.size := by omega
          refine wpIn_rangeFunc_ownH (F := Fence.wide) (n := 6) rfl (by decide) (gf := 95) (lb := #[.pointer (some ⟨Bs, 0, none⟩)]) rfl trivial (enters_of Tryz.func95 (by kernel_rfl) rfl)
            (back_stops 5 (by decide) Bs a2 m2 cap2 ps hcap2 W0 hBs hB0 (HP.out.below HB4.out)) belowK_t (belowK_b (Nat.le_refl _)) (Below.refl _ _) (fun _ => rfl)
            (fun pre W => (NoHit n t pre ∧ Five w.heap.size n t [] false 0 W) ∧ Below W0.heap.size W0 W)
            (fun c pre W => (c = .ret ∧ HitAt w.heap.size n t pre W) ∧ Below w.heap.size w W)
            (OwnFrom.and (Own.from (fun s A B row hs hg hr => ⟨hs.1, hs.2.own hg hr⟩) _) (ownFrom_below (Nat.le_refl _) (Nat.le_refl _)))
            (fun c => OwnFrom.and (Own.from (fun s A B row hs hg hr => by obtain ⟨hc, ini, last, e1, e2, e3, e4⟩ := hs; exact ⟨hc, ini, last, e1, e2, e3, e4.own hg hr⟩) _) (ownFrom_below (Nat.le_refl _) (by omega)))
            ⟨⟨(fun p hp => by cases hp), HF4.out⟩, Below.refl _ _⟩
            (fun x a' W => ∃ Bx, w.heap.size + 4 < Bx ∧ PBox W Bx x.2 ∧ a' = { tmps := #[.slice a m cap, .slice a2 m2 cap2, .string ⟨n.toArray⟩, .int .i64 t, undef, undef, .pointer (some ⟨w.heap.size, 0, none⟩), .pointer (some ⟨w.heap.size + 1, 0, none⟩), .pointer (some ⟨w.heap.size + 1 + 1, 0, none⟩), .pointer (some ⟨w.heap.size + 1 + 1 + 1, 0, none⟩), .pointer (some ⟨w.heap.size + 1 + 1 + 1 + 1, 0, none⟩), .int .i64 0, undef, .pointer (some ⟨Bx, 0, none⟩), undef, undef, .slice a m cap, .slice a2 m2 cap2, .int .i64 0, .int .i64 0, .bool false, undef, .string ⟨n.toArray⟩, .bool true, .bool false, .int .i64 t, .bool true, .bool false, .slice a2 m2 cap2, .func (.func 95) #[] #[.pointer (some ⟨Bs, 0, none⟩)], .int .i64 x.1, .agg #[.string ⟨x.2.n.toArray⟩, .int .i64 x.2.at_, .string ⟨x.2.c.toArray⟩], undef, undef, undef, undef, undef, undef, undef, undef, undef, undef, undef, undef, undef, undef, undef, undef, undef, undef, undef, undef], defers := [] })
            (fun x a' _ X Y row hs hg hr => by obtain ⟨Bx, h1, h2, h3⟩ := hs; exact ⟨Bx, h1, h2.own hg (fun r e => (hr r e).2), h3⟩)
            ?assign ?body ?done ?stop
          case assign =>
            rintro l pre ⟨xi, xn, xa, xc⟩ W K ⟨⟨hp1, hf1⟩, hB1⟩ hK
            dsimp only [Prt.cells] at hK ⊢
            have hW1 : w.heap.size + 4 < W.heap.size := hf1.lt
            gi_wp2
            exact hK _ _ ((KeepsOthers.alloc _ _).from _) ((Below.refl _ W).alloc hB1.size _) ⟨⟨hp1, hf1.below (ext_alloc (Below.refl _ _)) (by omega)⟩, hB1.alloc hB1.size _⟩ ⟨W.heap.size, hW1, pbox_new W ⟨xn, xa, xc⟩, rfl⟩
          case body =>
            rintro l pre x a' W hl ⟨r, hr⟩ ⟨⟨hp1, hf1⟩, hB1⟩ ⟨Bx, hBx, ⟨b0, b1, b2⟩, rfl⟩ hlt
            obtain ⟨k0, k1, k2, k3, k4, f2, f3, f4⟩ := hf1
            have hf1 : Five w.heap.size n t [] false 0 W := ⟨k0, k1, k2, k3, k4, f2, f3, f4⟩
            obtain ⟨xi, xn, xa, xc⟩ := x
            simp only at b0 b1 b2 ⊢
            by_cases hm : xn = n ∧ xa ≤ t
            · obtain ⟨rfl, hat⟩ := hm
              gi_wp2
              exact ⟨((KeepsOthers.setCell _ _ _).trans ((KeepsOthers.setCell _ _ _).trans (KeepsOthers.setCell _ _ _))).from _, ⟨rfl, pre, (xi, Prt.mk xn xa xc), rfl, hp1, ⟨rfl, hat⟩, hf1.store xc true 0⟩, three_below (ext_trans HB4.out hB1) _ _ _⟩
            · have hend : NoHit n t (pre ++ [(xi, Prt.mk xn xa xc)]) := fun p hp' => (List.mem_append.1 hp').elim (hp1 p) (fun h => by rw [List.mem_singleton.1 h]; exact hm)
              have HGO := Lib.hid (show KeepsFrom W0.heap.size W W ∧ Below W0.heap.size W W ∧ ((NoHit n t (pre ++ [(xi, Prt.mk xn xa xc)]) ∧ Five w.heap.size n t [] false 0 W) ∧ Below W0.heap.size W0 W) from ⟨KeepsFrom.refl _ _, Below.refl _ _, ⟨⟨hend, hf1⟩, hB1⟩⟩)
              clear hend hp1 HE3 HX3 HEND
              by_cases hn : xn = n
              · have hat : ¬ xa ≤ t := fun h => hm ⟨hn, h⟩
                subst hn
                clear hm
                gi_wp2
                exact HGO.out
              · have hnb : (xn == n) = false := beq_eq_false_iff_ne.2 hn
                clear hm hn
                gi_wp2
                exact HGO.out
          case done =>
            rintro D ys W hD rfl ⟨⟨hne, hf⟩, hB⟩ hK
            have HFW := Lib.hid hf
            have HBW := Lib.hid (ext_trans HB4.out hB)
            have HK9 := Lib.hid hK
            have HC : Hid (carV os ps n t = ownC os n) := by
              have hl := HLEN.out
              subst hl
              exact car_none hne
            clear hne hf hB hK HB4 HF4
            obtain ⟨k0, k1, k2, k3, k4, f2, f3, f4⟩ := HFW.out
            as_aux_lemma =>
              go_wp2_with fail
              refine (owner_any _ a m cap os (HO.out.below HBW.out) hcap HOK2.out n HG1.out).mono ?_
              rintro e w6 ⟨rfl, hb6⟩
              have HF6 := Lib.hid (HFW.out.below hb6 HFW.out.lt)
              have HB6 := Lib.hid (ext_trans HBW.out hb6)
              have HK6 : Hid (w6.heap[D]? = some (.deferred (some []))) := (hb6.block D (Array.getElem?_eq_some_iff.1 HK9.out).1).trans HK9.out
              clear hb6 HFW HBW HK9 k0 k1 k2 k3 k4 f2 f3 f4
              obtain ⟨k0, k1, k2, k3, k4, f2, f3, f4⟩ := HF6.out
              rw [← HC.out, HX3.out]
              generalize carX os ps n t = X at HEND ⊢
              as_aux_lemma =>
                go_wp2_with fail
                have HF9 := Lib.hid (HF6.out.store (X.getD []) X.isSome 0)
                have HB9 := Lib.hid (three_below HB6.out (.string ⟨(X.getD []).toArray⟩) (.bool X.isSome) (.int .i64 0))
                have hK9 := (((KeepsOthers.setCell w6 ⟨w.heap.size + 1 + 1, 0, none⟩ (.string ⟨(X.getD []).toArray⟩)).trans ((KeepsOthers.setCell _ ⟨w.heap.size + 1 + 1 + 1, 0, none⟩ (.bool X.isSome)).trans (KeepsOthers.setCell _ ⟨w.heap.size + 1 + 1 + 1 + 1, 0, none⟩ (.int .i64 0))))).same D _ HK6.out rfl
                generalize ((w6.setCell ⟨w.heap.size + 1 + 1, 0, none⟩ (.string ⟨(X.getD []).toArray⟩)).setCell ⟨w.heap.size + 1 + 1 + 1, 0, none⟩ (.bool X.isSome)).setCell ⟨w.heap.size + 1 + 1 + 1 + 1, 0, none⟩ (.int .i64 0) = W9 at HF9 HB9 hK9 ⊢
                refine ⟨by simp, .inl ⟨_, _, rfl, run_takeDeferred hK9, ?_⟩⟩
                obtain ⟨-, -, r2, r3, r4, -⟩ := HF9.out.own (grownBy_putObj' _ D (.deferred none)) (fun r e => by cases e; exact ⟨_, hK9, rfl⟩)
                refine ⟨_, ?_, HEND.out _ 0 X HE3.out rfl (HB9.out.trans (belowK_b (w := w) (Nat.le_refl _) _ D _ _ (by omega) hK9 rfl rfl))⟩
                simp [results, Tryz.f10, go_sem, r2, r3, r4]
          case stop =>
            rintro D c pre W hD ⟨k, hk, rfl⟩ ⟨⟨rfl, ini, last, e1, e2, e3, hf⟩, hB⟩ hK
            obtain ⟨k', rfl⟩ : ∃ k', k = k' + 1 := by
              cases k with
              | zero => simp [backs] at e1
              | succ k' => exact ⟨k', rfl⟩
            rw [backs_succ] at e1
            obtain ⟨rfl, e5⟩ := List.append_inj' e1 rfl
            obtain rfl : ((m2 : Int) - 1 - k', ps.getD (m2 - 1 - k') noPrt) = last := by simpa using e5
            have HC : Hid (carV os ps n t = some (ps.getD (m2 - 1 - k') noPrt).c) := by
              have hl := HLEN.out
              subst hl
              exact car_back (by omega) e2 e3
            simp only at hf
            have HX9 : Hid (some (ps.getD (m2 - 1 - k') noPrt).c = carX os ps n t) := by show _ = _; rw [← HC.out, HX3.out]
            have HF9 := Lib.hid hf
            clear e1 e2 e3 e5 hf HC
            generalize (ps.getD (m2 - 1 - k') noPrt).c = xc at HX9 HF9
            gi_wp2
            refine ⟨by simp, .inl ⟨_, _, rfl, run_takeDeferred hK, ?_⟩⟩
            obtain ⟨-, -, r2, r3, r4, -⟩ := HF9.out.own (grownBy_putObj' _ D (.deferred none)) (fun r e => by cases e; exact ⟨_, hK, rfl⟩)
            refine ⟨_, ?_, HEND.out _ 0 (some xc) HE3.out HX9.out (hB.trans (belowK_b (w := w) (Nat.le_refl _) _ D _ _ (by omega) hK rfl rfl))⟩
            simp [results, Tryz.f10, go_sem, r2, r3, r4]
theorem carrierAt_any (w : World) (a : Option Addr) (m cap : Nat) (os : List Own) (ho : OwnRow w a m os) (hcap : m ≤ cap) (a2 : Option Addr) (m2 cap2 : Nat) (ps : List Prt) (hp : PrtRow w a2 m2 ps) (hcap2 : m2 ≤ cap2) (n : List UInt8) (hnl : n.length ≤ 100) (t : Int) :
    Calls Tryz.prog 10 #[.slice a m cap, .slice a2 m2 cap2, .string ⟨n.toArray⟩, .int .i64 t] w (CarPost os ps n t w) := (callsIn_wide (n := 6)).1 (carrierAt_in w a m cap os ho hcap a2 m2 cap2 ps hp hcap2 n hnl t)
end Go.Proofs.YtmbimfmalijjpaaGreatDoor

set_option linter.unusedVariables false
set_option linter.unusedSimpArgs false
namespace Go.Proofs.YtmbimfmalijjpaaGreatDoor
open Go.RowKit

/-- How far apart ranges have to be. -/
def apartT (touch : Bool) : Int := if touch then 0 else 1
theorem apartT_nn (touch : Bool) : 0 ≤ apartT touch := by cases touch <;> decide
set_option maxRecDepth 100000 in
set_option maxHeartbeats 4000000 in
theorem rangesFault_any (w : World) (a : Option Addr) (n cap : Nat) (l : List Rng) (hr : RngRow w a n l) (hcap : n ≤ cap) (touch : Bool) : Calls Tryz.prog 24 #[.slice a n cap, .bool touch] w (ErrPost (rngsErr (apartT touch) l) w) := by
  have HR := Lib.hid hr
  have hfew := hr.few
  have HLEN := Lib.hid hr.len
  have HEA := Lib.hid hr.each
  have HBIG : Hid (1000 < n → rngsErr (apartT touch) l = 2) := fun h => by unfold rngsErr; rw [if_pos (by rw [← HLEN.out]; exact h)]
  have HAT : Hid (n ≤ 1000 → (∀ k, k < n → (∀ j, j < k → rngErr (apartT touch) l j = 0) → rngErr (apartT touch) l k ≠ 0 → rngsErr (apartT touch) l = rngErr (apartT touch) l k) ∧ ((∀ j, j < n → rngErr (apartT touch) l j = 0) → rngsErr (apartT touch) l = 0)) := fun h => by rw [HLEN.out] at h ⊢; exact rngs_at h
  generalize rngsErr (apartT touch) l = R at HBIG HAT ⊢
  clear hr
  go_enter Tryz.func24, Tryz.ntmps24
  by_cases hbig : 1000 < n
  · obtain rfl : R = 2 := HBIG.out hbig
    have hbI : (1000 : Int) < n := by omega
    clear HBIG HAT
    go_wp2_with fail
    go_ret
    exact ⟨rfl, Below.refl _ _⟩
  have HAT2 := Lib.hid (HAT.out (by omega))
  have hbI : ¬ (1000 : Int) < n := by omega
  have hn1000 : n ≤ 1000 := by omega
  clear HAT HBIG hbig
  go_wp2_with fail
  clear hbI
  go_loopw [13] (fun it wr => ∃ k : Nat, k ≤ n ∧ it = .int .i64 k ∧ Hid (∀ j, j < k → rngErr (apartT touch) l j = 0) ∧ Hid (Below w.heap.size w wr)) (fun it _ => n - (intOf it).toNat)
  case atStart => exact ⟨0, Nat.zero_le _, rfl, fun j hj => by omega, Below.refl _ _⟩
  case round =>
    obtain ⟨k, hk, rfl, HZ, HB⟩ := hrel
    by_cases hlt : k < n
    · obtain ⟨b, off, rfl, hb, hc⟩ := HR.out.at (by omega)
      have HC := Lib.hid hc
      obtain ⟨g0, g1⟩ := hc k hlt
      have c0 := (HB.out.cell (p := ⟨b, off + k * 2, none⟩) hb).trans g0
      have c1 := (HB.out.cell (p := ⟨b, off + k * 2 + 1, none⟩) hb).trans g1
      obtain ⟨hfl, htl⟩ := HEA.out k (by have := HLEN.out; omega)
      have HER : Hid (rngErr (apartT touch) l k = if isNumB (l.getD k noRng).f = false ∨ isNumB (l.getD k noRng).t = false ∨ (l.getD k noRng).f.length ≠ (l.getD k noRng).t.length ∨ Op.bytesLess (l.getD k noRng).t (l.getD k noRng).f = true then 3
        else if k = 0 then 0
        else if ¬ ((l.getD (k - 1) noRng).f.length < (l.getD k noRng).f.length ∨ (l.getD (k - 1) noRng).f.length = (l.getD k noRng).f.length ∧ numV (l.getD (k - 1) noRng).f < numV (l.getD k noRng).f) then 7
        else if (l.getD (k - 1) noRng).f.length = (l.getD k noRng).f.length ∧ numV (l.getD k noRng).f ≤ numV (l.getD (k - 1) noRng).t + apartT touch then 13
        else 0) := rfl
      have HSTOP := Lib.hid (HAT2.out.1 k hlt HZ.out)
      have HNEXT : Hid (rngErr (apartT touch) l k = 0 → ∀ j, j < k + 1 → rngErr (apartT touch) l j = 0) := fun h j hj => by
        rcases Nat.lt_succ_iff_lt_or_eq.1 hj with h9 | rfl
        · exact HZ.out j h9
        · exact h
      have HPREV : Hid (0 < k → isNumB (l.getD (k - 1) noRng).f = true ∧ isNumB (l.getD (k - 1) noRng).t = true) := fun h => by
        have := rng_right (HZ.out (k - 1) (by omega))
        exact ⟨this.1, this.2.1⟩
      have HCP : Hid (0 < k → w.cell? ⟨b, off + (k - 1) * 2, none⟩ = some (.string ⟨(l.getD (k - 1) noRng).f.toArray⟩) ∧ w.cell? ⟨b, off + (k - 1) * 2 + 1, none⟩ = some (.string ⟨(l.getD (k - 1) noRng).t.toArray⟩)) := fun h => HC.out (k - 1) (by omega)
      have HLP : Hid (0 < k → (l.getD (k - 1) noRng).f.length ≤ 100) := fun h => (HEA.out (k - 1) (by have := HLEN.out; omega)).1
      clear g0 g1 hc HZ HC
      generalize rngErr (apartT touch) l k = X at HER HSTOP HNEXT
      generalize l.getD k noRng = rk at c0 c1 hfl htl HER
      generalize l.getD (k - 1) noRng = rp at HER HPREV HCP HLP
      obtain ⟨f, t⟩ := rk
      obtain ⟨fp, tp⟩ := rp
      simp only at c0 c1 hfl htl HER HPREV HCP HLP
      as_aux_lemma =>
        go_wp2_with fail
        refine (form_l f _ (by omega)).mono ?_
        rintro e w2 ⟨rfl, hb2⟩
        obtain ⟨qc, qf⟩ := bcell hb2
        have hz2 : wr.heap.size < w2.heap.size := by have := hb2.size; simp at this; omega
        have e0 : w2.cell? ⟨wr.heap.size, 0, none⟩ = some (.string ⟨f.toArray⟩) := (qc _ 0 (by simp)).trans (by go_simp)
        have e1 : w2.cell? ⟨wr.heap.size, 1, none⟩ = some (.string ⟨t.toArray⟩) := (qc _ 1 (by simp)).trans (by go_simp)
        have HB2 : Hid (Below w.heap.size w w2) := ext_trans (ext_alloc HB.out) hb2
        have HTF : Hid (w.heap.size ≤ wr.heap.size) := HB.out.size
        generalize wr.heap.size = T at e0 e1 hz2 HTF ⊢
        clear qc qf hb2 c0 c1
        by_cases hnf : isNumB f = true
        case neg =>
          have hnf' : isNumB f = false := by simpa using hnf
          obtain rfl : X = 3 := by rw [HER.out, if_pos (Or.inl hnf')]
          obtain rfl : R = 3 := HSTOP.out (by decide)
          rw [hnf']
          clear HER HSTOP HNEXT hnf hnf'
          as_aux_lemma =>
            go_wp2_with fail
            go_ret
            exact ⟨rfl, HB2.out⟩
        have HNF := Lib.hid hnf
        rw [hnf]
        clear hnf
        as_aux_lemma =>
          go_wp2_with fail
          refine (form_l t _ (by omega)).mono ?_
          rintro e w3 ⟨rfl, hb3⟩
          obtain ⟨qc, qf⟩ := bcell hb3
          have f0 := (qc _ 0 hz2).trans e0
          have f1 := (qc _ 1 hz2).trans e1
          have hz3 : T < w3.heap.size := Nat.lt_of_lt_of_le hz2 hb3.size
          have HB3 := Lib.hid (ext_trans HB2.out hb3)
          clear qc qf hb3 e0 e1 hz2 HB2
          by_cases hnt : isNumB t = true
          case neg =>
            have hnt' : isNumB t = false := by simpa using hnt
            obtain rfl : X = 3 := by rw [HER.out, if_pos (Or.inr (Or.inl hnt'))]
            obtain rfl : R = 3 := HSTOP.out (by decide)
            rw [hnt']
            clear HER HSTOP HNEXT hnt hnt'
            as_aux_lemma =>
              go_wp2_with fail
              go_ret
              exact ⟨rfl, HB3.out⟩
          have HNT := Lib.hid hnt
          rw [hnt]
          clear hnt
          by_cases hll : f.length = t.length
          case neg =>
            obtain rfl : X = 3 := by rw [HER.out, if_pos (Or.inr (Or.inr (Or.inl hll)))]
            obtain rfl : R = 3 := HSTOP.out (by decide)
            have hlI : ¬ (f.length : Int) = t.length := by omega
            clear HER HSTOP HNEXT hll
            as_aux_lemma =>
              go_wp2_with fail
              go_ret
              exact ⟨rfl, HB3.out⟩
          have HLL := Lib.hid hll
          have hlI : (f.length : Int) = t.length := by omega
          by_cases hlt2 : Op.bytesLess t f = true
          case pos =>
            obtain rfl : X = 3 := by rw [HER.out, if_pos (Or.inr (Or.inr (Or.inr hlt2)))]
            obtain rfl : R = 3 := HSTOP.out (by decide)
            obtain ⟨hx1, hx2⟩ := less_asym hlt2
            have hx3 : (f == t) = false := beq_eq_false_iff_ne.2 (fun e => hx2 e.symm)
            clear HER HSTOP HNEXT hll hlt2 hx2
            as_aux_lemma =>
              go_wp2_with fail
              go_ret
              exact ⟨rfl, HB3.out⟩
          have hlt3 : Op.bytesLess t f = false := by simpa using hlt2
          have HER2 : Hid (X = if k = 0 then 0
            else if ¬ (fp.length < f.length ∨ fp.length = f.length ∧ numV fp < numV f) then 7
            else if fp.length = f.length ∧ numV f ≤ numV tp + apartT touch then 13
            else 0) := by
            show _ = _
            rw [HER.out, if_neg]
            rintro (h | h | h | h)
            · rw [HNF.out] at h; cases h
            · rw [HNT.out] at h; cases h
            · exact h hll
            · exact hlt2 h
          have HGT : Hid ((!Op.bytesLess f t && !(f == t)) = false) := by
            show _ = _
            cases h9 : (!Op.bytesLess f t && !(f == t)) with
            | false => rfl
            | true => exact absurd h9 (less_fact hlt3)
          clear HER hll hlt2 hlt3
          by_cases hk0 : k = 0
          · subst hk0
            have HX0 := Lib.hid (HNEXT.out HER2.out)
            clear HER2 HNEXT HSTOP HPREV HCP HLP
            as_aux_lemma =>
              have hgt := HGT.out
              go_wp2_with fail
              go_roundw
              case rel => exact ⟨1, by omega, by go_num, HX0.out, HB3.out⟩
              case measure => simp [intOf]; omega
          · obtain ⟨j, rfl⟩ : ∃ j, k = j + 1 := ⟨k - 1, by omega⟩
            obtain ⟨hpf, hpt⟩ := HPREV.out (by omega)
            obtain ⟨g0, g1⟩ := HCP.out (by omega)
            rw [Nat.add_sub_cancel] at g0 g1
            have p0 := (HB3.out.cell (p := ⟨b, off + j * 2, none⟩) hb).trans g0
            have p1 := (HB3.out.cell (p := ⟨b, off + j * 2 + 1, none⟩) hb).trans g1
            have hpl := HLP.out (by omega)
            have HPT := Lib.hid hpt
            have hbp2 := num_bound hpt
            have hbf := num_bound HNF.out
            have hjn : j < n := by omega
            have HER3 : Hid (X = if ¬ (fp.length < f.length ∨ fp.length = f.length ∧ Op.bytesLess fp f = true) then 7
              else if fp.length = f.length ∧ numV f ≤ numV tp + apartT touch then 13
              else 0) := by
              show _ = _
              rw [HER2.out, if_neg hk0]
              have hh : (fp.length < f.length ∨ fp.length = f.length ∧ numV fp < numV f) ↔ (fp.length < f.length ∨ fp.length = f.length ∧ Op.bytesLess fp f = true) := or_congr Iff.rfl (and_congr_right fun h => ((num_less hpf HNF.out h).1).symm)
              simp only [hh]
            have w1 : IntKind.i64.wrap (j : Int) = j := IntWalk.i64_in _ (by omega)
            have w2' : IntKind.i64.wrap ((j : Int) + 1 - 1) = j := by rw [Int.add_sub_cancel]; exact w1
            have w4' : (j : Int) < n := by omega
            have w5' : (0 : Int) ≤ (j : Int) := by omega
            clear HER2 g0 g1 HPREV HCP HLP HNT hpf hpt hk0
            as_aux_lemma =>
              have hgt := HGT.out
              go_upto_region 10 with (fail)
              clear hgt w1 w2' w4' w5'
              have hT2a : w3.heap.size < (w3.alloc (.cells #[.string ⟨fp.toArray⟩, .string ⟨tp.toArray⟩] 53)).drew.heap.size := by simp
              have hTa : T < (w3.alloc (.cells #[.string ⟨fp.toArray⟩, .string ⟨tp.toArray⟩] 53)).drew.heap.size := by simp; omega
              have g0 : (w3.alloc (.cells #[.string ⟨fp.toArray⟩, .string ⟨tp.toArray⟩] 53)).drew.cell? ⟨T, 0, none⟩ = some (.string ⟨f.toArray⟩) := (World.cell?_alloc_lt _ _ _ (by show T < _; exact hz3)).trans f0
              have g1 : (w3.alloc (.cells #[.string ⟨fp.toArray⟩, .string ⟨tp.toArray⟩] 53)).drew.cell? ⟨w3.heap.size, 0, none⟩ = some (.string ⟨fp.toArray⟩) := new_cell w3 #[.string ⟨fp.toArray⟩, .string ⟨tp.toArray⟩] 53 (0, 0) 0
              have g2 : (w3.alloc (.cells #[.string ⟨fp.toArray⟩, .string ⟨tp.toArray⟩] 53)).drew.cell? ⟨w3.heap.size, 1, none⟩ = some (.string ⟨tp.toArray⟩) := new_cell w3 #[.string ⟨fp.toArray⟩, .string ⟨tp.toArray⟩] 53 (0, 0) 1
              have HX9 : Hid (Below w.heap.size w (w3.alloc (.cells #[.string ⟨fp.toArray⟩, .string ⟨tp.toArray⟩] 53)).drew) := (ext_alloc HB3.out).drew
              have HS0 : Hid (Below (w3.alloc (.cells #[.string ⟨fp.toArray⟩, .string ⟨tp.toArray⟩] 53)).drew.heap.size (w3.alloc (.cells #[.string ⟨fp.toArray⟩, .string ⟨tp.toArray⟩] 53)).drew (w3.alloc (.cells #[.string ⟨fp.toArray⟩, .string ⟨tp.toArray⟩] 53)).drew) := Below.refl _ _
              clear p0 p1 f0 f1 HB3 hz3
              refine region_seqI (S := fun W => Below (w3.alloc (.cells #[.string ⟨fp.toArray⟩, .string ⟨tp.toArray⟩] 53)).drew.heap.size (w3.alloc (.cells #[.string ⟨fp.toArray⟩, .string ⟨tp.toArray⟩] 53)).drew W) [(true, 0), (true, 1), (true, 2), (true, 3), (true, 4), (true, 5), (true, 7), (true, 8), (true, 9), (true, 10), (false, 6), (false, 11), (false, 12), (false, 13), (true, 14)] (by kernel_rfl) (by kernel_rfl) rfl (by kernel_rfl) HS0.out ?_
              simp only [seqOps, List.getD_cons_zero, List.getD_cons_succ]
              generalize hwd : (w3.alloc (.cells #[.string ⟨fp.toArray⟩, .string ⟨tp.toArray⟩] 53)).drew = wd at HS0 HX9 g0 g1 g2 hTa hT2a ⊢
              have HWD := Lib.hid hwd
              clear hwd
              generalize w3.heap.size = T2 at g1 g2 hT2a ⊢
              have hT : T < wd.heap.size := hTa
              have hT2 : T2 < wd.heap.size := hT2a
              refine seqI_take (v := .pointer (some ⟨T2, 0, none⟩)) rfl (fun W hW => by go_simp) (fun _ _ _ h => h) ?_
              simp only [Act.put, List.setIfInBounds_toArray, List.set_cons_zero, List.set_cons_succ]
              refine seqI_take (v := .string ⟨fp.toArray⟩) rfl (fun W hW => by have m0 := (hW.cell (p := ⟨T2, 0, none⟩) hT2).trans g1; go_simp) (fun _ _ _ h => h) ?_
              simp only [Act.put, List.setIfInBounds_toArray, List.set_cons_zero, List.set_cons_succ]
              refine seqI_take (v := .int .i64 (fp.length : Nat)) rfl (fun W hW => by go_simp) (fun _ _ _ h => h) ?_
              simp only [Act.put, List.setIfInBounds_toArray, List.set_cons_zero, List.set_cons_succ]
              refine seqI_take (v := .pointer (some ⟨T, 0, none⟩)) rfl (fun W hW => by go_simp) (fun _ _ _ h => h) ?_
              simp only [Act.put, List.setIfInBounds_toArray, List.set_cons_zero, List.set_cons_succ]
              refine seqI_take (v := .string ⟨f.toArray⟩) rfl (fun W hW => by have m0 := (hW.cell (p := ⟨T, 0, none⟩) hT).trans g0; go_simp) (fun _ _ _ h => h) ?_
              simp only [Act.put, List.setIfInBounds_toArray, List.set_cons_zero, List.set_cons_succ]
              refine seqI_take (v := .int .i64 (f.length : Nat)) rfl (fun W hW => by go_simp) (fun _ _ _ h => h) ?_
              simp only [Act.put, List.setIfInBounds_toArray, List.set_cons_zero, List.set_cons_succ]
              refine seqI_take (v := .pointer (some ⟨T2, 0, none⟩)) rfl (fun W hW => by go_simp) (fun _ _ _ h => h) ?_
              simp only [Act.put, List.setIfInBounds_toArray, List.set_cons_zero, List.set_cons_succ]
              refine seqI_take (v := .string ⟨fp.toArray⟩) rfl (fun W hW => by have m0 := (hW.cell (p := ⟨T2, 0, none⟩) hT2).trans g1; go_simp) (fun _ _ _ h => h) ?_
              simp only [Act.put, List.setIfInBounds_toArray, List.set_cons_zero, List.set_cons_succ]
              refine seqI_take (v := .pointer (some ⟨T, 0, none⟩)) rfl (fun W hW => by go_simp) (fun _ _ _ h => h) ?_
              simp only [Act.put, List.setIfInBounds_toArray, List.set_cons_zero, List.set_cons_succ]
              refine seqI_take (v := .string ⟨f.toArray⟩) rfl (fun W hW => by have m0 := (hW.cell (p := ⟨T, 0, none⟩) hT).trans g0; go_simp) (fun _ _ _ h => h) ?_
              simp only [Act.put, List.setIfInBounds_toArray, List.set_cons_zero, List.set_cons_succ]
              refine seqI_call 53 #[.int .i64 (fp.length : Nat), .int .i64 (f.length : Nat)] rfl (by go_simp) (cmpI_any _ _ _) ?_
              rintro e w5 ⟨r1, rfl, hr1, hr2, hw5⟩
              replace hw5 := hw5.symm
              subst hw5
              refine ⟨_, rfl, HS0.out, ?_⟩
              simp only [Act.put, List.setIfInBounds_toArray, List.set_cons_zero, List.set_cons_succ]
              refine seqI_call 52 #[.string ⟨fp.toArray⟩, .string ⟨f.toArray⟩] rfl (by go_simp) (cmpB_any fp f _) ?_
              rintro e w6 ⟨r2, rfl, hr3, hr4, hw6⟩
              replace hw6 := hw6.symm
              subst hw6
              refine ⟨_, rfl, HS0.out, ?_⟩
              simp only [Act.put, List.setIfInBounds_toArray, List.set_cons_zero, List.set_cons_succ]
              have HSG := Lib.hid (first_sign hr1 hr2 hr3)
              clear hr1 hr2 hr3 hr4
              refine seqI_do rfl (wp_made (v := .slice (some ⟨wd.heap.size, 0, none⟩) 2 2) (w' := wd.alloc (.cells #[.int .i64 r1, .int .i64 r2] 3)) (by go_simp) ⟨ext_alloc HS0.out, ?_⟩)
              simp only [Act.put, List.setIfInBounds_toArray, List.set_cons_zero, List.set_cons_succ]
              refine seqI_call 51 #[.slice (some ⟨wd.heap.size, 0, none⟩) 2 2] rfl (by go_simp) (orI_any r1 r2 wd.heap.size _ (by simp) (by go_simp) (by go_simp)) ?_
              rintro e w7 ⟨rfl, hw7⟩
              subst hw7
              refine ⟨_, rfl, ext_alloc HS0.out, ?_⟩
              simp only [Act.put, List.setIfInBounds_toArray, List.set_cons_zero, List.set_cons_succ]
              generalize firstE r1 r2 = z at HSG ⊢
              by_cases hz : 0 ≤ z
              · obtain rfl : X = 7 := by
                  rw [HER3.out, if_pos]
                  intro h
                  have := HSG.out.2 (h.imp (fun h => by omega) (fun h => ⟨by omega, h.2⟩))
                  omega
                obtain rfl : R = 7 := HSTOP.out (by decide)
                refine seqI_take (v := .bool true) rfl (fun W hW => by go_simp) (fun _ _ _ h => h) ?_
                simp only [Act.put, List.setIfInBounds_toArray, List.set_cons_zero, List.set_cons_succ]
                refine seqI_nil ?_
                clear HER3 HNEXT HSG HSTOP HNF HPT
                go_wp2_with fail
                go_ret
                exact ⟨rfl, HX9.out.trans ((ext_alloc (Below.refl _ _)).mono HX9.out.size)⟩
              · have hz' : z < 0 := by omega
                have HER4 : Hid (X = if fp.length = f.length ∧ numV f ≤ numV tp + apartT touch then 13 else 0) := by
                  show _ = _
                  rw [HER3.out, if_neg]
                  intro h
                  refine h ((HSG.out.1 hz').imp (fun h => by omega) (fun h => ⟨by omega, h.2⟩))
                refine seqI_take (v := .bool false) rfl (fun W hW => by go_simp) (fun _ _ _ h => h) ?_
                simp only [Act.put, List.setIfInBounds_toArray, List.set_cons_zero, List.set_cons_succ]
                refine seqI_nil ?_
                clear HER3 HSG hz hz'
                have HX8 := Lib.hid (HX9.out.trans ((ext_alloc (o := .cells #[.int .i64 r1, .int .i64 r2] 3) (Below.refl _ _)).mono HX9.out.size))
                have j0 := (World.cell?_alloc_lt wd (.cells #[.int .i64 r1, .int .i64 r2] 3) ⟨T, 0, none⟩ hT).trans g0
                have j1 := (World.cell?_alloc_lt wd (.cells #[.int .i64 r1, .int .i64 r2] 3) ⟨T2, 0, none⟩ hT2).trans g1
                have j2 := (World.cell?_alloc_lt wd (.cells #[.int .i64 r1, .int .i64 r2] 3) ⟨T2, 1, none⟩ hT2).trans g2
                have l0 : T < (wd.alloc (.cells #[.int .i64 r1, .int .i64 r2] 3)).heap.size := by simp; omega
                have l1 : T2 < (wd.alloc (.cells #[.int .i64 r1, .int .i64 r2] 3)).heap.size := by simp; omega
                clear HX9 HS0 g0 g1 g2 hT hT2 hTa hT2a HWD
                generalize wd.alloc (.cells #[.int .i64 r1, .int .i64 r2] 3) = wb at HX8 j0 j1 j2 l0 l1 ⊢
                as_aux_lemma =>
                  go_upto_region 12 with (fail)
                  have g0 : wb.drew.cell? ⟨T, 0, none⟩ = some (.string ⟨f.toArray⟩) := j0
                  have g1 : wb.drew.cell? ⟨T2, 0, none⟩ = some (.string ⟨fp.toArray⟩) := j1
                  have g2 : wb.drew.cell? ⟨T2, 1, none⟩ = some (.string ⟨tp.toArray⟩) := j2
                  have hT : T < wb.drew.heap.size := l0
                  have hT2 : T2 < wb.drew.heap.size := l1
                  have HS0 : Hid (Below wb.drew.heap.size wb.drew wb.drew) := Below.refl _ _
                  have HX9 : Hid (∀ W, Below wb.drew.heap.size wb.drew W → Below w.heap.size w W) := fun W hW => HX8.out.drew.trans (hW.mono HX8.out.size)
                  have wv : IntKind.i64.wrap (numV tp + 1) = numV tp + 1 := IntWalk.i64_in _ (by omega)
                  clear j0 j1 j2 l0 l1 HX8
                  by_cases heq : fp.length = f.length
                  case neg =>
                    have HXZ := Lib.hid (HNEXT.out (by rw [HER4.out, if_neg (fun h => heq h.1)]))
                    have heI2 : ¬ (fp.length : Int) = t.length := by omega
                    have heI : ((fp.length : Int) == f.length) = false := beq_eq_false_iff_ne.2 (by omega)
                    refine region_seqI (S := fun W => Below wb.drew.heap.size wb.drew W) [(true, 0), (true, 1), (true, 2), (true, 3), (true, 4), (true, 5), (true, 6), (true, 7), (true, 8), (true, 9), (true, 10), (true, 11), (true, 12), (true, 13), (true, 14), (true, 15), (true, 16), (true, 17), (true, 18), (true, 19), (true, 20), (true, 21), (true, 22), (true, 23), (true, 24), (true, 25), (true, 26), (true, 27), (true, 28), (true, 29)] (by kernel_rfl) (by kernel_rfl) rfl (by kernel_rfl) HS0.out ?_
                    simp only [seqOps, List.getD_cons_zero, List.getD_cons_succ]
                    refine seqI_take (v := .pointer (some ⟨T2, 0, none⟩)) rfl (fun W hW => by go_simp) (fun _ _ _ h => h) ?_
                    simp only [Act.put, List.setIfInBounds_toArray, List.set_cons_zero, List.set_cons_succ]
                    refine seqI_take (v := .string ⟨fp.toArray⟩) rfl (fun W hW => by have m0 := (hW.cell (p := ⟨T2, 0, none⟩) hT2).trans g1; go_simp) (fun _ _ _ h => h) ?_
                    simp only [Act.put, List.setIfInBounds_toArray, List.set_cons_zero, List.set_cons_succ]
                    refine seqI_take (v := .int .i64 (fp.length : Nat)) rfl (fun W hW => by go_simp) (fun _ _ _ h => h) ?_
                    simp only [Act.put, List.setIfInBounds_toArray, List.set_cons_zero, List.set_cons_succ]
                    refine seqI_take (v := .pointer (some ⟨T, 0, none⟩)) rfl (fun W hW => by go_simp) (fun _ _ _ h => h) ?_
                    simp only [Act.put, List.setIfInBounds_toArray, List.set_cons_zero, List.set_cons_succ]
                    refine seqI_take (v := .string ⟨f.toArray⟩) rfl (fun W hW => by have m0 := (hW.cell (p := ⟨T, 0, none⟩) hT).trans g0; go_simp) (fun _ _ _ h => h) ?_
                    simp only [Act.put, List.setIfInBounds_toArray, List.set_cons_zero, List.set_cons_succ]
                    refine seqI_take (v := .int .i64 (f.length : Nat)) rfl (fun W hW => by go_simp) (fun _ _ _ h => h) ?_
                    simp only [Act.put, List.setIfInBounds_toArray, List.set_cons_zero, List.set_cons_succ]
                    refine seqI_take (v := .bool false) rfl (fun W hW => by go_simp) (fun _ _ _ h => h) ?_
                    simp only [Act.put, List.setIfInBounds_toArray, List.set_cons_zero, List.set_cons_succ]
                    refine seqI_take (v := .bool false) rfl (fun W hW => by go_simp) (fun _ _ _ h => h) ?_
                    simp only [Act.put, List.setIfInBounds_toArray, List.set_cons_zero, List.set_cons_succ]
                    refine seqI_skip rfl (fun _ _ _ h => h) ?_
                    simp only [Act.put, List.setIfInBounds_toArray, List.set_cons_zero, List.set_cons_succ]
                    refine seqI_skip rfl (fun _ _ _ h => h) ?_
                    simp only [Act.put, List.setIfInBounds_toArray, List.set_cons_zero, List.set_cons_succ]
                    refine seqI_skip rfl (fun _ _ _ h => h) ?_
                    simp only [Act.put, List.setIfInBounds_toArray, List.set_cons_zero, List.set_cons_succ]
                    refine seqI_skip rfl (fun _ _ _ h => h) ?_
                    simp only [Act.put, List.setIfInBounds_toArray, List.set_cons_zero, List.set_cons_succ]
                    refine seqI_skip rfl (fun _ _ _ h => h) ?_
                    simp only [Act.put, List.setIfInBounds_toArray, List.set_cons_zero, List.set_cons_succ]
                    refine seqI_skip rfl (fun _ _ _ h => h) ?_
                    simp only [Act.put, List.setIfInBounds_toArray, List.set_cons_zero, List.set_cons_succ]
                    refine seqI_skip rfl (fun _ _ _ h => h) ?_
                    simp only [Act.put, List.setIfInBounds_toArray, List.set_cons_zero, List.set_cons_succ]
                    refine seqI_skip rfl (fun _ _ _ h => h) ?_
                    simp only [Act.put, List.setIfInBounds_toArray, List.set_cons_zero, List.set_cons_succ]
                    refine seqI_skip rfl (fun _ _ _ h => h) ?_
                    simp only [Act.put, List.setIfInBounds_toArray, List.set_cons_zero, List.set_cons_succ]
                    refine seqI_skip rfl (fun _ _ _ h => h) ?_
                    simp only [Act.put, List.setIfInBounds_toArray, List.set_cons_zero, List.set_cons_succ]
                    refine seqI_skip rfl (fun _ _ _ h => h) ?_
                    simp only [Act.put, List.setIfInBounds_toArray, List.set_cons_zero, List.set_cons_succ]
                    refine seqI_skip rfl (fun _ _ _ h => h) ?_
                    simp only [Act.put, List.setIfInBounds_toArray, List.set_cons_zero, List.set_cons_succ]
                    refine seqI_skip rfl (fun _ _ _ h => h) ?_
                    simp only [Act.put, List.setIfInBounds_toArray, List.set_cons_zero, List.set_cons_succ]
                    refine seqI_skip rfl (fun _ _ _ h => h) ?_
                    simp only [Act.put, List.setIfInBounds_toArray, List.set_cons_zero, List.set_cons_succ]
                    refine seqI_skip rfl (fun _ _ _ h => h) ?_
                    simp only [Act.put, List.setIfInBounds_toArray, List.set_cons_zero, List.set_cons_succ]
                    refine seqI_skip rfl (fun _ _ _ h => h) ?_
                    simp only [Act.put, List.setIfInBounds_toArray, List.set_cons_zero, List.set_cons_succ]
                    refine seqI_skip rfl (fun _ _ _ h => h) ?_
                    simp only [Act.put, List.setIfInBounds_toArray, List.set_cons_zero, List.set_cons_succ]
                    refine seqI_skip rfl (fun _ _ _ h => h) ?_
                    simp only [Act.put, List.setIfInBounds_toArray, List.set_cons_zero, List.set_cons_succ]
                    refine seqI_skip rfl (fun _ _ _ h => h) ?_
                    simp only [Act.put, List.setIfInBounds_toArray, List.set_cons_zero, List.set_cons_succ]
                    refine seqI_skip rfl (fun _ _ _ h => h) ?_
                    simp only [Act.put, List.setIfInBounds_toArray, List.set_cons_zero, List.set_cons_succ]
                    refine seqI_skip rfl (fun _ _ _ h => h) ?_
                    simp only [Act.put, List.setIfInBounds_toArray, List.set_cons_zero, List.set_cons_succ]
                    refine seqI_take (v := .bool false) rfl (fun W hW => by go_simp) (fun _ _ _ h => h) ?_
                    simp only [Act.put, List.setIfInBounds_toArray, List.set_cons_zero, List.set_cons_succ]
                    refine seqI_nil ?_
                    clear HER4 HNEXT HSTOP heq HNF HPT
                    as_aux_lemma =>
                      go_wp2_with fail
                      go_roundw
                      case rel => exact ⟨j + 1 + 1, by omega, by go_num, HXZ.out, HX9.out _ HS0.out⟩
                      case measure => simp [intOf]; omega
                  have heI : (fp.length : Int) = f.length := by omega
                  by_cases hle : numV f ≤ numV tp
                  case pos =>
                    obtain rfl : X = 13 := by rw [HER4.out, if_pos ⟨heq, by have := apartT_nn touch; omega⟩]
                    obtain rfl : R = 13 := HSTOP.out (by decide)
                    refine region_seqI (S := fun W => Below wb.drew.heap.size wb.drew W) [(true, 0), (true, 1), (true, 2), (true, 3), (true, 4), (true, 5), (true, 6), (true, 7), (true, 8), (true, 9), (true, 11), (true, 12), (false, 10), (false, 13), (true, 14), (true, 15), (true, 16), (true, 17), (true, 18), (true, 19), (true, 20), (true, 21), (true, 22), (true, 23), (true, 24), (true, 25), (true, 26), (true, 27), (true, 28), (true, 29)] (by kernel_rfl) (by kernel_rfl) rfl (by kernel_rfl) HS0.out ?_
                    simp only [seqOps, List.getD_cons_zero, List.getD_cons_succ]
                    refine seqI_take (v := .pointer (some ⟨T2, 0, none⟩)) rfl (fun W hW => by go_simp) (fun _ _ _ h => h) ?_
                    simp only [Act.put, List.setIfInBounds_toArray, List.set_cons_zero, List.set_cons_succ]
                    refine seqI_take (v := .string ⟨fp.toArray⟩) rfl (fun W hW => by have m0 := (hW.cell (p := ⟨T2, 0, none⟩) hT2).trans g1; go_simp) (fun _ _ _ h => h) ?_
                    simp only [Act.put, List.setIfInBounds_toArray, List.set_cons_zero, List.set_cons_succ]
                    refine seqI_take (v := .int .i64 (fp.length : Nat)) rfl (fun W hW => by go_simp) (fun _ _ _ h => h) ?_
                    simp only [Act.put, List.setIfInBounds_toArray, List.set_cons_zero, List.set_cons_succ]
                    refine seqI_take (v := .pointer (some ⟨T, 0, none⟩)) rfl (fun W hW => by go_simp) (fun _ _ _ h => h) ?_
                    simp only [Act.put, List.setIfInBounds_toArray, List.set_cons_zero, List.set_cons_succ]
                    refine seqI_take (v := .string ⟨f.toArray⟩) rfl (fun W hW => by have m0 := (hW.cell (p := ⟨T, 0, none⟩) hT).trans g0; go_simp) (fun _ _ _ h => h) ?_
                    simp only [Act.put, List.setIfInBounds_toArray, List.set_cons_zero, List.set_cons_succ]
                    refine seqI_take (v := .int .i64 (f.length : Nat)) rfl (fun W hW => by go_simp) (fun _ _ _ h => h) ?_
                    simp only [Act.put, List.setIfInBounds_toArray, List.set_cons_zero, List.set_cons_succ]
                    refine seqI_take (v := .bool true) rfl (fun W hW => by go_simp) (fun _ _ _ h => h) ?_
                    simp only [Act.put, List.setIfInBounds_toArray, List.set_cons_zero, List.set_cons_succ]
                    refine seqI_take (v := .bool true) rfl (fun W hW => by go_simp) (fun _ _ _ h => h) ?_
                    simp only [Act.put, List.setIfInBounds_toArray, List.set_cons_zero, List.set_cons_succ]
                    refine seqI_take (v := .pointer (some ⟨T, 0, none⟩)) rfl (fun W hW => by go_simp) (fun _ _ _ h => h) ?_
                    simp only [Act.put, List.setIfInBounds_toArray, List.set_cons_zero, List.set_cons_succ]
                    refine seqI_take (v := .string ⟨f.toArray⟩) rfl (fun W hW => by have m0 := (hW.cell (p := ⟨T, 0, none⟩) hT).trans g0; go_simp) (fun _ _ _ h => h) ?_
                    simp only [Act.put, List.setIfInBounds_toArray, List.set_cons_zero, List.set_cons_succ]
                    refine seqI_take (v := .pointer (some ⟨T2, 1, none⟩)) rfl (fun W hW => by go_simp) (fun _ _ _ h => h) ?_
                    simp only [Act.put, List.setIfInBounds_toArray, List.set_cons_zero, List.set_cons_succ]
                    refine seqI_take (v := .string ⟨tp.toArray⟩) rfl (fun W hW => by have m0 := (hW.cell (p := ⟨T2, 1, none⟩) hT2).trans g2; go_simp) (fun _ _ _ h => h) ?_
                    simp only [Act.put, List.setIfInBounds_toArray, List.set_cons_zero, List.set_cons_succ]
                    refine seqI_call 66 #[.string ⟨f.toArray⟩] rfl (by go_simp) (value_any f HNF.out _) ?_
                    rintro e w5 ⟨rfl, hb5⟩
                    have Hw5 := Lib.hid (ext_trans HS0.out hb5)
                    clear hb5
                    refine ⟨_, rfl, Hw5.out, ?_⟩
                    simp only [Act.put, List.setIfInBounds_toArray, List.set_cons_zero, List.set_cons_succ]
                    refine seqI_call 66 #[.string ⟨tp.toArray⟩] rfl (by go_simp) (value_any tp HPT.out _) ?_
                    rintro e w6 ⟨rfl, hb6⟩
                    have Hw6 := Lib.hid (ext_trans Hw5.out hb6)
                    clear hb6
                    refine ⟨_, rfl, Hw6.out, ?_⟩
                    simp only [Act.put, List.setIfInBounds_toArray, List.set_cons_zero, List.set_cons_succ]
                    refine seqI_take (v := .bool true) rfl (fun W hW => by go_simp) (fun _ _ _ h => h) ?_
                    simp only [Act.put, List.setIfInBounds_toArray, List.set_cons_zero, List.set_cons_succ]
                    refine seqI_take (v := .bool true) rfl (fun W hW => by go_simp) (fun _ _ _ h => h) ?_
                    simp only [Act.put, List.setIfInBounds_toArray, List.set_cons_zero, List.set_cons_succ]
                    refine seqI_skip rfl (fun _ _ _ h => h) ?_
                    simp only [Act.put, List.setIfInBounds_toArray, List.set_cons_zero, List.set_cons_succ]
                    refine seqI_skip rfl (fun _ _ _ h => h) ?_
                    simp only [Act.put, List.setIfInBounds_toArray, List.set_cons_zero, List.set_cons_succ]
                    refine seqI_skip rfl (fun _ _ _ h => h) ?_
                    simp only [Act.put, List.setIfInBounds_toArray, List.set_cons_zero, List.set_cons_succ]
                    refine seqI_skip rfl (fun _ _ _ h => h) ?_
                    simp only [Act.put, List.setIfInBounds_toArray, List.set_cons_zero, List.set_cons_succ]
                    refine seqI_skip rfl (fun _ _ _ h => h) ?_
                    simp only [Act.put, List.setIfInBounds_toArray, List.set_cons_zero, List.set_cons_succ]
                    refine seqI_skip rfl (fun _ _ _ h => h) ?_
                    simp only [Act.put, List.setIfInBounds_toArray, List.set_cons_zero, List.set_cons_succ]
                    refine seqI_skip rfl (fun _ _ _ h => h) ?_
                    simp only [Act.put, List.setIfInBounds_toArray, List.set_cons_zero, List.set_cons_succ]
                    refine seqI_skip rfl (fun _ _ _ h => h) ?_
                    simp only [Act.put, List.setIfInBounds_toArray, List.set_cons_zero, List.set_cons_succ]
                    refine seqI_skip rfl (fun _ _ _ h => h) ?_
                    simp only [Act.put, List.setIfInBounds_toArray, List.set_cons_zero, List.set_cons_succ]
                    refine seqI_skip rfl (fun _ _ _ h => h) ?_
                    simp only [Act.put, List.setIfInBounds_toArray, List.set_cons_zero, List.set_cons_succ]
                    refine seqI_skip rfl (fun _ _ _ h => h) ?_
                    simp only [Act.put, List.setIfInBounds_toArray, List.set_cons_zero, List.set_cons_succ]
                    refine seqI_skip rfl (fun _ _ _ h => h) ?_
                    simp only [Act.put, List.setIfInBounds_toArray, List.set_cons_zero, List.set_cons_succ]
                    refine seqI_take (v := .bool true) rfl (fun W hW => by go_simp) (fun _ _ _ h => h) ?_
                    simp only [Act.put, List.setIfInBounds_toArray, List.set_cons_zero, List.set_cons_succ]
                    refine seqI_take (v := .bool true) rfl (fun W hW => by go_simp) (fun _ _ _ h => h) ?_
                    simp only [Act.put, List.setIfInBounds_toArray, List.set_cons_zero, List.set_cons_succ]
                    refine seqI_nil ?_
                    clear HER4 HNEXT HSTOP heq HNF HPT
                    as_aux_lemma =>
                      go_wp2_with fail
                      go_ret
                      exact ⟨rfl, HX9.out _ Hw6.out⟩
                  cases touch
                  case true =>
                    have HXZ := Lib.hid (HNEXT.out (by rw [HER4.out, if_neg (fun h => hle (by have h2 := h.2; simp [apartT] at h2; exact h2))]))
                    refine region_seqI (S := fun W => Below wb.drew.heap.size wb.drew W) [(true, 0), (true, 1), (true, 2), (true, 3), (true, 4), (true, 5), (true, 6), (true, 7), (true, 8), (true, 9), (true, 11), (true, 12), (false, 10), (false, 13), (true, 14), (true, 15), (true, 16), (true, 17), (true, 18), (true, 19), (true, 20), (true, 21), (true, 22), (true, 23), (true, 24), (true, 25), (true, 26), (true, 27), (true, 28), (true, 29)] (by kernel_rfl) (by kernel_rfl) rfl (by kernel_rfl) HS0.out ?_
                    simp only [seqOps, List.getD_cons_zero, List.getD_cons_succ]
                    refine seqI_take (v := .pointer (some ⟨T2, 0, none⟩)) rfl (fun W hW => by go_simp) (fun _ _ _ h => h) ?_
                    simp only [Act.put, List.setIfInBounds_toArray, List.set_cons_zero, List.set_cons_succ]
                    refine seqI_take (v := .string ⟨fp.toArray⟩) rfl (fun W hW => by have m0 := (hW.cell (p := ⟨T2, 0, none⟩) hT2).trans g1; go_simp) (fun _ _ _ h => h) ?_
                    simp only [Act.put, List.setIfInBounds_toArray, List.set_cons_zero, List.set_cons_succ]
                    refine seqI_take (v := .int .i64 (fp.length : Nat)) rfl (fun W hW => by go_simp) (fun _ _ _ h => h) ?_
                    simp only [Act.put, List.setIfInBounds_toArray, List.set_cons_zero, List.set_cons_succ]
                    refine seqI_take (v := .pointer (some ⟨T, 0, none⟩)) rfl (fun W hW => by go_simp) (fun _ _ _ h => h) ?_
                    simp only [Act.put, List.setIfInBounds_toArray, List.set_cons_zero, List.set_cons_succ]
                    refine seqI_take (v := .string ⟨f.toArray⟩) rfl (fun W hW => by have m0 := (hW.cell (p := ⟨T, 0, none⟩) hT).trans g0; go_simp) (fun _ _ _ h => h) ?_
                    simp only [Act.put, List.setIfInBounds_toArray, List.set_cons_zero, List.set_cons_succ]
                    refine seqI_take (v := .int .i64 (f.length : Nat)) rfl (fun W hW => by go_simp) (fun _ _ _ h => h) ?_
                    simp only [Act.put, List.setIfInBounds_toArray, List.set_cons_zero, List.set_cons_succ]
                    refine seqI_take (v := .bool true) rfl (fun W hW => by go_simp) (fun _ _ _ h => h) ?_
                    simp only [Act.put, List.setIfInBounds_toArray, List.set_cons_zero, List.set_cons_succ]
                    refine seqI_take (v := .bool true) rfl (fun W hW => by go_simp) (fun _ _ _ h => h) ?_
                    simp only [Act.put, List.setIfInBounds_toArray, List.set_cons_zero, List.set_cons_succ]
                    refine seqI_take (v := .pointer (some ⟨T, 0, none⟩)) rfl (fun W hW => by go_simp) (fun _ _ _ h => h) ?_
                    simp only [Act.put, List.setIfInBounds_toArray, List.set_cons_zero, List.set_cons_succ]
                    refine seqI_take (v := .string ⟨f.toArray⟩) rfl (fun W hW => by have m0 := (hW.cell (p := ⟨T, 0, none⟩) hT).trans g0; go_simp) (fun _ _ _ h => h) ?_
                    simp only [Act.put, List.setIfInBounds_toArray, List.set_cons_zero, List.set_cons_succ]
                    refine seqI_take (v := .pointer (some ⟨T2, 1, none⟩)) rfl (fun W hW => by go_simp) (fun _ _ _ h => h) ?_
                    simp only [Act.put, List.setIfInBounds_toArray, List.set_cons_zero, List.set_cons_succ]
                    refine seqI_take (v := .string ⟨tp.toArray⟩) rfl (fun W hW => by have m0 := (hW.cell (p := ⟨T2, 1, none⟩) hT2).trans g2; go_simp) (fun _ _ _ h => h) ?_
                    simp only [Act.put, List.setIfInBounds_toArray, List.set_cons_zero, List.set_cons_succ]
                    refine seqI_call 66 #[.string ⟨f.toArray⟩] rfl (by go_simp) (value_any f HNF.out _) ?_
                    rintro e w5 ⟨rfl, hb5⟩
                    have Hw5 := Lib.hid (ext_trans HS0.out hb5)
                    clear hb5
                    refine ⟨_, rfl, Hw5.out, ?_⟩
                    simp only [Act.put, List.setIfInBounds_toArray, List.set_cons_zero, List.set_cons_succ]
                    refine seqI_call 66 #[.string ⟨tp.toArray⟩] rfl (by go_simp) (value_any tp HPT.out _) ?_
                    rintro e w6 ⟨rfl, hb6⟩
                    have Hw6 := Lib.hid (ext_trans Hw5.out hb6)
                    clear hb6
                    refine ⟨_, rfl, Hw6.out, ?_⟩
                    simp only [Act.put, List.setIfInBounds_toArray, List.set_cons_zero, List.set_cons_succ]
                    refine seqI_take (v := .bool false) rfl (fun W hW => by go_simp) (fun _ _ _ h => h) ?_
                    simp only [Act.put, List.setIfInBounds_toArray, List.set_cons_zero, List.set_cons_succ]
                    refine seqI_take (v := .bool false) rfl (fun W hW => by go_simp) (fun _ _ _ h => h) ?_
                    simp only [Act.put, List.setIfInBounds_toArray, List.set_cons_zero, List.set_cons_succ]
                    refine seqI_take (v := .bool true) rfl (fun W hW => by go_simp) (fun _ _ _ h => h) ?_
                    simp only [Act.put, List.setIfInBounds_toArray, List.set_cons_zero, List.set_cons_succ]
                    refine seqI_take (v := .bool false) rfl (fun W hW => by go_simp) (fun _ _ _ h => h) ?_
                    simp only [Act.put, List.setIfInBounds_toArray, List.set_cons_zero, List.set_cons_succ]
                    refine seqI_take (v := .bool false) rfl (fun W hW => by go_simp) (fun _ _ _ h => h) ?_
                    simp only [Act.put, List.setIfInBounds_toArray, List.set_cons_zero, List.set_cons_succ]
                    refine seqI_skip rfl (fun _ _ _ h => h) ?_
                    simp only [Act.put, List.setIfInBounds_toArray, List.set_cons_zero, List.set_cons_succ]
                    refine seqI_skip rfl (fun _ _ _ h => h) ?_
                    simp only [Act.put, List.setIfInBounds_toArray, List.set_cons_zero, List.set_cons_succ]
                    refine seqI_skip rfl (fun _ _ _ h => h) ?_
                    simp only [Act.put, List.setIfInBounds_toArray, List.set_cons_zero, List.set_cons_succ]
                    refine seqI_skip rfl (fun _ _ _ h => h) ?_
                    simp only [Act.put, List.setIfInBounds_toArray, List.set_cons_zero, List.set_cons_succ]
                    refine seqI_skip rfl (fun _ _ _ h => h) ?_
                    simp only [Act.put, List.setIfInBounds_toArray, List.set_cons_zero, List.set_cons_succ]
                    refine seqI_skip rfl (fun _ _ _ h => h) ?_
                    simp only [Act.put, List.setIfInBounds_toArray, List.set_cons_zero, List.set_cons_succ]
                    refine seqI_skip rfl (fun _ _ _ h => h) ?_
                    simp only [Act.put, List.setIfInBounds_toArray, List.set_cons_zero, List.set_cons_succ]
                    refine seqI_skip rfl (fun _ _ _ h => h) ?_
                    simp only [Act.put, List.setIfInBounds_toArray, List.set_cons_zero, List.set_cons_succ]
                    refine seqI_take (v := .bool false) rfl (fun W hW => by go_simp) (fun _ _ _ h => h) ?_
                    simp only [Act.put, List.setIfInBounds_toArray, List.set_cons_zero, List.set_cons_succ]
                    refine seqI_take (v := .bool false) rfl (fun W hW => by go_simp) (fun _ _ _ h => h) ?_
                    simp only [Act.put, List.setIfInBounds_toArray, List.set_cons_zero, List.set_cons_succ]
                    refine seqI_take (v := .bool false) rfl (fun W hW => by go_simp) (fun _ _ _ h => h) ?_
                    simp only [Act.put, List.setIfInBounds_toArray, List.set_cons_zero, List.set_cons_succ]
                    refine seqI_nil ?_
                    clear HER4 HNEXT HSTOP heq HNF HPT
                    as_aux_lemma =>
                      go_wp2_with fail
                      go_roundw
                      case rel => exact ⟨j + 1 + 1, by omega, by go_num, HXZ.out, HX9.out _ Hw6.out⟩
                      case measure => simp [intOf]; omega
                  case false =>
                    by_cases he1 : numV f = numV tp + 1
                    · have hlt1 : numV tp < numV tp + 1 := by omega
                      obtain rfl : X = 13 := by rw [HER4.out, if_pos ⟨heq, by have h9 : apartT false = 1 := rfl; rw [h9]; omega⟩]
                      obtain rfl : R = 13 := HSTOP.out (by decide)
                      refine region_seqI (S := fun W => Below wb.drew.heap.size wb.drew W) [(true, 0), (true, 1), (true, 2), (true, 3), (true, 4), (true, 5), (true, 6), (true, 7), (true, 8), (true, 9), (true, 11), (true, 12), (false, 10), (false, 13), (true, 14), (true, 15), (true, 16), (true, 17), (true, 18), (true, 19), (true, 20), (true, 22), (true, 23), (false, 21), (false, 24), (true, 25), (true, 26), (true, 27), (true, 28), (true, 29)] (by kernel_rfl) (by kernel_rfl) rfl (by kernel_rfl) HS0.out ?_
                      simp only [seqOps, List.getD_cons_zero, List.getD_cons_succ]
                      refine seqI_take (v := .pointer (some ⟨T2, 0, none⟩)) rfl (fun W hW => by go_simp) (fun _ _ _ h => h) ?_
                      simp only [Act.put, List.setIfInBounds_toArray, List.set_cons_zero, List.set_cons_succ]
                      refine seqI_take (v := .string ⟨fp.toArray⟩) rfl (fun W hW => by have m0 := (hW.cell (p := ⟨T2, 0, none⟩) hT2).trans g1; go_simp) (fun _ _ _ h => h) ?_
                      simp only [Act.put, List.setIfInBounds_toArray, List.set_cons_zero, List.set_cons_succ]
                      refine seqI_take (v := .int .i64 (fp.length : Nat)) rfl (fun W hW => by go_simp) (fun _ _ _ h => h) ?_
                      simp only [Act.put, List.setIfInBounds_toArray, List.set_cons_zero, List.set_cons_succ]
                      refine seqI_take (v := .pointer (some ⟨T, 0, none⟩)) rfl (fun W hW => by go_simp) (fun _ _ _ h => h) ?_
                      simp only [Act.put, List.setIfInBounds_toArray, List.set_cons_zero, List.set_cons_succ]
                      refine seqI_take (v := .string ⟨f.toArray⟩) rfl (fun W hW => by have m0 := (hW.cell (p := ⟨T, 0, none⟩) hT).trans g0; go_simp) (fun _ _ _ h => h) ?_
                      simp only [Act.put, List.setIfInBounds_toArray, List.set_cons_zero, List.set_cons_succ]
                      refine seqI_take (v := .int .i64 (f.length : Nat)) rfl (fun W hW => by go_simp) (fun _ _ _ h => h) ?_
                      simp only [Act.put, List.setIfInBounds_toArray, List.set_cons_zero, List.set_cons_succ]
                      refine seqI_take (v := .bool true) rfl (fun W hW => by go_simp) (fun _ _ _ h => h) ?_
                      simp only [Act.put, List.setIfInBounds_toArray, List.set_cons_zero, List.set_cons_succ]
                      refine seqI_take (v := .bool true) rfl (fun W hW => by go_simp) (fun _ _ _ h => h) ?_
                      simp only [Act.put, List.setIfInBounds_toArray, List.set_cons_zero, List.set_cons_succ]
                      refine seqI_take (v := .pointer (some ⟨T, 0, none⟩)) rfl (fun W hW => by go_simp) (fun _ _ _ h => h) ?_
                      simp only [Act.put, List.setIfInBounds_toArray, List.set_cons_zero, List.set_cons_succ]
                      refine seqI_take (v := .string ⟨f.toArray⟩) rfl (fun W hW => by have m0 := (hW.cell (p := ⟨T, 0, none⟩) hT).trans g0; go_simp) (fun _ _ _ h => h) ?_
                      simp only [Act.put, List.setIfInBounds_toArray, List.set_cons_zero, List.set_cons_succ]
                      refine seqI_take (v := .pointer (some ⟨T2, 1, none⟩)) rfl (fun W hW => by go_simp) (fun _ _ _ h => h) ?_
                      simp only [Act.put, List.setIfInBounds_toArray, List.set_cons_zero, List.set_cons_succ]
                      refine seqI_take (v := .string ⟨tp.toArray⟩) rfl (fun W hW => by have m0 := (hW.cell (p := ⟨T2, 1, none⟩) hT2).trans g2; go_simp) (fun _ _ _ h => h) ?_
                      simp only [Act.put, List.setIfInBounds_toArray, List.set_cons_zero, List.set_cons_succ]
                      refine seqI_call 66 #[.string ⟨f.toArray⟩] rfl (by go_simp) (value_any f HNF.out _) ?_
                      rintro e w5 ⟨rfl, hb5⟩
                      have Hw5 := Lib.hid (ext_trans HS0.out hb5)
                      clear hb5
                      refine ⟨_, rfl, Hw5.out, ?_⟩
                      simp only [Act.put, List.setIfInBounds_toArray, List.set_cons_zero, List.set_cons_succ]
                      refine seqI_call 66 #[.string ⟨tp.toArray⟩] rfl (by go_simp) (value_any tp HPT.out _) ?_
                      rintro e w6 ⟨rfl, hb6⟩
                      have Hw6 := Lib.hid (ext_trans Hw5.out hb6)
                      clear hb6
                      refine ⟨_, rfl, Hw6.out, ?_⟩
                      simp only [Act.put, List.setIfInBounds_toArray, List.set_cons_zero, List.set_cons_succ]
                      refine seqI_take (v := .bool false) rfl (fun W hW => by go_simp) (fun _ _ _ h => h) ?_
                      simp only [Act.put, List.setIfInBounds_toArray, List.set_cons_zero, List.set_cons_succ]
                      refine seqI_take (v := .bool false) rfl (fun W hW => by go_simp) (fun _ _ _ h => h) ?_
                      simp only [Act.put, List.setIfInBounds_toArray, List.set_cons_zero, List.set_cons_succ]
                      refine seqI_take (v := .bool false) rfl (fun W hW => by go_simp) (fun _ _ _ h => h) ?_
                      simp only [Act.put, List.setIfInBounds_toArray, List.set_cons_zero, List.set_cons_succ]
                      refine seqI_take (v := .bool true) rfl (fun W hW => by go_simp) (fun _ _ _ h => h) ?_
                      simp only [Act.put, List.setIfInBounds_toArray, List.set_cons_zero, List.set_cons_succ]
                      refine seqI_take (v := .bool true) rfl (fun W hW => by go_simp) (fun _ _ _ h => h) ?_
                      simp only [Act.put, List.setIfInBounds_toArray, List.set_cons_zero, List.set_cons_succ]
                      refine seqI_take (v := .pointer (some ⟨T, 0, none⟩)) rfl (fun W hW => by go_simp) (fun _ _ _ h => h) ?_
                      simp only [Act.put, List.setIfInBounds_toArray, List.set_cons_zero, List.set_cons_succ]
                      refine seqI_take (v := .string ⟨f.toArray⟩) rfl (fun W hW => by have m0 := (hW.cell (p := ⟨T, 0, none⟩) hT).trans g0; go_simp) (fun _ _ _ h => h) ?_
                      simp only [Act.put, List.setIfInBounds_toArray, List.set_cons_zero, List.set_cons_succ]
                      refine seqI_take (v := .pointer (some ⟨T2, 1, none⟩)) rfl (fun W hW => by go_simp) (fun _ _ _ h => h) ?_
                      simp only [Act.put, List.setIfInBounds_toArray, List.set_cons_zero, List.set_cons_succ]
                      refine seqI_take (v := .string ⟨tp.toArray⟩) rfl (fun W hW => by have m0 := (hW.cell (p := ⟨T2, 1, none⟩) hT2).trans g2; go_simp) (fun _ _ _ h => h) ?_
                      simp only [Act.put, List.setIfInBounds_toArray, List.set_cons_zero, List.set_cons_succ]
                      refine seqI_call 66 #[.string ⟨f.toArray⟩] rfl (by go_simp) (value_any f HNF.out _) ?_
                      rintro e w7 ⟨rfl, hb7⟩
                      have Hw7 := Lib.hid (ext_trans Hw6.out hb7)
                      clear hb7
                      refine ⟨_, rfl, Hw7.out, ?_⟩
                      simp only [Act.put, List.setIfInBounds_toArray, List.set_cons_zero, List.set_cons_succ]
                      refine seqI_call 66 #[.string ⟨tp.toArray⟩] rfl (by go_simp) (value_any tp HPT.out _) ?_
                      rintro e w8 ⟨rfl, hb8⟩
                      have Hw8 := Lib.hid (ext_trans Hw7.out hb8)
                      clear hb8
                      refine ⟨_, rfl, Hw8.out, ?_⟩
                      simp only [Act.put, List.setIfInBounds_toArray, List.set_cons_zero, List.set_cons_succ]
                      refine seqI_take (v := .int .i64 (numV tp + 1)) rfl (fun W hW => by go_simp) (fun _ _ _ h => h) ?_
                      simp only [Act.put, List.setIfInBounds_toArray, List.set_cons_zero, List.set_cons_succ]
                      refine seqI_take (v := .bool true) rfl (fun W hW => by go_simp) (fun _ _ _ h => h) ?_
                      simp only [Act.put, List.setIfInBounds_toArray, List.set_cons_zero, List.set_cons_succ]
                      refine seqI_take (v := .bool true) rfl (fun W hW => by go_simp) (fun _ _ _ h => h) ?_
                      simp only [Act.put, List.setIfInBounds_toArray, List.set_cons_zero, List.set_cons_succ]
                      refine seqI_take (v := .bool true) rfl (fun W hW => by go_simp) (fun _ _ _ h => h) ?_
                      simp only [Act.put, List.setIfInBounds_toArray, List.set_cons_zero, List.set_cons_succ]
                      refine seqI_take (v := .bool true) rfl (fun W hW => by go_simp) (fun _ _ _ h => h) ?_
                      simp only [Act.put, List.setIfInBounds_toArray, List.set_cons_zero, List.set_cons_succ]
                      refine seqI_nil ?_
                      clear HER4 HNEXT HSTOP heq HNF HPT
                      as_aux_lemma =>
                        go_wp2_with fail
                        go_ret
                        exact ⟨rfl, HX9.out _ Hw8.out⟩
                    · have HXZ := Lib.hid (HNEXT.out (by rw [HER4.out, if_neg (fun h => by have h2 := h.2; have h9 : apartT false = 1 := rfl; rw [h9] at h2; omega)]))
                      have he1b : (numV f == numV tp + 1) = false := beq_eq_false_iff_ne.2 he1
                      refine region_seqI (S := fun W => Below wb.drew.heap.size wb.drew W) [(true, 0), (true, 1), (true, 2), (true, 3), (true, 4), (true, 5), (true, 6), (true, 7), (true, 8), (true, 9), (true, 11), (true, 12), (false, 10), (false, 13), (true, 14), (true, 15), (true, 16), (true, 17), (true, 18), (true, 19), (true, 20), (true, 22), (true, 23), (false, 21), (false, 24), (true, 25), (true, 26), (true, 27), (true, 28), (true, 29)] (by kernel_rfl) (by kernel_rfl) rfl (by kernel_rfl) HS0.out ?_
                      simp only [seqOps, List.getD_cons_zero, List.getD_cons_succ]
                      refine seqI_take (v := .pointer (some ⟨T2, 0, none⟩)) rfl (fun W hW => by go_simp) (fun _ _ _ h => h) ?_
                      simp only [Act.put, List.setIfInBounds_toArray, List.set_cons_zero, List.set_cons_succ]
                      refine seqI_take (v := .string ⟨fp.toArray⟩) rfl (fun W hW => by have m0 := (hW.cell (p := ⟨T2, 0, none⟩) hT2).trans g1; go_simp) (fun _ _ _ h => h) ?_
                      simp only [Act.put, List.setIfInBounds_toArray, List.set_cons_zero, List.set_cons_succ]
                      refine seqI_take (v := .int .i64 (fp.length : Nat)) rfl (fun W hW => by go_simp) (fun _ _ _ h => h) ?_
                      simp only [Act.put, List.setIfInBounds_toArray, List.set_cons_zero, List.set_cons_succ]
                      refine seqI_take (v := .pointer (some ⟨T, 0, none⟩)) rfl (fun W hW => by go_simp) (fun _ _ _ h => h) ?_
                      simp only [Act.put, List.setIfInBounds_toArray, List.set_cons_zero, List.set_cons_succ]
                      refine seqI_take (v := .string ⟨f.toArray⟩) rfl (fun W hW => by have m0 := (hW.cell (p := ⟨T, 0, none⟩) hT).trans g0; go_simp) (fun _ _ _ h => h) ?_
                      simp only [Act.put, List.setIfInBounds_toArray, List.set_cons_zero, List.set_cons_succ]
                      refine seqI_take (v := .int .i64 (f.length : Nat)) rfl (fun W hW => by go_simp) (fun _ _ _ h => h) ?_
                      simp only [Act.put, List.setIfInBounds_toArray, List.set_cons_zero, List.set_cons_succ]
                      refine seqI_take (v := .bool true) rfl (fun W hW => by go_simp) (fun _ _ _ h => h) ?_
                      simp only [Act.put, List.setIfInBounds_toArray, List.set_cons_zero, List.set_cons_succ]
                      refine seqI_take (v := .bool true) rfl (fun W hW => by go_simp) (fun _ _ _ h => h) ?_
                      simp only [Act.put, List.setIfInBounds_toArray, List.set_cons_zero, List.set_cons_succ]
                      refine seqI_take (v := .pointer (some ⟨T, 0, none⟩)) rfl (fun W hW => by go_simp) (fun _ _ _ h => h) ?_
                      simp only [Act.put, List.setIfInBounds_toArray, List.set_cons_zero, List.set_cons_succ]
                      refine seqI_take (v := .string ⟨f.toArray⟩) rfl (fun W hW => by have m0 := (hW.cell (p := ⟨T, 0, none⟩) hT).trans g0; go_simp) (fun _ _ _ h => h) ?_
                      simp only [Act.put, List.setIfInBounds_toArray, List.set_cons_zero, List.set_cons_succ]
                      refine seqI_take (v := .pointer (some ⟨T2, 1, none⟩)) rfl (fun W hW => by go_simp) (fun _ _ _ h => h) ?_
                      simp only [Act.put, List.setIfInBounds_toArray, List.set_cons_zero, List.set_cons_succ]
                      refine seqI_take (v := .string ⟨tp.toArray⟩) rfl (fun W hW => by have m0 := (hW.cell (p := ⟨T2, 1, none⟩) hT2).trans g2; go_simp) (fun _ _ _ h => h) ?_
                      simp only [Act.put, List.setIfInBounds_toArray, List.set_cons_zero, List.set_cons_succ]
                      refine seqI_call 66 #[.string ⟨f.toArray⟩] rfl (by go_simp) (value_any f HNF.out _) ?_
                      rintro e w5 ⟨rfl, hb5⟩
                      have Hw5 := Lib.hid (ext_trans HS0.out hb5)
                      clear hb5
                      refine ⟨_, rfl, Hw5.out, ?_⟩
                      simp only [Act.put, List.setIfInBounds_toArray, List.set_cons_zero, List.set_cons_succ]
                      refine seqI_call 66 #[.string ⟨tp.toArray⟩] rfl (by go_simp) (value_any tp HPT.out _) ?_
                      rintro e w6 ⟨rfl, hb6⟩
                      have Hw6 := Lib.hid (ext_trans Hw5.out hb6)
                      clear hb6
                      refine ⟨_, rfl, Hw6.out, ?_⟩
                      simp only [Act.put, List.setIfInBounds_toArray, List.set_cons_zero, List.set_cons_succ]
                      refine seqI_take (v := .bool false) rfl (fun W hW => by go_simp) (fun _ _ _ h => h) ?_
                      simp only [Act.put, List.setIfInBounds_toArray, List.set_cons_zero, List.set_cons_succ]
                      refine seqI_take (v := .bool false) rfl (fun W hW => by go_simp) (fun _ _ _ h => h) ?_
                      simp only [Act.put, List.setIfInBounds_toArray, List.set_cons_zero, List.set_cons_succ]
                      refine seqI_take (v := .bool false) rfl (fun W hW => by go_simp) (fun _ _ _ h => h) ?_
                      simp only [Act.put, List.setIfInBounds_toArray, List.set_cons_zero, List.set_cons_succ]
                      refine seqI_take (v := .bool true) rfl (fun W hW => by go_simp) (fun _ _ _ h => h) ?_
                      simp only [Act.put, List.setIfInBounds_toArray, List.set_cons_zero, List.set_cons_succ]
                      refine seqI_take (v := .bool true) rfl (fun W hW => by go_simp) (fun _ _ _ h => h) ?_
                      simp only [Act.put, List.setIfInBounds_toArray, List.set_cons_zero, List.set_cons_succ]
                      refine seqI_take (v := .pointer (some ⟨T, 0, none⟩)) rfl (fun W hW => by go_simp) (fun _ _ _ h => h) ?_
                      simp only [Act.put, List.setIfInBounds_toArray, List.set_cons_zero, List.set_cons_succ]
                      refine seqI_take (v := .string ⟨f.toArray⟩) rfl (fun W hW => by have m0 := (hW.cell (p := ⟨T, 0, none⟩) hT).trans g0; go_simp) (fun _ _ _ h => h) ?_
                      simp only [Act.put, List.setIfInBounds_toArray, List.set_cons_zero, List.set_cons_succ]
                      refine seqI_take (v := .pointer (some ⟨T2, 1, none⟩)) rfl (fun W hW => by go_simp) (fun _ _ _ h => h) ?_
                      simp only [Act.put, List.setIfInBounds_toArray, List.set_cons_zero, List.set_cons_succ]
                      refine seqI_take (v := .string ⟨tp.toArray⟩) rfl (fun W hW => by have m0 := (hW.cell (p := ⟨T2, 1, none⟩) hT2).trans g2; go_simp) (fun _ _ _ h => h) ?_
                      simp only [Act.put, List.setIfInBounds_toArray, List.set_cons_zero, List.set_cons_succ]
                      refine seqI_call 66 #[.string ⟨f.toArray⟩] rfl (by go_simp) (value_any f HNF.out _) ?_
                      rintro e w7 ⟨rfl, hb7⟩
                      have Hw7 := Lib.hid (ext_trans Hw6.out hb7)
                      clear hb7
                      refine ⟨_, rfl, Hw7.out, ?_⟩
                      simp only [Act.put, List.setIfInBounds_toArray, List.set_cons_zero, List.set_cons_succ]
                      refine seqI_call 66 #[.string ⟨tp.toArray⟩] rfl (by go_simp) (value_any tp HPT.out _) ?_
                      rintro e w8 ⟨rfl, hb8⟩
                      have Hw8 := Lib.hid (ext_trans Hw7.out hb8)
                      clear hb8
                      refine ⟨_, rfl, Hw8.out, ?_⟩
                      simp only [Act.put, List.setIfInBounds_toArray, List.set_cons_zero, List.set_cons_succ]
                      refine seqI_take (v := .int .i64 (numV tp + 1)) rfl (fun W hW => by go_simp) (fun _ _ _ h => h) ?_
                      simp only [Act.put, List.setIfInBounds_toArray, List.set_cons_zero, List.set_cons_succ]
                      refine seqI_take (v := .bool false) rfl (fun W hW => by go_simp) (fun _ _ _ h => h) ?_
                      simp only [Act.put, List.setIfInBounds_toArray, List.set_cons_zero, List.set_cons_succ]
                      refine seqI_take (v := .bool false) rfl (fun W hW => by go_simp) (fun _ _ _ h => h) ?_
                      simp only [Act.put, List.setIfInBounds_toArray, List.set_cons_zero, List.set_cons_succ]
                      refine seqI_take (v := .bool false) rfl (fun W hW => by go_simp) (fun _ _ _ h => h) ?_
                      simp only [Act.put, List.setIfInBounds_toArray, List.set_cons_zero, List.set_cons_succ]
                      refine seqI_take (v := .bool false) rfl (fun W hW => by go_simp) (fun _ _ _ h => h) ?_
                      simp only [Act.put, List.setIfInBounds_toArray, List.set_cons_zero, List.set_cons_succ]
                      refine seqI_nil ?_
                      clear HER4 HNEXT HSTOP heq HNF HPT
                      as_aux_lemma =>
                        go_wp2_with fail
                        go_roundw
                        case rel => exact ⟨j + 1 + 1, by omega, by go_num, HXZ.out, HX9.out _ Hw8.out⟩
                        case measure => simp [intOf]; omega
    · obtain rfl : k = n := by omega
      obtain rfl : R = 0 := HAT2.out.2 HZ.out
      go_wp2_with fail
      go_ret
      exact ⟨rfl, HB.out⟩
end Go.Proofs.YtmbimfmalijjpaaGreatDoor

set_option linter.unusedVariables false
set_option linter.unusedSimpArgs false
namespace Go.Proofs.YtmbimfmalijjpaaGreatDoor
open Go.RowKit

theorem rangesFault0_any (w : World) (a : Option Addr) (n cap : Nat) (l : List Rng) (hr : RngRow w a n l) (hcap : n ≤ cap) : Calls Tryz.prog 24 #[.slice a n cap, .bool true] w (ErrPost (rngsErr 0 l) w) := rangesFault_any w a n cap l hr hcap true

set_option maxRecDepth 100000 in
set_option maxHeartbeats 4000000 in
theorem portsFault_any (w : World) (a : Option Addr) (m cap : Nat) (os : List Own) (ho : OwnRow w a m os) (hcap : m ≤ cap) (a2 : Option Addr) (m2 cap2 : Nat) (ps : List Prt) (hp : PrtRow w a2 m2 ps) (hcap2 : m2 ≤ cap2) :
    Calls Tryz.prog 8 #[.slice a m cap, .slice a2 m2 cap2] w (ErrPost (portsErr os ps) w) := by
  obtain ⟨i1, hi1, hy0, hy1, hy2⟩ := info_parts Tryz.infoRange
  have HO := Lib.hid ho
  have HP := Lib.hid hp
  have hfew := ho.few
  have hfew2 := hp.few
  have HL1 := Lib.hid ho.len
  have HL2 := Lib.hid hp.len
  have HC := Lib.hid (ports_cases os ps)
  generalize portsErr os ps = R at HC ⊢
  clear ho hp
  go_enter Tryz.func8, Tryz.ntmps8
  go_wp2_with fail
  go_loopw [5, 15] (fun vo it wr => ∃ k : Nat, k ≤ m ∧ it = .int .i64 k ∧ Hid (wr.ownsRow w.heap.size 53 2 vo k (((os.take k).map fun o => Rng.cells o.r).flatten)) ∧ Hid (Below w.heap.size w wr)) (fun _ it _ => m - (intOf it).toNat)
  case atStart => exact ⟨0, Nat.zero_le _, rfl, World.ownsRow_nil _ _ _ _, Below.refl _ _⟩
  case round =>
    obtain ⟨k, hk, rfl, HOW, HB⟩ := hrel
    by_cases hlt : k < m
    · obtain ⟨b, off, rfl, hb, hc⟩ := HO.out.at (by omega)
      obtain ⟨g0, g1, g2⟩ := hc k hlt
      have c0 := (HB.out.cell (p := ⟨b, off + k * 3, none⟩) hb).trans g0
      have c1 := (HB.out.cell (p := ⟨b, off + k * 3 + 1, none⟩) hb).trans g1
      have c2 := (HB.out.cell (p := ⟨b, off + k * 3 + 2, none⟩) hb).trans g2
      have HTK : Hid (((os.take (k + 1)).map fun o => Rng.cells o.r).flatten = ((os.take k).map fun o => Rng.cells o.r).flatten ++ Rng.cells (os.getD k noOwn).r) := take_own os k (by rw [← HL1.out]; exact hlt)
      clear g0 g1 g2 hc
      generalize os.getD k noOwn = o at c0 c1 c2 HTK
      obtain ⟨⟨f, t⟩, c⟩ := o
      simp only at c0 c1 c2 HTK
      generalize ((os.take k).map fun o => Rng.cells o.r).flatten = XS at HOW HTK
      have HOA := Lib.hid ((HOW.out.alloc (.cells #[.string ⟨f.toArray⟩, .string ⟨t.toArray⟩, .string ⟨c.toArray⟩] 73)).alloc (.cells #[.string ⟨f.toArray⟩, .string ⟨t.toArray⟩] 53))
      have hbw := HB.out.size
      as_aux_lemma =>
        go_wp2_with (at_builtin; refine wpList_append_own_at _ rfl (.tmp 19) (.tmp 22) 47 rfl w.heap.size 53 i1 _ 2 32 Tryz.underlying47 hi1 hy0 hy1 hy2 rfl (by omega) _ k XS rfl HOA.out ⟨wr.heap.size + 1, 0, none⟩ 1 1 [.string ⟨f.toArray⟩, .string ⟨t.toArray⟩] rfl rfl (fun j u hj => by rw [show (⟨wr.heap.size + 1, 0, none⟩ : Addr).add j = ⟨wr.heap.size + 1, j, none⟩ by unfold Addr.add; split <;> simp_all]; match j, hj with | 0, hj => simp at hj; subst hj; go_simp | 1, hj => simp at hj; subst hj; go_simp) (by simp [Value.oneCell']) (by simp only [maxLen]; omega) (by omega) (by simp; omega) ?_; intro v9 w9 hown9 hgr9 _ _)
        have HO9 : Hid (w9.ownsRow w.heap.size 53 2 v9 (k + 1) (((os.take (k + 1)).map fun o => Rng.cells o.r).flatten)) := by
          show World.ownsRow _ _ _ _ _ _ _
          rw [HTK.out]
          exact hown9
        have HB9 : Hid (Below w.heap.size w w9) := (ext_alloc HB.out).trans (upto_grown hgr9 (by simp; omega) (fun b e => (HOW.out.lt b e).1))
        clear hown9 hgr9 HOA
        go_roundw
        case rel => exact ⟨k + 1, by omega, by go_num, HO9.out, HB9.out⟩
        case measure => simp [intOf]; omega
    · obtain rfl : k = m := by omega
      obtain ⟨a3, c3, hv3, hc3, hrow⟩ := rng_own HOW.out HL1.out HO.out.each hfew
      have HRW := Lib.hid hrow
      subst hv3
      clear HOW hrow
      as_aux_lemma =>
        go_wp2_with fail
        refine (rangesFault0_any _ a3 k c3 _ HRW.out hc3).mono ?_
        rintro e w2 ⟨rfl, hb2⟩
        have HB2 := Lib.hid (ext_trans HB.out hb2)
        clear hb2 HRW HB
        generalize rngsErr 0 (os.map (·.r)) = E at HC ⊢
        by_cases hE : E = 0
        case neg =>
          obtain rfl : R = E := HC.out.1 hE
          have hEb : (R == 0) = false := by simpa using hE
          clear HC
          as_aux_lemma =>
            go_wp2_with fail
            go_ret
            exact ⟨rfl, HB2.out⟩
        have HC2 := Lib.hid (HC.out.2 hE)
        subst hE
        rw [← HL1.out] at HC2
        rw [← HL2.out] at HC2
        clear HC
        as_aux_lemma =>
          go_wp2_with fail
          obtain ⟨wo, rfl⟩ : ∃ wo : World, wo = wr := ⟨_, rfl⟩
          go_loopw [32] (fun it wr => ∃ i : Nat, i ≤ k ∧ it = .int .i64 i ∧ Hid (∀ j, j < i → ownErr os j = 0) ∧ Hid (Below w.heap.size w wr)) (fun it _ => k - (intOf it).toNat)
          case atStart => exact ⟨0, Nat.zero_le _, rfl, fun j hj => by omega, HB2.out⟩
          case round =>
            obtain ⟨i, hik, rfl, HZ, HB⟩ := hrel
            by_cases hlt2 : i < k
            · obtain ⟨b, off, rfl, hb, hc⟩ := HO.out.at (by omega)
              obtain ⟨g0, g1, g2⟩ := hc i hlt2
              have c0 := (HB.out.cell (p := ⟨b, off + i * 3, none⟩) hb).trans g0
              have c1 := (HB.out.cell (p := ⟨b, off + i * 3 + 1, none⟩) hb).trans g1
              have c2 := (HB.out.cell (p := ⟨b, off + i * 3 + 2, none⟩) hb).trans g2
              have hcl := (HO.out.each i (by rw [← HL1.out]; exact hlt2)).2.2
              have HER : Hid (ownErr os i = if isKeyB (os.getD i noOwn).c = false then 5 else 0) := rfl
              have HSTOP := Lib.hid (HC2.out.1 i hlt2 HZ.out)
              have HNX : Hid (ownErr os i = 0 → ∀ j, j < i + 1 → ownErr os j = 0) := fun h j hj => by
                rcases Nat.lt_succ_iff_lt_or_eq.1 hj with h9 | rfl
                · exact HZ.out j h9
                · exact h
              clear g0 g1 g2 hc HZ
              generalize ownErr os i = X at HER HSTOP HNX
              generalize os.getD i noOwn = o at c0 c1 c2 hcl HER
              obtain ⟨⟨f, t⟩, c⟩ := o
              simp only at c0 c1 c2 hcl HER
              as_aux_lemma =>
                go_wp2_with fail
                refine (keyR_any c _ (by omega)).mono ?_
                rintro e w3 ⟨rfl, hb3⟩
                have HB3 : Hid (Below w.heap.size w w3) := ext_trans (ext_alloc HB.out) hb3
                clear hb3
                generalize isKeyB c = g at HER ⊢
                cases g
                · obtain rfl : X = 5 := by rw [HER.out, if_pos rfl]
                  obtain rfl : R = 5 := HSTOP.out (by decide)
                  clear HER HSTOP HNX HC2
                  as_aux_lemma =>
                    go_wp2_with fail
                    go_ret
                    exact ⟨rfl, HB3.out⟩
                · have HZ2 := Lib.hid (HNX.out (by rw [HER.out]; rfl))
                  clear HER HSTOP HNX
                  as_aux_lemma =>
                    go_wp2_with fail
                    go_roundw
                    case rel => exact ⟨i + 1, by omega, by go_num, HZ2.out, HB3.out⟩
                    case measure => simp [intOf]; omega
            · obtain rfl : i = k := by omega
              have HC3 := Lib.hid (HC2.out.2 HZ.out)
              clear HC2 HZ
              by_cases hbig : 1000 < m2
              · obtain rfl : R = 2 := HC3.out.1 hbig
                have hbI : (1000 : Int) < m2 := by omega
                clear HC3
                as_aux_lemma =>
                  go_wp2_with fail
                  go_ret
                  exact ⟨rfl, HB.out⟩
              have HC4 := Lib.hid (HC3.out.2 (by omega))
              have hbI : ¬ (1000 : Int) < m2 := by omega
              have hm2 : m2 ≤ 1000 := by omega
              clear HC3 hbig
              as_aux_lemma =>
                go_wp2_with fail
                clear hbI
                obtain ⟨wo2, rfl⟩ : ∃ wo2 : World, wo2 = wr := ⟨_, rfl⟩
                go_loopw [46] (fun it wr => ∃ q : Nat, q ≤ m2 ∧ it = .int .i64 q ∧ Hid (∀ j, j < q → portErr ps j = 0) ∧ Hid (Below w.heap.size w wr)) (fun it _ => m2 - (intOf it).toNat)
                case atStart => exact ⟨0, Nat.zero_le _, rfl, fun j hj => by omega, HB.out⟩
                case round =>
                  obtain ⟨q, hq, rfl, HZ, HBq⟩ := hrel
                  by_cases hlt3 : q < m2
                  · obtain ⟨b, off, rfl, hb, hc⟩ := HP.out.at (by omega)
                    have HCC := Lib.hid hc
                    obtain ⟨g0, g1, g2⟩ := hc q hlt3
                    have c0 := (HBq.out.cell (p := ⟨b, off + q * 3, none⟩) hb).trans g0
                    have c1 := (HBq.out.cell (p := ⟨b, off + q * 3 + 1, none⟩) hb).trans g1
                    have c2 := (HBq.out.cell (p := ⟨b, off + q * 3 + 2, none⟩) hb).trans g2
                    obtain ⟨hnl, hcl⟩ := HP.out.each q (by rw [← HL2.out]; exact hlt3)
                    have HER : Hid (portErr ps q = if isNumB (ps.getD q noPrt).n = false then 3
                      else if isMomB (ps.getD q noPrt).at_ = false then 1
                      else if isKeyB (ps.getD q noPrt).c = false then 5
                      else if 0 < q ∧ ¬ (Op.bytesLess (ps.getD (q - 1) noPrt).n (ps.getD q noPrt).n = true ∨ (ps.getD (q - 1) noPrt).n = (ps.getD q noPrt).n ∧ (ps.getD (q - 1) noPrt).at_ < (ps.getD q noPrt).at_) then 7
                      else 0) := rfl
                    have HSTOP := Lib.hid (HC4.out.1 q hlt3 HZ.out)
                    have HNX : Hid (portErr ps q = 0 → ∀ j, j < q + 1 → portErr ps j = 0) := fun h j hj => by
                      rcases Nat.lt_succ_iff_lt_or_eq.1 hj with h9 | rfl
                      · exact HZ.out j h9
                      · exact h
                    have HPV : Hid (0 < q → w.cell? ⟨b, off + (q - 1) * 3, none⟩ = some (.string ⟨(ps.getD (q - 1) noPrt).n.toArray⟩) ∧ w.cell? ⟨b, off + (q - 1) * 3 + 1, none⟩ = some (.int .i64 (ps.getD (q - 1) noPrt).at_)) := fun h => ⟨(HCC.out (q - 1) (by omega)).1, (HCC.out (q - 1) (by omega)).2.1⟩
                    clear g0 g1 g2 hc HZ HCC HC4
                    generalize portErr ps q = X at HER HSTOP HNX
                    generalize ps.getD q noPrt = p at c0 c1 c2 hnl hcl HER
                    generalize ps.getD (q - 1) noPrt = pq at HER HPV
                    obtain ⟨pn, pa, pc⟩ := p
                    obtain ⟨qn, qa, qc⟩ := pq
                    simp only at c0 c1 c2 hnl hcl HER HPV
                    as_aux_lemma =>
                      go_wp2_with fail
                      refine (form_l pn _ (by omega)).mono ?_
                      rintro e w3 ⟨rfl, hb3⟩
                      obtain ⟨qc', qf'⟩ := bcell hb3
                      have hz3 : wr.heap.size < w3.heap.size := by have := hb3.size; simp at this; omega
                      have d0 : w3.cell? ⟨wr.heap.size, 0, none⟩ = some (.string ⟨pn.toArray⟩) := (qc' _ 0 (by simp)).trans (by go_simp)
                      have d1 : w3.cell? ⟨wr.heap.size, 1, none⟩ = some (.int .i64 pa) := (qc' _ 1 (by simp)).trans (by go_simp)
                      have d2 : w3.cell? ⟨wr.heap.size, 2, none⟩ = some (.string ⟨pc.toArray⟩) := (qc' _ 2 (by simp)).trans (by go_simp)
                      have HB3 : Hid (Below w.heap.size w w3) := ext_trans (ext_alloc HBq.out) hb3
                      have HTF : Hid (w.heap.size ≤ wr.heap.size) := HBq.out.size
                      generalize wr.heap.size = T at d0 d1 d2 hz3 HTF ⊢
                      clear qc' qf' hb3 c0 c1 c2
                      generalize isNumB pn = g1 at HER ⊢
                      cases g1
                      · obtain rfl : X = 3 := by rw [HER.out, if_pos rfl]
                        obtain rfl : R = 3 := HSTOP.out (by decide)
                        clear HER HSTOP HNX HPV
                        as_aux_lemma =>
                          go_wp2_with fail
                          go_ret
                          exact ⟨rfl, HB3.out⟩
                      have HER1 : Hid (X = if isMomB pa = false then 1 else if isKeyB pc = false then 5
                        else if 0 < q ∧ ¬ (Op.bytesLess qn pn = true ∨ qn = pn ∧ qa < pa) then 7 else 0) := by show _ = _; rw [HER.out, if_neg (by decide)]
                      clear HER
                      as_aux_lemma =>
                        go_wp2_with fail
                        refine (momentFault_any pa _).mono ?_
                        rintro e w4 ⟨rfl, hb4⟩
                        have f0 := (hb4.cell (p := ⟨T, 0, none⟩) hz3).trans d0
                        have f1 := (hb4.cell (p := ⟨T, 1, none⟩) hz3).trans d1
                        have f2 := (hb4.cell (p := ⟨T, 2, none⟩) hz3).trans d2
                        have hz4 : T < w4.heap.size := Nat.lt_of_lt_of_le hz3 hb4.size
                        have HB4 := Lib.hid (ext_trans HB3.out hb4)
                        clear hb4 d0 d1 d2 hz3 HB3
                        generalize isMomB pa = g2 at HER1 ⊢
                        cases g2
                        · obtain rfl : X = 1 := by rw [HER1.out, if_pos rfl]
                          obtain rfl : R = 1 := HSTOP.out (by decide)
                          clear HER1 HSTOP HNX HPV
                          simp only [if_true, Bool.false_eq_true, if_false]
                          as_aux_lemma =>
                            go_wp2_with fail
                            go_ret
                            exact ⟨rfl, HB4.out⟩
                        have HER2 : Hid (X = if isKeyB pc = false then 5
                          else if 0 < q ∧ ¬ (Op.bytesLess qn pn = true ∨ qn = pn ∧ qa < pa) then 7 else 0) := by show _ = _; rw [HER1.out, if_neg (by decide)]
                        clear HER1
                        simp only [if_true, Bool.false_eq_true, if_false]
                        as_aux_lemma =>
                          go_wp2_with fail
                          refine (keyR_any pc _ (by omega)).mono ?_
                          rintro e w5 ⟨rfl, hb5⟩
                          have e0 := (hb5.cell (p := ⟨T, 0, none⟩) hz4).trans f0
                          have e1 := (hb5.cell (p := ⟨T, 1, none⟩) hz4).trans f1
                          have hz5 : T < w5.heap.size := Nat.lt_of_lt_of_le hz4 hb5.size
                          have HB5 := Lib.hid (ext_trans HB4.out hb5)
                          clear hb5 f0 f1 f2 hz4 HB4
                          generalize isKeyB pc = g3 at HER2 ⊢
                          cases g3
                          · obtain rfl : X = 5 := by rw [HER2.out, if_pos rfl]
                            obtain rfl : R = 5 := HSTOP.out (by decide)
                            clear HER2 HSTOP HNX HPV
                            as_aux_lemma =>
                              go_wp2_with fail
                              go_ret
                              exact ⟨rfl, HB5.out⟩
                          have HER3 : Hid (X = if 0 < q ∧ ¬ (Op.bytesLess qn pn = true ∨ qn = pn ∧ qa < pa) then 7 else 0) := by show _ = _; rw [HER2.out, if_neg (by decide)]
                          clear HER2
                          by_cases hq0 : q = 0
                          · subst hq0
                            have HZ2 := Lib.hid (HNX.out (by rw [HER3.out, if_neg (fun h => by omega)]))
                            clear HER3 HNX HSTOP HPV
                            as_aux_lemma =>
                              go_upto_region 27 with (fail)
                              obtain ⟨wd, hwd⟩ : ∃ x : World, x = w5.drew := ⟨_, rfl⟩
                              have HS0 : Hid (Below w5.drew.heap.size w5.drew w5.drew) := Below.refl _ _
                              refine region_seqI (S := fun W => Below w5.drew.heap.size w5.drew W) [(true, 0), (true, 1), (true, 2), (true, 3), (true, 4), (true, 5), (true, 6), (true, 7), (true, 8), (true, 9), (true, 10), (true, 11), (true, 12), (true, 13), (true, 14), (true, 15), (true, 16), (true, 17), (true, 18), (true, 19), (true, 20), (true, 21), (true, 22), (true, 23), (true, 24), (true, 25)] (by kernel_rfl) (by kernel_rfl) rfl (by kernel_rfl) HS0.out ?_
                              simp only [seqOps, List.getD_cons_zero, List.getD_cons_succ]
                              refine seqI_take (v := .int .i64 0) rfl (fun W hW => by go_simp) (fun _ _ _ h => h) ?_
                              simp only [Act.put, List.setIfInBounds_toArray, List.set_cons_zero, List.set_cons_succ]
                              refine seqI_take (v := .bool false) rfl (fun W hW => by go_simp) (fun _ _ _ h => h) ?_
                              simp only [Act.put, List.setIfInBounds_toArray, List.set_cons_zero, List.set_cons_succ]
                              refine seqI_take (v := .bool false) rfl (fun W hW => by go_simp) (fun _ _ _ h => h) ?_
                              simp only [Act.put, List.setIfInBounds_toArray, List.set_cons_zero, List.set_cons_succ]
                              refine seqI_skip rfl (fun _ _ _ h => h) ?_
                              simp only [Act.put, List.setIfInBounds_toArray, List.set_cons_zero, List.set_cons_succ]
                              refine seqI_skip rfl (fun _ _ _ h => h) ?_
                              simp only [Act.put, List.setIfInBounds_toArray, List.set_cons_zero, List.set_cons_succ]
                              refine seqI_skip rfl (fun _ _ _ h => h) ?_
                              simp only [Act.put, List.setIfInBounds_toArray, List.set_cons_zero, List.set_cons_succ]
                              refine seqI_skip rfl (fun _ _ _ h => h) ?_
                              simp only [Act.put, List.setIfInBounds_toArray, List.set_cons_zero, List.set_cons_succ]
                              refine seqI_skip rfl (fun _ _ _ h => h) ?_
                              simp only [Act.put, List.setIfInBounds_toArray, List.set_cons_zero, List.set_cons_succ]
                              refine seqI_skip rfl (fun _ _ _ h => h) ?_
                              simp only [Act.put, List.setIfInBounds_toArray, List.set_cons_zero, List.set_cons_succ]
                              refine seqI_skip rfl (fun _ _ _ h => h) ?_
                              simp only [Act.put, List.setIfInBounds_toArray, List.set_cons_zero, List.set_cons_succ]
                              refine seqI_skip rfl (fun _ _ _ h => h) ?_
                              simp only [Act.put, List.setIfInBounds_toArray, List.set_cons_zero, List.set_cons_succ]
                              refine seqI_skip rfl (fun _ _ _ h => h) ?_
                              simp only [Act.put, List.setIfInBounds_toArray, List.set_cons_zero, List.set_cons_succ]
                              refine seqI_skip rfl (fun _ _ _ h => h) ?_
                              simp only [Act.put, List.setIfInBounds_toArray, List.set_cons_zero, List.set_cons_succ]
                              refine seqI_skip rfl (fun _ _ _ h => h) ?_
                              simp only [Act.put, List.setIfInBounds_toArray, List.set_cons_zero, List.set_cons_succ]
                              refine seqI_skip rfl (fun _ _ _ h => h) ?_
                              simp only [Act.put, List.setIfInBounds_toArray, List.set_cons_zero, List.set_cons_succ]
                              refine seqI_skip rfl (fun _ _ _ h => h) ?_
                              simp only [Act.put, List.setIfInBounds_toArray, List.set_cons_zero, List.set_cons_succ]
                              refine seqI_skip rfl (fun _ _ _ h => h) ?_
                              simp only [Act.put, List.setIfInBounds_toArray, List.set_cons_zero, List.set_cons_succ]
                              refine seqI_skip rfl (fun _ _ _ h => h) ?_
                              simp only [Act.put, List.setIfInBounds_toArray, List.set_cons_zero, List.set_cons_succ]
                              refine seqI_skip rfl (fun _ _ _ h => h) ?_
                              simp only [Act.put, List.setIfInBounds_toArray, List.set_cons_zero, List.set_cons_succ]
                              refine seqI_skip rfl (fun _ _ _ h => h) ?_
                              simp only [Act.put, List.setIfInBounds_toArray, List.set_cons_zero, List.set_cons_succ]
                              refine seqI_skip rfl (fun _ _ _ h => h) ?_
                              simp only [Act.put, List.setIfInBounds_toArray, List.set_cons_zero, List.set_cons_succ]
                              refine seqI_skip rfl (fun _ _ _ h => h) ?_
                              simp only [Act.put, List.setIfInBounds_toArray, List.set_cons_zero, List.set_cons_succ]
                              refine seqI_skip rfl (fun _ _ _ h => h) ?_
                              simp only [Act.put, List.setIfInBounds_toArray, List.set_cons_zero, List.set_cons_succ]
                              refine seqI_skip rfl (fun _ _ _ h => h) ?_
                              simp only [Act.put, List.setIfInBounds_toArray, List.set_cons_zero, List.set_cons_succ]
                              refine seqI_take (v := .bool false) rfl (fun W hW => by go_simp) (fun _ _ _ h => h) ?_
                              simp only [Act.put, List.setIfInBounds_toArray, List.set_cons_zero, List.set_cons_succ]
                              refine seqI_take (v := .bool false) rfl (fun W hW => by go_simp) (fun _ _ _ h => h) ?_
                              simp only [Act.put, List.setIfInBounds_toArray, List.set_cons_zero, List.set_cons_succ]
                              refine seqI_nil ?_
                              as_aux_lemma =>
                                go_wp2_with fail
                                go_roundw
                                case rel => exact ⟨1, by omega, by go_num, HZ2.out, HB5.out.drew⟩
                                case measure => simp [intOf]; omega
                          · obtain ⟨j, rfl⟩ : ∃ j, q = j + 1 := ⟨q - 1, by omega⟩
                            obtain ⟨k0, k1⟩ := HPV.out (by omega)
                            rw [Nat.add_sub_cancel] at k0 k1
                            have g0 : w5.drew.cell? ⟨b, off + j * 3, none⟩ = some (.string ⟨qn.toArray⟩) := (HB5.out.cell (p := ⟨b, off + j * 3, none⟩) hb).trans k0
                            have g1 : w5.drew.cell? ⟨b, off + j * 3 + 1, none⟩ = some (.int .i64 qa) := (HB5.out.cell (p := ⟨b, off + j * 3 + 1, none⟩) hb).trans k1
                            have HER4 : Hid (X = if ¬ (Op.bytesLess qn pn = true ∨ qn = pn ∧ qa < pa) then 7 else 0) := by
                              show _ = _
                              rw [HER3.out]
                              congr 1
                              exact propext ⟨fun h => h.2, fun h => ⟨by omega, h⟩⟩
                            clear HER3 HPV k0 k1 hq0
                            as_aux_lemma =>
                              go_upto_region 27 with (fail)
                              have d0 : w5.drew.cell? ⟨T, 0, none⟩ = some (.string ⟨pn.toArray⟩) := e0
                              have d1 : w5.drew.cell? ⟨T, 1, none⟩ = some (.int .i64 pa) := e1
                              have hT : T < w5.drew.heap.size := hz5
                              have hbw : b < w5.drew.heap.size := Nat.lt_of_lt_of_le hb HB5.out.size
                              have HX5 : Hid (Below w.heap.size w w5.drew) := HB5.out.drew
                              have HS0 : Hid (Below w5.drew.heap.size w5.drew w5.drew) := Below.refl _ _
                              have w1 : IntKind.i64.wrap (j : Int) = j := IntWalk.i64_in _ (by omega)
                              have w2' : IntKind.i64.wrap ((j : Int) + 1 - 1) = j := by rw [Int.add_sub_cancel]; exact w1
                              have w4' : (j : Int) < m2 := by omega
                              have w5' : (0 : Int) ≤ (j : Int) := by omega
                              clear e0 e1 HB5 hz5
                              refine region_seqI (S := fun W => Below w5.drew.heap.size w5.drew W) [(true, 0), (true, 1), (true, 2), (true, 3), (true, 4), (true, 5), (true, 6), (true, 7), (true, 8), (true, 9), (true, 10), (true, 12), (true, 13), (true, 14), (true, 15), (true, 16), (true, 17), (true, 18), (true, 19), (false, 11), (false, 20), (false, 21), (false, 22), (true, 23), (true, 24), (true, 25)] (by kernel_rfl) (by kernel_rfl) rfl (by kernel_rfl) HS0.out ?_
                              simp only [seqOps, List.getD_cons_zero, List.getD_cons_succ]
                              generalize w5.drew = wd at HS0 HX5 g0 g1 d0 d1 hT hbw ⊢
                              refine seqI_take (v := .int .i64 ((j : Int) + 1)) rfl (fun W hW => by go_simp) (fun _ _ _ h => h) ?_
                              simp only [Act.put, List.setIfInBounds_toArray, List.set_cons_zero, List.set_cons_succ]
                              refine seqI_take (v := .bool true) rfl (fun W hW => by go_simp) (fun _ _ _ h => h) ?_
                              simp only [Act.put, List.setIfInBounds_toArray, List.set_cons_zero, List.set_cons_succ]
                              refine seqI_take (v := .bool true) rfl (fun W hW => by go_simp) (fun _ _ _ h => h) ?_
                              simp only [Act.put, List.setIfInBounds_toArray, List.set_cons_zero, List.set_cons_succ]
                              refine seqI_take (v := .slice (some ⟨b, off, none⟩) m2 cap2) rfl (fun W hW => by go_simp) (fun _ _ _ h => h) ?_
                              simp only [Act.put, List.setIfInBounds_toArray, List.set_cons_zero, List.set_cons_succ]
                              refine seqI_take (v := .int .i64 ((j : Int) + 1)) rfl (fun W hW => by go_simp) (fun _ _ _ h => h) ?_
                              simp only [Act.put, List.setIfInBounds_toArray, List.set_cons_zero, List.set_cons_succ]
                              refine seqI_take (v := .int .i64 (j : Int)) rfl (fun W hW => by go_simp) (fun _ _ _ h => h) ?_
                              simp only [Act.put, List.setIfInBounds_toArray, List.set_cons_zero, List.set_cons_succ]
                              refine seqI_take (v := .pointer (some ⟨b, off + j * 3, none⟩)) rfl (fun W hW => by go_simp) (fun _ _ _ h => h) ?_
                              simp only [Act.put, List.setIfInBounds_toArray, List.set_cons_zero, List.set_cons_succ]
                              refine seqI_take (v := .pointer (some ⟨b, off + j * 3, none⟩)) rfl (fun W hW => by go_simp) (fun _ _ _ h => h) ?_
                              simp only [Act.put, List.setIfInBounds_toArray, List.set_cons_zero, List.set_cons_succ]
                              refine seqI_take (v := .string ⟨qn.toArray⟩) rfl (fun W hW => by have m0 := (hW.cell (p := ⟨b, off + j * 3, none⟩) hbw).trans g0; go_simp) (fun _ _ _ h => h) ?_
                              simp only [Act.put, List.setIfInBounds_toArray, List.set_cons_zero, List.set_cons_succ]
                              refine seqI_take (v := .pointer (some ⟨T, 0, none⟩)) rfl (fun W hW => by go_simp) (fun _ _ _ h => h) ?_
                              simp only [Act.put, List.setIfInBounds_toArray, List.set_cons_zero, List.set_cons_succ]
                              refine seqI_take (v := .string ⟨pn.toArray⟩) rfl (fun W hW => by have m0 := (hW.cell (p := ⟨T, 0, none⟩) hT).trans d0; go_simp) (fun _ _ _ h => h) ?_
                              simp only [Act.put, List.setIfInBounds_toArray, List.set_cons_zero, List.set_cons_succ]
                              refine seqI_take (v := .slice (some ⟨b, off, none⟩) m2 cap2) rfl (fun W hW => by go_simp) (fun _ _ _ h => h) ?_
                              simp only [Act.put, List.setIfInBounds_toArray, List.set_cons_zero, List.set_cons_succ]
                              refine seqI_take (v := .int .i64 ((j : Int) + 1)) rfl (fun W hW => by go_simp) (fun _ _ _ h => h) ?_
                              simp only [Act.put, List.setIfInBounds_toArray, List.set_cons_zero, List.set_cons_succ]
                              refine seqI_take (v := .int .i64 (j : Int)) rfl (fun W hW => by go_simp) (fun _ _ _ h => h) ?_
                              simp only [Act.put, List.setIfInBounds_toArray, List.set_cons_zero, List.set_cons_succ]
                              refine seqI_take (v := .pointer (some ⟨b, off + j * 3, none⟩)) rfl (fun W hW => by go_simp) (fun _ _ _ h => h) ?_
                              simp only [Act.put, List.setIfInBounds_toArray, List.set_cons_zero, List.set_cons_succ]
                              refine seqI_take (v := .pointer (some ⟨b, off + j * 3 + 1, none⟩)) rfl (fun W hW => by go_simp) (fun _ _ _ h => h) ?_
                              simp only [Act.put, List.setIfInBounds_toArray, List.set_cons_zero, List.set_cons_succ]
                              refine seqI_take (v := .int .i64 qa) rfl (fun W hW => by have m0 := (hW.cell (p := ⟨b, off + j * 3 + 1, none⟩) hbw).trans g1; go_simp) (fun _ _ _ h => h) ?_
                              simp only [Act.put, List.setIfInBounds_toArray, List.set_cons_zero, List.set_cons_succ]
                              refine seqI_take (v := .pointer (some ⟨T, 1, none⟩)) rfl (fun W hW => by go_simp) (fun _ _ _ h => h) ?_
                              simp only [Act.put, List.setIfInBounds_toArray, List.set_cons_zero, List.set_cons_succ]
                              refine seqI_take (v := .int .i64 pa) rfl (fun W hW => by have m0 := (hW.cell (p := ⟨T, 1, none⟩) hT).trans d1; go_simp) (fun _ _ _ h => h) ?_
                              simp only [Act.put, List.setIfInBounds_toArray, List.set_cons_zero, List.set_cons_succ]
                              refine seqI_call 52 #[.string ⟨qn.toArray⟩, .string ⟨pn.toArray⟩] rfl (by go_simp) (cmpB_any qn pn _) ?_
                              rintro e w5 ⟨r1, rfl, hr1, hr2, hw5⟩
                              replace hw5 := hw5.symm
                              subst hw5
                              refine ⟨_, rfl, HS0.out, ?_⟩
                              simp only [Act.put, List.setIfInBounds_toArray, List.set_cons_zero, List.set_cons_succ]
                              refine seqI_call 53 #[.int .i64 qa, .int .i64 pa] rfl (by go_simp) (cmpI_any qa pa _) ?_
                              rintro e w6 ⟨r2, rfl, hr3, hr4, hw6⟩
                              replace hw6 := hw6.symm
                              subst hw6
                              refine ⟨_, rfl, HS0.out, ?_⟩
                              simp only [Act.put, List.setIfInBounds_toArray, List.set_cons_zero, List.set_cons_succ]
                              have HSG := Lib.hid (first_sign hr1 hr2 hr3)
                              clear hr1 hr2 hr3 hr4
                              refine seqI_do rfl (wp_made (v := .slice (some ⟨wd.heap.size, 0, none⟩) 2 2) (w' := wd.alloc (.cells #[.int .i64 r1, .int .i64 r2] 3)) (by go_simp) ⟨ext_alloc HS0.out, ?_⟩)
                              simp only [Act.put, List.setIfInBounds_toArray, List.set_cons_zero, List.set_cons_succ]
                              refine seqI_call 51 #[.slice (some ⟨wd.heap.size, 0, none⟩) 2 2] rfl (by go_simp) (orI_any r1 r2 wd.heap.size _ (by simp) (by go_simp) (by go_simp)) ?_
                              rintro e w7 ⟨rfl, hw7⟩
                              subst hw7
                              refine ⟨_, rfl, ext_alloc HS0.out, ?_⟩
                              simp only [Act.put, List.setIfInBounds_toArray, List.set_cons_zero, List.set_cons_succ]
                              generalize firstE r1 r2 = z at HSG ⊢
                              by_cases hz : 0 ≤ z
                              · obtain rfl : X = 7 := by rw [HER4.out, if_pos (by rw [← HSG.out]; omega)]
                                obtain rfl : R = 7 := HSTOP.out (by decide)
                                refine seqI_take (v := .bool true) rfl (fun W hW => by go_simp) (fun _ _ _ h => h) ?_
                                simp only [Act.put, List.setIfInBounds_toArray, List.set_cons_zero, List.set_cons_succ]
                                refine seqI_take (v := .bool true) rfl (fun W hW => by go_simp) (fun _ _ _ h => h) ?_
                                simp only [Act.put, List.setIfInBounds_toArray, List.set_cons_zero, List.set_cons_succ]
                                refine seqI_take (v := .bool true) rfl (fun W hW => by go_simp) (fun _ _ _ h => h) ?_
                                simp only [Act.put, List.setIfInBounds_toArray, List.set_cons_zero, List.set_cons_succ]
                                refine seqI_nil ?_
                                clear HER4 HNX HSG HSTOP w1 w2' w4' w5'
                                as_aux_lemma =>
                                  go_wp2_with fail
                                  go_ret
                                  exact ⟨rfl, HX5.out.trans ((ext_alloc (Below.refl _ _)).mono HX5.out.size)⟩
                              · have hz' : z < 0 := by omega
                                have HZ2 := Lib.hid (HNX.out (by rw [HER4.out, if_neg (fun h => h (HSG.out.1 hz'))]))
                                refine seqI_take (v := .bool false) rfl (fun W hW => by go_simp) (fun _ _ _ h => h) ?_
                                simp only [Act.put, List.setIfInBounds_toArray, List.set_cons_zero, List.set_cons_succ]
                                refine seqI_take (v := .bool false) rfl (fun W hW => by go_simp) (fun _ _ _ h => h) ?_
                                simp only [Act.put, List.setIfInBounds_toArray, List.set_cons_zero, List.set_cons_succ]
                                refine seqI_take (v := .bool false) rfl (fun W hW => by go_simp) (fun _ _ _ h => h) ?_
                                simp only [Act.put, List.setIfInBounds_toArray, List.set_cons_zero, List.set_cons_succ]
                                refine seqI_nil ?_
                                have HX6 : Hid (Below w.heap.size w (wd.alloc (.cells #[.int .i64 r1, .int .i64 r2] 3))) := HX5.out.trans ((ext_alloc (Below.refl _ _)).mono HX5.out.size)
                                clear HER4 HNX HSG HSTOP hz hz' w1 w2' w4' w5'
                                as_aux_lemma =>
                                  go_wp2_with fail
                                  go_roundw
                                  case rel => exact ⟨j + 1 + 1, by omega, by go_num, HZ2.out, HX6.out⟩
                                  case measure => simp [intOf]; omega
                  · obtain rfl : q = m2 := by omega
                    obtain rfl : R = 0 := HC4.out.2 HZ.out
                    go_wp2_with fail
                    go_ret
                    exact ⟨rfl, HBq.out⟩
end Go.Proofs.YtmbimfmalijjpaaGreatDoor
