/- What is proved here: right numbers that a stream hands out for a plan. Condition: the stream and the plan lie in memory as stated; the plan is right. -/
import Derived.Test.YthajppcmmmkfcaaGreatDoorPlanNumber
set_option linter.unusedVariables false
set_option linter.unusedSimpArgs false
namespace Go.Proofs.YthajppcmmmkfcaaGreatDoor
open Go.RowKit

def digs (l : List UInt8) : Bool := l.all fun c => decide (48 ≤ c.toNat) && decide (c.toNat ≤ 57)
theorem digs_app (a b : List UInt8) : digs (a ++ b) = (digs a && digs b) := by simp [digs, List.all_append]

theorem plan_area {l : List Ctry} (h : planErr l = 0) : ∀ i, i < l.length → ∀ z, z < (l.getD i noCtry).areas.length → areaErr (l.getD i noCtry) z = 0 := by
  unfold planErr at h
  split at h
  · cases h
  intro i hi z hz
  have := first_zero h i hi
  unfold partErr at this
  split at this
  · rename_i h1; exact absurd this h1
  · exact first_zero this z hz
theorem area_parts {c : Ctry} {z : Nat} (h : areaErr c z = 0) : digitsB (c.areas.getD z noArea).pre 1 8 = true ∧ Lib.hasPrefix (c.trunk ++ (c.areas.getD z noArea).pre) c.abroad = false ∧ Lib.hasPrefix c.abroad (c.trunk ++ (c.areas.getD z noArea).pre) = false ∧ (((c.areas.getD z noArea).pre.length : Int) < (c.areas.getD z noArea).low ∧ (c.areas.getD z noArea).low ≤ (c.areas.getD z noArea).high ∧ (c.areas.getD z noArea).high ≤ 15 - (c.code.length : Int) ∧ 4 - (c.code.length : Int) ≤ (c.areas.getD z noArea).low) := by
  unfold areaErr areaErrOf at h
  generalize c.areas.getD z noArea = a at h ⊢
  split at h
  · cases h
  rename_i h1
  split at h
  · cases h
  split at h
  · cases h
  rename_i h3
  split at h
  · cases h
  rename_i h4
  simp only [Bool.or_eq_true, not_or, Bool.not_eq_true] at h3
  have h4' : areaBad c.code a.pre a.low a.high = false := by simpa using h4
  unfold areaBad at h4'
  simp only [Bool.or_eq_false_iff, decide_eq_false_iff_not] at h4'
  exact ⟨by simpa using h1, h3.2.1, h3.2.2, by omega⟩

/-- A number that is right for a plan. -/
def RightN (l : List Ctry) (s : List UInt8) : Prop :=
  ∃ (r : Nat) (c : Ctry) (z : Nat) (d : List UInt8), r < l.length ∧ l.getD r noCtry = c ∧ z < c.an ∧ s = (([43] ++ c.code) ++ (c.areas.getD z noArea).pre) ++ d ∧ ((c.areas.getD z noArea).low ≤ ((c.areas.getD z noArea).pre.length : Int) + d.length ∧ ((c.areas.getD z noArea).pre.length : Int) + d.length ≤ (c.areas.getD z noArea).high) ∧ digs d = true
structure CBox (S k : Nat) (l : List Ctry) (w0 w : World) (C : Nat) (c : Ctry) : Prop where
  box : CtryBox S k w0 w C c
  here : ∃ r, r < l.length ∧ l.getD r noCtry = c
structure ABox (S k : Nat) (l : List Ctry) (w0 w : World) (C D : Nat) (c : Ctry) (x : Area) : Prop where
  box : AreaBox S k w0 w C D c x
  here : ∃ r, r < l.length ∧ l.getD r noCtry = c
  area : ∃ z, z < c.an ∧ c.areas.getD z noArea = x
theorem CBox.stream {S k : Nat} {l : List Ctry} {w0 w : World} {C : Nat} {c : Ctry} (h : CBox S k l w0 w C c) : StreamOk w S k := h.box.stream
theorem CBox.rowAt {S k : Nat} {l : List Ctry} {w0 w : World} {C : Nat} {c : Ctry} (h : CBox S k l w0 w C c) {w9 : World} (h9 : Keeps S w w9) : AreaRow w9 c.aa c.an c.areas := h.box.rowAt h9
theorem ABox.stream {S k : Nat} {l : List Ctry} {w0 w : World} {C D : Nat} {c : Ctry} {x : Area} (h : ABox S k l w0 w C D c x) : StreamOk w S k := h.box.stream

set_option maxRecDepth 100000 in
theorem digitRow_all (S k n : Nat) (w : World) (h : StreamOk w S k) (hk : k ≤ 100000000) (hn : n ≤ 1000) :
    Calls Tryz.prog 62 #[.pointer (some ⟨S, 0, none⟩), .int .i64 n] w (SomePost S (k + 1000) (fun r => r.length = n ∧ digs r = true) w) := by
  have HS := Lib.hid h
  clear h
  go_enter Tryz.func62, Tryz.ntmps62
  go_wp2_with fail
  go_loopw [5, 7] (fun v it wr => ∃ (j : Nat) (x : List UInt8), j ≤ n ∧ x.length = j ∧ Hid (digs x = true) ∧ v = .string ⟨x.toArray⟩ ∧ it = .int .i64 j ∧ Hid (StreamOk wr S (k + j)) ∧ Hid (Keeps S w wr)) (fun _ it _ => n - (intOf it).toNat)
  case atStart => exact ⟨0, [], Nat.zero_le _, rfl, rfl, rfl, rfl, HS, Keeps.refl _ _⟩
  case round =>
    obtain ⟨j, x, hj, hx, HD, rfl, rfl, HO, HK⟩ := hrel
    by_cases hlt : j < n
    · have hl := HO.out.lt
      go_wp2_with fail
      refine (some_any S (k + j) wr.heap.size 7 7 [[48], [49], [50], [51], [48], [57], [53]] (fun r => r.length = 1 ∧ digs r = true) _ (HO.out.below (ext_alloc (Below.refl _ _))) (by omega) (by simp) (by omega) (by omega) (by omega) (fun i hi => by match i, hi with | 0, _ | 1, _ | 2, _ | 3, _ | 4, _ | 5, _ | 6, _ => go_simp) (fun i hi => by match i, hi with | 0, _ | 1, _ | 2, _ | 3, _ | 4, _ | 5, _ | 6, _ => decide)).mono ?_
      rintro e w2 ⟨r, rfl, ⟨hr, hrd⟩, hst2, hkp2⟩
      have HK2 := Lib.hid ((HK.out.alloc _).trans hkp2)
      have HS2 := Lib.hid hst2
      have HD2 : Hid (digs (x ++ r) = true) := by show _ = _; rw [digs_app, HD.out, hrd]; rfl
      clear hst2 hkp2 hrd
      go_wp2_with fail
      go_roundw
      case rel => exact ⟨j + 1, x ++ r, by omega, by rw [List.length_append]; omega, HD2, by rw [cat_str], by go_num, HS2.out, HK2.out⟩
      case measure => simp [intOf]; omega
    · have hf : Hid (x.length = n) := by show _ = _; omega
      have HS2 := Lib.hid (HO.out.mono (show k + j ≤ k + 1000 by omega))
      go_wp2_with fail
      go_ret
      exact ⟨x, rfl, ⟨hf.out, HD.out⟩, HS2.out, HK.out⟩

set_option maxRecDepth 100000 in
set_option maxHeartbeats 8000000 in
theorem rightNumber_any (S k : Nat) (w : World) (a : Option Addr) (n cap : Nat) (l : List Ctry) (h : StreamOk w S k) (hk : k ≤ 10000000) (hrow : ∀ w9, Keeps S w w9 → CtryRow w9 a n l) (hcap : n ≤ cap) (h1 : 1 ≤ n) (hna : ∀ i, i < l.length → 1 ≤ (l.getD i noCtry).an) (hE : planErr l = 0) :
    Calls Tryz.prog 44 #[.pointer (some ⟨S, 0, none⟩), .slice a n cap] w (SomePost S (k + 4000) (fun s => RightN l s ∧ s.length ≤ 300) w) := by
  have HS := Lib.hid h
  have HR := Lib.hid hrow
  have HNA := Lib.hid hna
  have HE := Lib.hid hE
  have hlt := h.lt
  obtain ⟨b, off, rfl, hb, hcell⟩ := ctry_at (hrow w (Keeps.refl _ _)) h1
  have HLEN := Lib.hid (hrow w (Keeps.refl _ _)).len
  have HFINE := Lib.hid (hrow w (Keeps.refl _ _)).each
  have hfew := (hrow w (Keeps.refl _ _)).few
  clear h hrow hna hcell hE
  obtain ⟨m, rfl⟩ : ∃ m, n = m + 1 := ⟨n - 1, by omega⟩
  go_enter Tryz.func44, Tryz.ntmps44
  go_upto_region 1 with (fail)
  go_cut [5] (fun s5 wx => ∃ (c : Ctry) (C : Nat), s5 = .pointer (some ⟨C, 0, none⟩) ∧ Hid (CBox S (k + 1) l w wx C c))
  case first =>
    go_wp2_with fail
    refine (next_any S k ((m : Int) + 1) _ HS.out (by omega) (by omega) (by omega)).mono ?_
    rintro e w3 ⟨r, rfl, r0, r1, hst3, hk3⟩
    obtain ⟨r, rfl⟩ := Int.eq_ofNat_of_zero_le r0
    have hr : r < m + 1 := by omega
    have HK3 := Lib.hid hk3
    have HS3 := Lib.hid hst3
    have hl3 := hst3.lt
    have hr3 := HR.out w3 HK3.out
    obtain ⟨b9, off9, ha9, hb9, hc9⟩ := ctry_at hr3 h1
    injection ha9 with ha9
    injection ha9 with e1 e2
    subst e1 e2
    have k0 := hc9 r hr 0 (by omega)
    have k1 := hc9 r hr 1 (by omega)
    have k2 := hc9 r hr 2 (by omega)
    have k3 := hc9 r hr 3 (by omega)
    have HFI := Lib.hid (hr3.each r (by have := HLEN.out; omega))
    have HSM := Lib.hid (HNA.out r (by have := HLEN.out; omega))
    have HAT : Hid (∀ w9, Keeps S w3 w9 → AreaRow w9 (l.getD r noCtry).aa (l.getD r noCtry).an (l.getD r noCtry).areas) := fun w9 h9 => ((HR.out w9 (HK3.out.trans h9)).each r (by have := HLEN.out; omega)).row
    have HIN : Hid (∃ r9, r9 < l.length ∧ l.getD r9 noCtry = l.getD r noCtry) := ⟨r, by have := HLEN.out; omega, rfl⟩
    clear hst3 hk3 hc9 hr3 HR HNA HS r0 r1 HFINE
    generalize l.getD r noCtry = c at k0 k1 k2 k3 HFI HSM HAT HIN
    obtain ⟨code, abroad, trunk, aa, an, ac, areas⟩ := c
    simp only [Ctry.cells, List.getElem?_cons_zero, List.getElem?_cons_succ, Nat.add_zero] at k0 k1 k2 k3
    have HEND : Hid (CBox S (k + 1) l w (w3.alloc (.cells #[.string ⟨code.toArray⟩, .string ⟨abroad.toArray⟩, .string ⟨trunk.toArray⟩, .slice aa an ac] 68)) w3.heap.size ⟨code, abroad, trunk, aa, an, ac, areas⟩) := by
      refine ⟨⟨fun j hj => ?_, by simp, by omega, HS3.out.below (ext_alloc (Below.refl _ _)), HK3.out.alloc _, fun h9 => HAT.out _ (Keeps.trans ((Keeps.refl S w3).alloc _) h9), fun z hz => HFI.out.each z (by have := HFI.out.row.len; omega), HFI.out.code, HSM.out, HFI.out.many⟩, HIN.out⟩
      match j, hj with
      | 0, _ | 1, _ | 2, _ | 3, _ => simp [Ctry.cells]
    clear HFI HSM HAT HS3 HK3 HIN
    go_wp2_with fail
    go_meet
    exact ⟨_, _, rfl, HEND.out⟩
  case rest =>
    obtain ⟨c0, C, rfl, HX⟩ := hcut
    have HAR : Hid (∀ z, z < c0.an → ((c0.areas.getD z noArea).pre.length : Int) < (c0.areas.getD z noArea).low ∧ (c0.areas.getD z noArea).low ≤ (c0.areas.getD z noArea).high ∧ (c0.areas.getD z noArea).high ≤ 15 - (c0.code.length : Int)) := by
      intro z hz
      obtain ⟨r, hr, rfl⟩ := HX.out.here
      have := (HFINE.out r hr).row.len
      obtain ⟨-, -, -, g1, g2, g3, -⟩ := area_parts (plan_area HE.out r hr z (by omega))
      exact ⟨g1, g2, g3⟩
    obtain ⟨code, abroad, trunk, aa, an, ac, areas⟩ := c0
    have c3 := HX.out.box.cells 3 (by omega)
    have c0 := HX.out.box.cells 0 (by omega)
    simp only [Ctry.cells, List.getElem?_cons_zero, List.getElem?_cons_succ] at c3 c0
    have Cl := HX.out.box.Cl
    have CS := HX.out.box.CS
    obtain ⟨h1an, han⟩ := HX.out.box.many
    have hSc := HX.out.box.stream.lt
    have hcode : code.length ≤ 100 := HX.out.box.code
    simp only at h1an han
    clear HR HNA HS HLEN HFINE HE
    go_upto_region 2 with (fail)
    go_cut [6] (fun s6 wx => ∃ (x : Area) (D : Nat), s6 = .pointer (some ⟨D, 0, none⟩) ∧ Hid (ABox S (k + 2) l w wx C D ⟨code, abroad, trunk, aa, an, ac, areas⟩ x))
    case first =>
        skip
        refine region_all S (k + 1) 1 10 9 [.val (fun v => .pointer (some ⟨C, 3, none⟩) = v), .val (fun v => .slice aa an ac = v), .val (fun v => .pointer (some ⟨S, 0, none⟩) = v), .val (fun v => .pointer (some ⟨C, 3, none⟩) = v), .val (fun v => .slice aa an ac = v), .val (fun v => .int .i64 an = v), .val (fun v => ∃ z : Nat, (z < an) ∧ .int .i64 (z : Nat) = v), .val (fun v => ∃ z : Nat, (z < an) ∧ ∃ ab : Nat, (True) ∧ ∃ ao : Nat, (aa = some ⟨ab, ao, none⟩) ∧ .pointer (some ⟨ab, ao + z * 3, none⟩) = v), .val (fun v => ∃ x : Area, (∃ z, z < an ∧ areas.getD z noArea = x) ∧ .agg #[.string ⟨x.pre.toArray⟩, .int .i64 x.low, .int .i64 x.high] = v), .mem (fun (w9 : World) (v : Value) => ∃ b, v = .pointer (some ⟨b, 0, none⟩) ∧ wc.heap.size ≤ b ∧ w9.heap[b]? = some (.cells #[.string ⟨#[]⟩, .int .i64 0, .int .i64 0] 72))] [6] [some 14, some 15, some 16, some 17, some 18, some 19, some 20, some 21, some 22, some 6] (by kernel_rfl) (by kernel_rfl) (by kernel_rfl) (by kernel_rfl) (by kernel_rfl) (by kernel_rfl) rfl (by kernel_rfl) rfl rfl (by kernel_rfl) HX.out.stream ⟨?_, ?_, ?_, ?_, ?_, ?_, ?_, ?_, ?_, ?_, trivial⟩ ?_
        · intro a w' c hk hst hc hfr hdp K hK
          as_aux_lemma =>
            have E5 : a.eval (.tmp 5) = .pointer (some ⟨C, 0, none⟩) := fr_list hfr 5 (by kernel_rfl)
            have d5 := slot_of E5
            refine gen_pure (v := .pointer (some ⟨C, 3, none⟩)) ?_ (hK _ _ rfl (Keeps.refl _ _) hst)
            clear hK hdp hfr
            go_simp
        · intro a w' c hk hst hc hfr hdp K hK
          as_aux_lemma =>
            have E14 : a.eval (.tmp 14) = .pointer (some ⟨C, 3, none⟩) := Eq.symm (hdp 0 14 _ (by kernel_rfl) (by kernel_rfl) rfl)
            have d14 := slot_of E14
            have cl : w'.cell? ⟨C, 3, none⟩ = some (.slice aa an ac) := (hk.cell (p := ⟨C, 3, none⟩) Cl CS).trans c3
            refine gen_pure (v := .slice aa an ac) ?_ (hK _ _ rfl (Keeps.refl _ _) hst)
            clear hK hdp hfr
            go_simp
        · intro a w' c hk hst hc hfr hdp K hK
          as_aux_lemma =>
            have E0 : a.eval (.tmp 0) = .pointer (some ⟨S, 0, none⟩) := fr_list hfr 0 (by kernel_rfl)
            have d0 := slot_of E0
            refine gen_pure (v := .pointer (some ⟨S, 0, none⟩)) ?_ (hK _ _ rfl (Keeps.refl _ _) hst)
            clear hK hdp hfr
            go_simp
        · intro a w' c hk hst hc hfr hdp K hK
          as_aux_lemma =>
            have E5 : a.eval (.tmp 5) = .pointer (some ⟨C, 0, none⟩) := fr_list hfr 5 (by kernel_rfl)
            have d5 := slot_of E5
            refine gen_pure (v := .pointer (some ⟨C, 3, none⟩)) ?_ (hK _ _ rfl (Keeps.refl _ _) hst)
            clear hK hdp hfr
            go_simp
        · intro a w' c hk hst hc hfr hdp K hK
          as_aux_lemma =>
            have E17 : a.eval (.tmp 17) = .pointer (some ⟨C, 3, none⟩) := Eq.symm (hdp 3 17 _ (by kernel_rfl) (by kernel_rfl) rfl)
            have d17 := slot_of E17
            have cl : w'.cell? ⟨C, 3, none⟩ = some (.slice aa an ac) := (hk.cell (p := ⟨C, 3, none⟩) Cl CS).trans c3
            refine gen_pure (v := .slice aa an ac) ?_ (hK _ _ rfl (Keeps.refl _ _) hst)
            clear hK hdp hfr
            go_simp
        · intro a w' c hk hst hc hfr hdp K hK
          as_aux_lemma =>
            have E18 : a.eval (.tmp 18) = .slice aa an ac := Eq.symm (hdp 4 18 _ (by kernel_rfl) (by kernel_rfl) rfl)
            have d18 := slot_of E18
            refine gen_pure (v := .int .i64 an) ?_ (hK _ _ rfl (Keeps.refl _ _) hst)
            clear hK hdp hfr
            go_simp
        · intro a w' c hk hst hc hfr hdp K hK
          as_aux_lemma =>
            have E16 : a.eval (.tmp 16) = .pointer (some ⟨S, 0, none⟩) := Eq.symm (hdp 2 16 _ (by kernel_rfl) (by kernel_rfl) rfl)
            have d16 := slot_of E16
            have E19 : a.eval (.tmp 19) = .int .i64 an := Eq.symm (hdp 5 19 _ (by kernel_rfl) (by kernel_rfl) rfl)
            have d19 := slot_of E19
            have hc2 : c + 1 ≤ 1 := hc
            refine gen_call 40 #[.pointer (some ⟨S, 0, none⟩), .int .i64 an] ?_ (next_any S _ an w' hst (by omega) (by omega) (by omega)) ?_
            · clear hK hdp hfr; go_simp
            rintro e w'' ⟨r, rfl, r0, r1, hst2, hkp⟩
            obtain ⟨r, rfl⟩ := Int.eq_ofNat_of_zero_le r0
            exact ⟨_, rfl, hK _ _ ⟨r, by omega, rfl⟩ hkp (hst2.mono (by simp; omega))⟩
        · intro a w' c hk hst hc hfr hdp K hK
          as_aux_lemma =>
            have E15 : a.eval (.tmp 15) = .slice aa an ac := Eq.symm (hdp 1 15 _ (by kernel_rfl) (by kernel_rfl) rfl)
            have d15 := slot_of E15
            obtain ⟨z, hz, e20⟩ := hdp 6 20 _ (by kernel_rfl) (by kernel_rfl) rfl
            have E20 := Eq.symm e20
            have d20 := slot_of E20
            clear e20
            obtain ⟨ab, ao, rfl, hal, hac⟩ := area_at (HX.out.rowAt (Keeps.trans (by exact Keeps.of_below (ext_drew (Below.refl _ _))) hk)) h1an
            refine gen_pure (v := .pointer (some ⟨ab, ao + z * 3, none⟩)) ?_ (hK _ _ ⟨z, hz, ab, trivial, ao, rfl, rfl⟩ (Keeps.refl _ _) hst)
            clear hK hdp hfr hac
            go_simp
        · intro a w' c hk hst hc hfr hdp K hK
          as_aux_lemma =>
            obtain ⟨z, hz, ab, hab, ao, hao, e21⟩ := hdp 7 21 _ (by kernel_rfl) (by kernel_rfl) rfl
            have E21 := Eq.symm e21
            have d21 := slot_of E21
            clear e21
            subst hao
            obtain ⟨ab9, ao9, ha9, hal, hac⟩ := area_at (HX.out.rowAt (Keeps.trans (by exact Keeps.of_below (ext_drew (Below.refl _ _))) hk)) h1an
            injection ha9 with ha9
            injection ha9 with ha1 ha2
            subst ha1 ha2
            have q0 := hac z hz 0 (by omega)
            have q1 := hac z hz 1 (by omega)
            have q2 := hac z hz 2 (by omega)
            have hxz : ∃ z, z < an ∧ areas.getD z noArea = areas.getD z noArea := ⟨z, hz, rfl⟩
            have hxw : ∃ z9, z9 < an ∧ areas.getD z9 noArea = areas.getD z noArea := ⟨z, hz, rfl⟩
            clear hxz
            generalize areas.getD z noArea = x at q0 q1 q2 hxw
            obtain ⟨xp, xl, xh⟩ := x
            simp only [Area.cells, List.getElem?_cons_zero, List.getElem?_cons_succ, Nat.add_zero] at q0 q1 q2
            refine gen_pure (v := .agg #[.string ⟨xp.toArray⟩, .int .i64 xl, .int .i64 xh]) ?_ (hK _ _ ⟨⟨xp, xl, xh⟩, hxw, rfl⟩ (Keeps.refl _ _) hst)
            clear hK hdp hfr hac hxw
            go_simp
        · intro a w' c hk hst hc hfr hdp K hK
          as_aux_lemma =>
            refine gen_box (p := (fun (w9 : World) (v : Value) => ∃ b, v = .pointer (some ⟨b, 0, none⟩) ∧ wc.heap.size ≤ b ∧ w9.heap[b]? = some (.cells #[.string ⟨#[]⟩, .int .i64 0, .int .i64 0] 72))) #[.string ⟨#[]⟩, .int .i64 0, .int .i64 0] 72 ?_ (fun w9 hk9 => ⟨w'.heap.size, rfl, (by have := hk.size; simp at this ⊢; omega), (hk9.block w'.heap.size (by simp) (Nat.ne_of_gt hst.lt)).trans (heap_alloc_new _ _)⟩) hst hK
            clear hK hdp hfr
            go_simp
        intro w8 hk8 hst8
        rintro _ - _ - _ - _ - _ - _ - _ - _ - _ ⟨x, hx, rfl⟩ x6 p6
        simp only [ForVals, Act.put, List.setIfInBounds_toArray, List.set_cons_zero, List.set_cons_succ, List.drop_succ_cons, List.drop_zero]
        obtain ⟨D, rfl, hD, hb8⟩ := p6 w8 (Keeps.refl _ _)
        have kd : Keeps S wc w8 := Keeps.trans (by exact Keeps.of_below (ext_drew (Below.refl _ _))) hk8
        have hfx : AreaFine x := by
          obtain ⟨z, hz, rfl⟩ := hx
          exact HX.out.box.fineAt z hz
        have HEND : Hid (ABox S (k + 2) l w _ C D ⟨code, abroad, trunk, aa, an, ac, areas⟩ x) := ⟨area_box_made HX.out.box kd (hst8.mono (by simp)) hD hb8 hfx hSc, HX.out.here, hx⟩
        have q0 := (block_cell hb8 0).trans (show _ = some (.string ⟨#[]⟩) from rfl)
        have q1 := (block_cell hb8 1).trans (show _ = some (.int .i64 0) from rfl)
        have q2 := (block_cell hb8 2).trans (show _ = some (.int .i64 0) from rfl)
        have r0 := block_fro hb8 0
        have r1 := block_fro hb8 1
        have r2 := block_fro hb8 2
        have Dl : D < w8.heap.size := (Array.getElem?_eq_some_iff.1 hb8).1
        clear hk8 hst8 kd p6 hb8 HX c3 c0 hx hfx
        go_wp2_with fail
        go_meet
        exact ⟨x, D, rfl, HEND.out⟩
    case rest =>
        obtain ⟨⟨xp, xl, xh⟩, D, rfl, HY⟩ := hcut
        obtain ⟨wy, rfl⟩ : ∃ wy : World, wy = wc := ⟨_, rfl⟩
        have c0 := HY.out.box.box.cells 0 (by omega)
        have d0 := HY.out.box.cells 0 (by omega)
        have d1 := HY.out.box.cells 1 (by omega)
        have d2 := HY.out.box.cells 2 (by omega)
        simp only [Ctry.cells, Area.cells, List.getElem?_cons_zero, List.getElem?_cons_succ] at c0 d0 d1 d2
        have Cl := HY.out.box.box.Cl
        have CS := HY.out.box.box.CS
        have Dl := HY.out.box.Dl
        have DS := HY.out.box.DS
        obtain ⟨g1, g2, g3⟩ : (xp.length : Int) < xl ∧ xl ≤ xh ∧ xh ≤ 15 - (code.length : Int) := by
          obtain ⟨z, hz, hzx⟩ := HY.out.area
          have := HAR.out z hz
          simp only at this hzx
          rw [hzx] at this
          exact this
        have hcode : code.length ≤ 15 := by omega
        clear HX c3 HAR
        as_aux_lemma =>
          go_upto_region 3 with (fail)
          refine region_all S (k + 2) 1000 19 6 [.val (fun v => .pointer (some ⟨C, 0, none⟩) = v), .val (fun v => .string ⟨code.toArray⟩ = v), .val (fun v => .string ⟨(([43] : List UInt8) ++ code).toArray⟩ = v), .val (fun v => .pointer (some ⟨D, 0, none⟩) = v), .val (fun v => .string ⟨xp.toArray⟩ = v), .val (fun v => .string ⟨((([43] : List UInt8) ++ code) ++ xp).toArray⟩ = v), .val (fun v => .pointer (some ⟨S, 0, none⟩) = v), .val (fun v => .pointer (some ⟨S, 0, none⟩) = v), .val (fun v => .pointer (some ⟨D, 1, none⟩) = v), .val (fun v => .int .i64 xl = v), .val (fun v => .pointer (some ⟨D, 2, none⟩) = v), .val (fun v => .int .i64 xh = v), .val (fun v => ∃ zr : Int, (xl ≤ zr ∧ zr ≤ xh) ∧ .int .i64 zr = v), .val (fun v => .pointer (some ⟨D, 0, none⟩) = v), .val (fun v => .string ⟨xp.toArray⟩ = v), .val (fun v => .int .i64 (xp.length : Nat) = v), .val (fun v => ∃ zn : Nat, (xl ≤ (xp.length : Int) + zn ∧ (xp.length : Int) + zn ≤ xh) ∧ .int .i64 (zn : Nat) = v), .val (fun v => ∃ sd : List UInt8, ((xl ≤ (xp.length : Int) + sd.length ∧ (xp.length : Int) + sd.length ≤ xh) ∧ digs sd = true) ∧ .string ⟨sd.toArray⟩ = v), .val (fun v => ∃ sd : List UInt8, ((xl ≤ (xp.length : Int) + sd.length ∧ (xp.length : Int) + sd.length ≤ xh) ∧ digs sd = true) ∧ .string ⟨(((([43] : List UInt8) ++ code) ++ xp) ++ sd).toArray⟩ = v)] [12, 17] [some 23, some 24, some 25, some 26, some 27, some 28, some 29, some 30, some 31, some 32, some 33, some 34, some 35, some 36, some 37, some 38, some 39, some 40, some 41] (by kernel_rfl) (by kernel_rfl) (by kernel_rfl) (by kernel_rfl) (by kernel_rfl) (by kernel_rfl) rfl (by kernel_rfl) rfl rfl (by kernel_rfl) HY.out.stream ⟨?_, ?_, ?_, ?_, ?_, ?_, ?_, ?_, ?_, ?_, ?_, ?_, ?_, ?_, ?_, ?_, ?_, ?_, ?_, trivial⟩ ?_
          · intro a w' c hk hst hc hfr hdp K hK
            as_aux_lemma =>
              have E5 : a.eval (.tmp 5) = .pointer (some ⟨C, 0, none⟩) := fr_list hfr 5 (by kernel_rfl)
              have d5 := slot_of E5
              refine gen_pure (v := .pointer (some ⟨C, 0, none⟩)) ?_ (hK _ _ rfl (Keeps.refl _ _) hst)
              clear hK hdp hfr
              go_simp
          · intro a w' c hk hst hc hfr hdp K hK
            as_aux_lemma =>
              have E23 : a.eval (.tmp 23) = .pointer (some ⟨C, 0, none⟩) := Eq.symm (hdp 0 23 _ (by kernel_rfl) (by kernel_rfl) rfl)
              have d23 := slot_of E23
              have cl : w'.cell? ⟨C, 0, none⟩ = some (.string ⟨code.toArray⟩) := (hk.cell (p := ⟨C, 0, none⟩) Cl CS).trans c0
              refine gen_pure (v := .string ⟨code.toArray⟩) ?_ (hK _ _ rfl (Keeps.refl _ _) hst)
              clear hK hdp hfr
              go_simp
          · intro a w' c hk hst hc hfr hdp K hK
            as_aux_lemma =>
              have E24 : a.eval (.tmp 24) = .string ⟨code.toArray⟩ := Eq.symm (hdp 1 24 _ (by kernel_rfl) (by kernel_rfl) rfl)
              have d24 := slot_of E24
              refine gen_pure (v := .string ⟨(([43] : List UInt8) ++ code).toArray⟩) ?_ (hK _ _ rfl (Keeps.refl _ _) hst)
              clear hK hdp hfr
              rw [← cat_str]
              go_simp <;> omega
          · intro a w' c hk hst hc hfr hdp K hK
            as_aux_lemma =>
              have E6 : a.eval (.tmp 6) = .pointer (some ⟨D, 0, none⟩) := fr_list hfr 6 (by kernel_rfl)
              have d6 := slot_of E6
              refine gen_pure (v := .pointer (some ⟨D, 0, none⟩)) ?_ (hK _ _ rfl (Keeps.refl _ _) hst)
              clear hK hdp hfr
              go_simp
          · intro a w' c hk hst hc hfr hdp K hK
            as_aux_lemma =>
              have E26 : a.eval (.tmp 26) = .pointer (some ⟨D, 0, none⟩) := Eq.symm (hdp 3 26 _ (by kernel_rfl) (by kernel_rfl) rfl)
              have d26 := slot_of E26
              have cl : w'.cell? ⟨D, 0, none⟩ = some (.string ⟨xp.toArray⟩) := (hk.cell (p := ⟨D, 0, none⟩) Dl DS).trans d0
              refine gen_pure (v := .string ⟨xp.toArray⟩) ?_ (hK _ _ rfl (Keeps.refl _ _) hst)
              clear hK hdp hfr
              go_simp
          · intro a w' c hk hst hc hfr hdp K hK
            as_aux_lemma =>
              have E25 : a.eval (.tmp 25) = .string ⟨(([43] : List UInt8) ++ code).toArray⟩ := Eq.symm (hdp 2 25 _ (by kernel_rfl) (by kernel_rfl) rfl)
              have d25 := slot_of E25
              have E27 : a.eval (.tmp 27) = .string ⟨xp.toArray⟩ := Eq.symm (hdp 4 27 _ (by kernel_rfl) (by kernel_rfl) rfl)
              have d27 := slot_of E27
              refine gen_pure (v := .string ⟨((([43] : List UInt8) ++ code) ++ xp).toArray⟩) ?_ (hK _ _ rfl (Keeps.refl _ _) hst)
              clear hK hdp hfr
              rw [← cat_str]
              go_simp <;> omega
          · intro a w' c hk hst hc hfr hdp K hK
            as_aux_lemma =>
              have E0 : a.eval (.tmp 0) = .pointer (some ⟨S, 0, none⟩) := fr_list hfr 0 (by kernel_rfl)
              have d0 := slot_of E0
              refine gen_pure (v := .pointer (some ⟨S, 0, none⟩)) ?_ (hK _ _ rfl (Keeps.refl _ _) hst)
              clear hK hdp hfr
              go_simp
          · intro a w' c hk hst hc hfr hdp K hK
            as_aux_lemma =>
              have E0 : a.eval (.tmp 0) = .pointer (some ⟨S, 0, none⟩) := fr_list hfr 0 (by kernel_rfl)
              have d0 := slot_of E0
              refine gen_pure (v := .pointer (some ⟨S, 0, none⟩)) ?_ (hK _ _ rfl (Keeps.refl _ _) hst)
              clear hK hdp hfr
              go_simp
          · intro a w' c hk hst hc hfr hdp K hK
            as_aux_lemma =>
              have E6 : a.eval (.tmp 6) = .pointer (some ⟨D, 0, none⟩) := fr_list hfr 6 (by kernel_rfl)
              have d6 := slot_of E6
              refine gen_pure (v := .pointer (some ⟨D, 1, none⟩)) ?_ (hK _ _ rfl (Keeps.refl _ _) hst)
              clear hK hdp hfr
              go_simp
          · intro a w' c hk hst hc hfr hdp K hK
            as_aux_lemma =>
              have E31 : a.eval (.tmp 31) = .pointer (some ⟨D, 1, none⟩) := Eq.symm (hdp 8 31 _ (by kernel_rfl) (by kernel_rfl) rfl)
              have d31 := slot_of E31
              have cl : w'.cell? ⟨D, 1, none⟩ = some (.int .i64 xl) := (hk.cell (p := ⟨D, 1, none⟩) Dl DS).trans d1
              refine gen_pure (v := .int .i64 xl) ?_ (hK _ _ rfl (Keeps.refl _ _) hst)
              clear hK hdp hfr
              go_simp
          · intro a w' c hk hst hc hfr hdp K hK
            as_aux_lemma =>
              have E6 : a.eval (.tmp 6) = .pointer (some ⟨D, 0, none⟩) := fr_list hfr 6 (by kernel_rfl)
              have d6 := slot_of E6
              refine gen_pure (v := .pointer (some ⟨D, 2, none⟩)) ?_ (hK _ _ rfl (Keeps.refl _ _) hst)
              clear hK hdp hfr
              go_simp
          · intro a w' c hk hst hc hfr hdp K hK
            as_aux_lemma =>
              have E33 : a.eval (.tmp 33) = .pointer (some ⟨D, 2, none⟩) := Eq.symm (hdp 10 33 _ (by kernel_rfl) (by kernel_rfl) rfl)
              have d33 := slot_of E33
              have cl : w'.cell? ⟨D, 2, none⟩ = some (.int .i64 xh) := (hk.cell (p := ⟨D, 2, none⟩) Dl DS).trans d2
              refine gen_pure (v := .int .i64 xh) ?_ (hK _ _ rfl (Keeps.refl _ _) hst)
              clear hK hdp hfr
              go_simp
          · intro a w' c hk hst hc hfr hdp K hK
            as_aux_lemma =>
              have E30 : a.eval (.tmp 30) = .pointer (some ⟨S, 0, none⟩) := Eq.symm (hdp 7 30 _ (by kernel_rfl) (by kernel_rfl) rfl)
              have d30 := slot_of E30
              have E32 : a.eval (.tmp 32) = .int .i64 xl := Eq.symm (hdp 9 32 _ (by kernel_rfl) (by kernel_rfl) rfl)
              have d32 := slot_of E32
              have E34 : a.eval (.tmp 34) = .int .i64 xh := Eq.symm (hdp 11 34 _ (by kernel_rfl) (by kernel_rfl) rfl)
              have d34 := slot_of E34
              have hc2 : c + 1 ≤ 2 := hc
              refine gen_call 45 #[.pointer (some ⟨S, 0, none⟩), .int .i64 xl, .int .i64 xh] ?_ (range_any S _ xl xh w' hst (by omega) (by omega) (by omega) (by omega)) ?_
              · clear hK hdp hfr; go_simp
              rintro e w'' ⟨r, rfl, r0, r1, hst2, hkp⟩
              exact ⟨_, rfl, hK _ _ ⟨r, ⟨r0, r1⟩, rfl⟩ hkp (hst2.mono (by simp; omega))⟩
          · intro a w' c hk hst hc hfr hdp K hK
            as_aux_lemma =>
              have E6 : a.eval (.tmp 6) = .pointer (some ⟨D, 0, none⟩) := fr_list hfr 6 (by kernel_rfl)
              have d6 := slot_of E6
              refine gen_pure (v := .pointer (some ⟨D, 0, none⟩)) ?_ (hK _ _ rfl (Keeps.refl _ _) hst)
              clear hK hdp hfr
              go_simp
          · intro a w' c hk hst hc hfr hdp K hK
            as_aux_lemma =>
              have E36 : a.eval (.tmp 36) = .pointer (some ⟨D, 0, none⟩) := Eq.symm (hdp 13 36 _ (by kernel_rfl) (by kernel_rfl) rfl)
              have d36 := slot_of E36
              have cl : w'.cell? ⟨D, 0, none⟩ = some (.string ⟨xp.toArray⟩) := (hk.cell (p := ⟨D, 0, none⟩) Dl DS).trans d0
              refine gen_pure (v := .string ⟨xp.toArray⟩) ?_ (hK _ _ rfl (Keeps.refl _ _) hst)
              clear hK hdp hfr
              go_simp
          · intro a w' c hk hst hc hfr hdp K hK
            as_aux_lemma =>
              have E37 : a.eval (.tmp 37) = .string ⟨xp.toArray⟩ := Eq.symm (hdp 14 37 _ (by kernel_rfl) (by kernel_rfl) rfl)
              have d37 := slot_of E37
              refine gen_pure (v := .int .i64 (xp.length : Nat)) ?_ (hK _ _ rfl (Keeps.refl _ _) hst)
              clear hK hdp hfr
              go_simp
          · intro a w' c hk hst hc hfr hdp K hK
            as_aux_lemma =>
              obtain ⟨zr, hzr, e35⟩ := hdp 12 35 _ (by kernel_rfl) (by kernel_rfl) rfl
              have E35 := Eq.symm e35
              have d35 := slot_of E35
              clear e35
              have E38 : a.eval (.tmp 38) = .int .i64 (xp.length : Nat) := Eq.symm (hdp 15 38 _ (by kernel_rfl) (by kernel_rfl) rfl)
              have d38 := slot_of E38
              have hrng : 0 ≤ (zr - (xp.length : Nat)) ∧ (zr - (xp.length : Nat)) ≤ 15 := by omega
              refine gen_pure (v := .int .i64 (((zr - (xp.length : Nat)).toNat : Nat) : Int)) ?_ (hK _ _ ⟨(zr - (xp.length : Nat)).toNat, by omega, rfl⟩ (Keeps.refl _ _) hst)
              clear hK hdp hfr
              rw [Int.toNat_of_nonneg hrng.1]
              have hwr : IntKind.i64.wrap (zr - (xp.length : Nat)) = (zr - (xp.length : Nat)) := IntWalk.i64_in _ (by omega)
              clear hrng
              go_simp
          · intro a w' c hk hst hc hfr hdp K hK
            as_aux_lemma =>
              have E29 : a.eval (.tmp 29) = .pointer (some ⟨S, 0, none⟩) := Eq.symm (hdp 6 29 _ (by kernel_rfl) (by kernel_rfl) rfl)
              have d29 := slot_of E29
              obtain ⟨zn, hzn, e39⟩ := hdp 16 39 _ (by kernel_rfl) (by kernel_rfl) rfl
              have E39 := Eq.symm e39
              have d39 := slot_of E39
              clear e39
              have hc2 : c + 1 ≤ 2 := hc
              refine gen_call 62 #[.pointer (some ⟨S, 0, none⟩), .int .i64 zn] ?_ (digitRow_all S _ zn w' hst (by omega) (by omega)) ?_
              · clear hK hdp hfr; go_simp
              rintro e w'' ⟨r, rfl, ⟨hr, hr2⟩, hst2, hkp⟩
              exact ⟨_, rfl, hK _ _ ⟨r, ⟨⟨by rw [hr]; omega, by rw [hr]; omega⟩, hr2⟩, rfl⟩ hkp (hst2.mono (by simp; omega))⟩
          · intro a w' c hk hst hc hfr hdp K hK
            as_aux_lemma =>
              have E28 : a.eval (.tmp 28) = .string ⟨((([43] : List UInt8) ++ code) ++ xp).toArray⟩ := Eq.symm (hdp 5 28 _ (by kernel_rfl) (by kernel_rfl) rfl)
              have d28 := slot_of E28
              obtain ⟨sd, hsd, e40⟩ := hdp 17 40 _ (by kernel_rfl) (by kernel_rfl) rfl
              have E40 := Eq.symm e40
              have d40 := slot_of E40
              clear e40
              refine gen_pure (v := .string ⟨(((([43] : List UInt8) ++ code) ++ xp) ++ sd).toArray⟩) ?_ (hK _ _ ⟨sd, hsd, rfl⟩ (Keeps.refl _ _) hst)
              clear hK hdp hfr
              rw [← cat_str]
              go_simp <;> omega
          intro w8 hk8 hst8
          rintro _ - _ - _ - _ - _ - _ - _ - _ - _ - _ - _ - _ - _ - _ - _ - _ - _ - _ - _ ⟨sd, hsd, rfl⟩
          simp only [ForVals, Act.put, List.setIfInBounds_toArray, List.set_cons_zero, List.set_cons_succ, List.drop_succ_cons, List.drop_zero]
          have HK8 := Lib.hid (HY.out.box.box.keeps.trans (Keeps.trans (by exact Keeps.of_below (ext_drew (Below.refl _ _))) hk8))
          have HS8 := Lib.hid hst8
          have HRN : Hid (RightN l ((([43] ++ code) ++ xp) ++ sd)) := by
            obtain ⟨r, hr, hrc⟩ := HY.out.here
            obtain ⟨z, hz, hzx⟩ := HY.out.area
            simp only at hz hzx
            exact ⟨r, _, z, sd, hr, hrc, hz, by simp only [hzx], by simp only [hzx]; exact hsd.1, hsd.2⟩
          have hL : ((([43] ++ code) ++ xp) ++ sd).length ≤ 300 := by have := hsd.1; simp; omega
          generalize (([43] ++ code) ++ xp) ++ sd = fin at *
          have HL := Lib.hid hL
          clear hk8 hst8 HY c0 d0 d1 d2 hsd hL
          go_wp2_with fail
          go_ret
          exact ⟨_, rfl, ⟨HRN.out, HL.out⟩, HS8.out.mono (by simp <;> omega), HK8.out⟩
end Go.Proofs.YthajppcmmmkfcaaGreatDoor
