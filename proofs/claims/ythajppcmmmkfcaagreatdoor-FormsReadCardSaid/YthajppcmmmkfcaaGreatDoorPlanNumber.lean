/- What is proved here: numbers that a stream hands out for a plan. Condition: the stream and the plan lie in memory as stated. -/
import Derived.Test.YthajppcmmmkfcaaGreatDoorPlanDraw
import Derived.Test.YthajppcmmmkfcaaGreatDoorRegionLate
import Derived.Test.YthajppcmmmkfcaaGreatDoorGenPick
import Derived.Test.YthajppcmmmkfcaaGreatDoorSplitMath
import Derived.Test.YthajppcmmmkfcaaGreatDoorPlanBuild
import Derived.Deep.DeepCutAuto
set_option linter.unusedVariables false
set_option linter.unusedSimpArgs false
namespace Go.Proofs.YthajppcmmmkfcaaGreatDoor
open Go.RowKit

theorem none_pred (w : World) : PredBelow Tryz.prog 61 #[] (fun x => .agg (Ctry.cells x).toArray) (fun x => x.an == 0) w := fun W x hb => by
  obtain ⟨code2, abroad, trunk, aa, an, ac, areas⟩ := x
  show Calls Tryz.prog 61 #[.agg #[.string ⟨code2.toArray⟩, .string ⟨abroad.toArray⟩, .string ⟨trunk.toArray⟩, .slice aa an ac]] W _
  simp only
  have HB := Lib.hid hb
  clear hb
  go_enter Tryz.func61, Tryz.ntmps61
  go_wp2_with fail
  go_ret
  exact ⟨congrArg (fun b => Ending.returned (.bool b)) (by rcases an with _ | n <;> rfl), HB.out.trans ((ext_alloc (Below.refl _ _)).mono HB.out.size)⟩

theorem area_at {w : World} {a : Option Addr} {n : Nat} {l : List Area} (h : AreaRow w a n l) (hn : 1 ≤ n) : ∃ b off, a = some ⟨b, off, none⟩ ∧ b < w.heap.size ∧ ∀ i, i < n → ∀ j, j < 3 → w.cell? ⟨b, off + i * 3 + j, none⟩ = (l.getD i noArea).cells[j]? := by
  rcases h.row with h | h
  · omega
  · exact h
theorem ctry_at {w : World} {a : Option Addr} {n : Nat} {l : List Ctry} (h : CtryRow w a n l) (hn : 1 ≤ n) : ∃ b off, a = some ⟨b, off, none⟩ ∧ b < w.heap.size ∧ ∀ i, i < n → ∀ j, j < 4 → w.cell? ⟨b, off + i * 4 + j, none⟩ = (l.getD i noCtry).cells[j]? := by
  rcases h.row with h | h
  · omega
  · exact h

/-- A country of a plan, in a box of its own. -/
structure CtryBox (S k : Nat) (w0 w : World) (C : Nat) (c : Ctry) : Prop where
  cells : ∀ j, j < 4 → w.cell? ⟨C, j, none⟩ = c.cells[j]?
  Cl : C < w.heap.size
  CS : C ≠ S
  stream : StreamOk w S k
  keeps : Keeps S w0 w
  rowAt : ∀ {w9 : World}, Keeps S w w9 → AreaRow w9 c.aa c.an c.areas
  fineAt : ∀ z, z < c.an → AreaFine (c.areas.getD z noArea)
  code : c.code.length ≤ 100
  many : 1 ≤ c.an ∧ c.an ≤ 1000
theorem CtryBox.kept {S k k' : Nat} {w0 w w' : World} {C : Nat} {c : Ctry} (h : CtryBox S k w0 w C c) (hk : Keeps S w w') (hs : StreamOk w' S k') : CtryBox S k' w0 w' C c :=
  ⟨fun j hj => (hk.cell (p := ⟨C, j, none⟩) h.Cl h.CS).trans (h.cells j hj), Nat.lt_of_lt_of_le h.Cl hk.size, h.CS, hs, h.keeps.trans hk, fun h9 => h.rowAt (hk.trans h9), h.fineAt, h.code, h.many⟩
structure AreaBox (S k : Nat) (w0 w : World) (C D : Nat) (c : Ctry) (x : Area) : Prop where
  box : CtryBox S k w0 w C c
  cells : ∀ j, j < 3 → w.cell? ⟨D, j, none⟩ = x.cells[j]?
  Dl : D < w.heap.size
  DS : D ≠ S
  fine : AreaFine x
theorem AreaBox.stream {S k : Nat} {w0 w : World} {C D : Nat} {c : Ctry} {x : Area} (h : AreaBox S k w0 w C D c x) : StreamOk w S k := h.box.stream

theorem area_box_made {S k : Nat} {w0 wc w8 : World} {C D : Nat} {c : Ctry} {x : Area} (hx : CtryBox S k w0 wc C c) (hk : Keeps S wc w8) (hst : StreamOk w8 S (k + 1)) (hD : wc.heap.size ≤ D) (hb : w8.heap[D]? = some (.cells #[.string ⟨#[]⟩, .int .i64 0, .int .i64 0] 72)) (hf : AreaFine x) (hS : S < wc.heap.size) :
    AreaBox S (k + 1) w0 (((w8.setCell ⟨D, 0, none⟩ (.string ⟨x.pre.toArray⟩)).setCell ⟨D, 1, none⟩ (.int .i64 x.low)).setCell ⟨D, 2, none⟩ (.int .i64 x.high)) C D c x := by
  have Dl : D < w8.heap.size := (Array.getElem?_eq_some_iff.1 hb).1
  have q0 := (block_cell hb 0).trans (show _ = some (.string ⟨#[]⟩) from rfl)
  have q1 := (block_cell hb 1).trans (show _ = some (.int .i64 0) from rfl)
  have q2 := (block_cell hb 2).trans (show _ = some (.int .i64 0) from rfl)
  have hkk := ((hk.setCell_new (p := ⟨D, 0, none⟩) hD (.string ⟨x.pre.toArray⟩)).setCell_new (p := ⟨D, 1, none⟩) hD (.int .i64 x.low)).setCell_new (p := ⟨D, 2, none⟩) hD (.int .i64 x.high)
  refine ⟨hx.kept hkk (hst.upto ((((Below.refl (S + 1) w8).setCell (by show S + 1 ≤ D; omega) _).setCell (by show S + 1 ≤ D; omega) _).setCell (by show S + 1 ≤ D; omega) _)), fun j hj => ?_, by simpa using Dl, by omega, hf⟩
  obtain ⟨xp, xl, xh⟩ := x
  match j, hj with
  | 0, _ => exact (World.cell?_setCell_other _ _ _ _ (by simp)).trans ((World.cell?_setCell_other _ _ _ _ (by simp)).trans (World.cell?_setCell_same _ _ _ q0))
  | 1, _ => exact (World.cell?_setCell_other _ _ _ _ (by simp)).trans (World.cell?_setCell_same _ _ _ ((World.cell?_setCell_other _ _ _ _ (by simp)).trans q1))
  | 2, _ => exact World.cell?_setCell_same _ _ _ ((World.cell?_setCell_other _ _ _ _ (by simp)).trans ((World.cell?_setCell_other _ _ _ _ (by simp)).trans q2))

theorem bs_int_ci7 (e : Operand → Value) (he : ∀ v, e (.const v) = v) (o : Oper) (w : World)  (z0 : Int) (z1 : Int) (z2 : Int) (z3 : Int) (z4 : Int) (z5 : Int) (z6 : Int) (ho : o.op = .buildSlice 22 7 #[(0, .const (.int .i64 z0)), (1, .const (.int .i64 z1)), (2, .const (.int .i64 z2)), (3, .const (.int .i64 z3)), (4, .const (.int .i64 z4)), (5, .const (.int .i64 z5)), (6, .const (.int .i64 z6))])  :
   (execOp e o).run Tryz.prog w = .ok (.value (.slice (some ⟨w.heap.size, 0, none⟩) 7 7)) (w.alloc (.cells #[.int .i64 z0, .int .i64 z1, .int .i64 z2, .int .i64 z3, .int .i64 z4, .int .i64 z5, .int .i64 z6] 3)) := by
  unfold execOp
  rw [ho]
  simp only [List.map_toArray, List.map_cons, List.map_nil, he]
  kernel_rfl
set_option maxRecDepth 100000 in
set_option maxHeartbeats 8000000 in
theorem number_any (S k : Nat) (w : World) (a : Option Addr) (n cap : Nat) (l : List Ctry) (h : StreamOk w S k) (hk : k ≤ 10000000) (hrow : ∀ w9, Keeps S w w9 → CtryRow w9 a n l) (hcap : n ≤ cap) (h1 : 1 ≤ n) (hna : ∀ i, i < l.length → 1 ≤ (l.getD i noCtry).an) :
    Calls Tryz.prog 18 #[.pointer (some ⟨S, 0, none⟩), .slice a n cap] w (SomePost S (k + 4000) (fun s => s.length ≤ 300) w) := by
  have HS := Lib.hid h
  have HR := Lib.hid hrow
  have HNA := Lib.hid hna
  have hlt := h.lt
  obtain ⟨b, off, rfl, hb, hcell⟩ := ctry_at (hrow w (Keeps.refl _ _)) h1
  have HLEN := Lib.hid (hrow w (Keeps.refl _ _)).len
  have hfew := (hrow w (Keeps.refl _ _)).few
  clear h hrow hna hcell
  obtain ⟨m, rfl⟩ : ∃ m, n = m + 1 := ⟨n - 1, by omega⟩
  go_enter Tryz.func18, Tryz.ntmps18
  go_wp2_with fail
  refine (flip_any S k 6 _ HS.out (by omega) (by decide) (by decide)).mono ?_
  rintro e w1 ⟨fl, rfl, hst1, hk1⟩
  have HS1 := Lib.hid hst1
  have HK1 := Lib.hid hk1
  clear hst1 hk1
  cases fl
  · have HC : Hid (Calls Tryz.prog 53 #[.slice (some ⟨b, off, none⟩) (m + 1) cap, .func (.func 61) #[] #[]] w1 fun e w' => e = .returned (.bool false) ∧ Below w1.heap.size w1 w') := by
      have hr1 := HR.out w1 HK1.out
      have hany : (l.take (m + 1)).any (fun x => x.an == 0) = false := by
        rw [List.any_eq_false]
        intro x hx
        obtain ⟨i, hi, rfl⟩ := List.getElem_of_mem (List.mem_of_mem_take hx)
        have := HNA.out i hi
        rw [show l.getD i noCtry = l[i] by simp [hi]] at this
        simp; omega
      obtain ⟨b9, off9, ha9, hb9, hc9⟩ := ctry_at hr1 h1
      injection ha9 with ha9
      injection ha9 with e1 e2
      subst e1 e2
      refine (Tryz.slices_hasC Ctry.cells (fun x => rfl) (fun x => x.an == 0) 61 #[] (fun args w => rfl) b off (m + 1) cap l w1 (none_pred w1) (by have := HLEN.out; omega) (by omega) hb9 (fun j hj i v hv => ?_)).mono ?_
      · have hi : i < 4 := by have := (List.getElem?_eq_some_iff.1 hv).1; simpa [Ctry.cells] using this
        rw [hc9 j (by have := HLEN.out; omega) i hi, show l.getD j noCtry = l[j]! by simp [hj]]
        exact hv
      · rintro e w' ⟨rfl, hb'⟩
        exact ⟨by rw [hany], hb'⟩
    as_aux_lemma =>
      go_wp2_with fail
      refine HC.out.mono ?_
      rintro e w2 ⟨rfl, hb2⟩
      have HK2 := Lib.hid (HK1.out.trans (Keeps.of_below hb2))
      have HS2 := Lib.hid (HS1.out.below hb2)
      clear hb2 HS1 HK1 HC
      as_aux_lemma =>
        go_upto_region 3 with (fail)
        go_cut [5] (fun s5 wx => ∃ (c : Ctry) (C : Nat), s5 = .pointer (some ⟨C, 0, none⟩) ∧ Hid (CtryBox S (k + 2) w wx C c))
        case first =>
          go_wp2_with fail
          refine (next_any S (k + 1) ((m : Int) + 1) _ HS2.out (by omega) (by omega) (by omega)).mono ?_
          rintro e w3 ⟨r, rfl, r0, r1, hst3, hk3⟩
          obtain ⟨r, rfl⟩ := Int.eq_ofNat_of_zero_le r0
          have hr : r < m + 1 := by omega
          have HK3 := Lib.hid (HK2.out.trans hk3)
          have HS3 := Lib.hid hst3
          have hl3 := hst3.lt
          have hr3 := HR.out w3 HK3.out
          obtain ⟨b9, off9, ha9, hb9, hc9⟩ := ctry_at hr3 h1
          injection ha9 with ha9
          injection ha9 with e1 e2
          subst e1 e2
          have k0 := hc9 r hr 0 (by omega)
          have k1 := hc9 r hr 1 (by omega)
          have k2 := hc9 r hr 2 (by omega)
          have k3 := hc9 r hr 3 (by omega)
          have HFI := Lib.hid (hr3.each r (by have := HLEN.out; omega))
          have HSM := Lib.hid (HNA.out r (by have := HLEN.out; omega))
          have HAT : Hid (∀ w9, Keeps S w3 w9 → AreaRow w9 (l.getD r noCtry).aa (l.getD r noCtry).an (l.getD r noCtry).areas) := fun w9 h9 => ((HR.out w9 (HK3.out.trans h9)).each r (by have := HLEN.out; omega)).row
          clear hst3 hk3 hc9 hr3 HR HNA HK2 HS2 r0 r1
          generalize l.getD r noCtry = c at k0 k1 k2 k3 HFI HSM HAT
          obtain ⟨code, abroad, trunk, aa, an, ac, areas⟩ := c
          simp only [Ctry.cells, List.getElem?_cons_zero, List.getElem?_cons_succ, Nat.add_zero] at k0 k1 k2 k3
          have HEND : Hid (CtryBox S (k + 2) w (w3.alloc (.cells #[.string ⟨code.toArray⟩, .string ⟨abroad.toArray⟩, .string ⟨trunk.toArray⟩, .slice aa an ac] 68)) w3.heap.size ⟨code, abroad, trunk, aa, an, ac, areas⟩) := by
            refine ⟨fun j hj => ?_, by simp, by omega, HS3.out.below (ext_alloc (Below.refl _ _)), HK3.out.alloc _, fun h9 => HAT.out _ (Keeps.trans ((Keeps.refl S w3).alloc _) h9), fun z hz => HFI.out.each z (by have := HFI.out.row.len; omega), HFI.out.code, HSM.out, HFI.out.many⟩
            match j, hj with
            | 0, _ | 1, _ | 2, _ | 3, _ => simp [Ctry.cells]
          clear HFI HSM HAT HS3 HK3
          go_wp2_with fail
          go_meet
          exact ⟨_, _, rfl, HEND.out⟩
        case rest =>
          obtain ⟨⟨code, abroad, trunk, aa, an, ac, areas⟩, C, rfl, HX⟩ := hcut
          have c3 := HX.out.cells 3 (by omega)
          have c0 := HX.out.cells 0 (by omega)
          simp only [Ctry.cells, List.getElem?_cons_zero, List.getElem?_cons_succ] at c3 c0
          have Cl := HX.out.Cl
          have CS := HX.out.CS
          obtain ⟨h1an, han⟩ := HX.out.many
          have hSc := HX.out.stream.lt
          have hcode : code.length ≤ 100 := HX.out.code
          simp only at h1an han
          clear HS2 HK2 HR HNA HS HLEN
          as_aux_lemma =>
            go_upto_region 4 with (fail)
            go_cut [6] (fun s6 wx => ∃ (x : Area) (D : Nat), s6 = .pointer (some ⟨D, 0, none⟩) ∧ Hid (AreaBox S (k + 3) w wx C D ⟨code, abroad, trunk, aa, an, ac, areas⟩ x))
            case first =>
              refine region_all S (k + 2) 1 10 0 [.val (fun v => .pointer (some ⟨C, 3, none⟩) = v), .val (fun v => .slice aa an ac = v), .val (fun v => .pointer (some ⟨S, 0, none⟩) = v), .val (fun v => .pointer (some ⟨C, 3, none⟩) = v), .val (fun v => .slice aa an ac = v), .val (fun v => .int .i64 an = v), .val (fun v => ∃ z : Nat, (z < an) ∧ .int .i64 (z : Nat) = v), .val (fun v => ∃ z : Nat, (z < an) ∧ ∃ ab : Nat, (True) ∧ ∃ ao : Nat, (aa = some ⟨ab, ao, none⟩) ∧ .pointer (some ⟨ab, ao + z * 3, none⟩) = v), .val (fun v => ∃ x : Area, (AreaFine x) ∧ .agg #[.string ⟨x.pre.toArray⟩, .int .i64 x.low, .int .i64 x.high] = v), .mem (fun (w9 : World) (v : Value) => ∃ b, v = .pointer (some ⟨b, 0, none⟩) ∧ wc.heap.size ≤ b ∧ w9.heap[b]? = some (.cells #[.string ⟨#[]⟩, .int .i64 0, .int .i64 0] 72))] [6] [some 28, some 29, some 30, some 31, some 32, some 33, some 34, some 35, some 36, some 6] (by kernel_rfl) (by kernel_rfl) (by kernel_rfl) (by kernel_rfl) (by kernel_rfl) (by kernel_rfl) rfl (by kernel_rfl) rfl rfl (by kernel_rfl) HX.out.stream ⟨?_, ?_, ?_, ?_, ?_, ?_, ?_, ?_, ?_, ?_, trivial⟩ ?_
              · intro a w' c hk hst hc hfr hdp K hK
                as_aux_lemma =>
                  have E5 : a.eval (.tmp 5) = .pointer (some ⟨C, 0, none⟩) := fr_list hfr 5 (by kernel_rfl)
                  have d5 := slot_of E5
                  refine gen_pure (v := .pointer (some ⟨C, 3, none⟩)) ?_ (hK _ _ rfl (Keeps.refl _ _) hst)
                  clear hK hdp hfr
                  go_simp
              · intro a w' c hk hst hc hfr hdp K hK
                as_aux_lemma =>
                  have E28 : a.eval (.tmp 28) = .pointer (some ⟨C, 3, none⟩) := Eq.symm (hdp 0 28 _ (by kernel_rfl) (by kernel_rfl) rfl)
                  have d28 := slot_of E28
                  have cl : w'.cell? ⟨C, 3, none⟩ = some (.slice aa an ac) := (hk.cell (p := ⟨C, 3, none⟩) Cl CS).trans c3
                  refine gen_pure (v := .slice aa an ac) ?_ (hK _ _ rfl (Keeps.refl _ _) hst)
                  clear hK hdp hfr
                  go_simp
              · intro a w' c hk hst hc hfr hdp K hK
                as_aux_lemma =>
                  have E0 : a.eval (.tmp 0) = .pointer (some ⟨S, 0, none⟩) := fr_list hfr 0 (by kernel_rfl)
                  have d0 := slot_of E0
                  refine gen_pure (v := .pointer (some ⟨S, 0, none⟩)) ?_ (hK _ _ rfl (Keeps.refl _ _) hst)
                  clear hK hdp hfr
                  go_simp
              · intro a w' c hk hst hc hfr hdp K hK
                as_aux_lemma =>
                  have E5 : a.eval (.tmp 5) = .pointer (some ⟨C, 0, none⟩) := fr_list hfr 5 (by kernel_rfl)
                  have d5 := slot_of E5
                  refine gen_pure (v := .pointer (some ⟨C, 3, none⟩)) ?_ (hK _ _ rfl (Keeps.refl _ _) hst)
                  clear hK hdp hfr
                  go_simp
              · intro a w' c hk hst hc hfr hdp K hK
                as_aux_lemma =>
                  have E31 : a.eval (.tmp 31) = .pointer (some ⟨C, 3, none⟩) := Eq.symm (hdp 3 31 _ (by kernel_rfl) (by kernel_rfl) rfl)
                  have d31 := slot_of E31
                  have cl : w'.cell? ⟨C, 3, none⟩ = some (.slice aa an ac) := (hk.cell (p := ⟨C, 3, none⟩) Cl CS).trans c3
                  refine gen_pure (v := .slice aa an ac) ?_ (hK _ _ rfl (Keeps.refl _ _) hst)
                  clear hK hdp hfr
                  go_simp
              · intro a w' c hk hst hc hfr hdp K hK
                as_aux_lemma =>
                  have E32 : a.eval (.tmp 32) = .slice aa an ac := Eq.symm (hdp 4 32 _ (by kernel_rfl) (by kernel_rfl) rfl)
                  have d32 := slot_of E32
                  refine gen_pure (v := .int .i64 an) ?_ (hK _ _ rfl (Keeps.refl _ _) hst)
                  clear hK hdp hfr
                  go_simp
              · intro a w' c hk hst hc hfr hdp K hK
                as_aux_lemma =>
                  have E30 : a.eval (.tmp 30) = .pointer (some ⟨S, 0, none⟩) := Eq.symm (hdp 2 30 _ (by kernel_rfl) (by kernel_rfl) rfl)
                  have d30 := slot_of E30
                  have E33 : a.eval (.tmp 33) = .int .i64 an := Eq.symm (hdp 5 33 _ (by kernel_rfl) (by kernel_rfl) rfl)
                  have d33 := slot_of E33
                  have hc2 : c + 1 ≤ 1 := hc
                  refine gen_call 40 #[.pointer (some ⟨S, 0, none⟩), .int .i64 an] ?_ (next_any S _ an w' hst (by omega) (by omega) (by omega)) ?_
                  · clear hK hdp hfr; go_simp
                  rintro e w'' ⟨r, rfl, r0, r1, hst2, hkp⟩
                  obtain ⟨r, rfl⟩ := Int.eq_ofNat_of_zero_le r0
                  exact ⟨_, rfl, hK _ _ ⟨r, by omega, rfl⟩ hkp (hst2.mono (by simp; omega))⟩
              · intro a w' c hk hst hc hfr hdp K hK
                as_aux_lemma =>
                  have E29 : a.eval (.tmp 29) = .slice aa an ac := Eq.symm (hdp 1 29 _ (by kernel_rfl) (by kernel_rfl) rfl)
                  have d29 := slot_of E29
                  obtain ⟨z, hz, e34⟩ := hdp 6 34 _ (by kernel_rfl) (by kernel_rfl) rfl
                  have E34 := Eq.symm e34
                  have d34 := slot_of E34
                  clear e34
                  obtain ⟨ab, ao, rfl, hal, hac⟩ := area_at (HX.out.rowAt (Keeps.trans (by exact Keeps.of_below (ext_drew (Below.refl _ _))) hk)) h1an
                  refine gen_pure (v := .pointer (some ⟨ab, ao + z * 3, none⟩)) ?_ (hK _ _ ⟨z, hz, ab, trivial, ao, rfl, rfl⟩ (Keeps.refl _ _) hst)
                  clear hK hdp hfr hac
                  go_simp
              · intro a w' c hk hst hc hfr hdp K hK
                as_aux_lemma =>
                  obtain ⟨z, hz, ab, hab, ao, hao, e35⟩ := hdp 7 35 _ (by kernel_rfl) (by kernel_rfl) rfl
                  have E35 := Eq.symm e35
                  have d35 := slot_of E35
                  clear e35
                  subst hao
                  obtain ⟨ab9, ao9, ha9, hal, hac⟩ := area_at (HX.out.rowAt (Keeps.trans (by exact Keeps.of_below (ext_drew (Below.refl _ _))) hk)) h1an
                  injection ha9 with ha9
                  injection ha9 with ha1 ha2
                  subst ha1 ha2
                  have q0 := hac z hz 0 (by omega)
                  have q1 := hac z hz 1 (by omega)
                  have q2 := hac z hz 2 (by omega)
                  have hfine := HX.out.fineAt z hz
                  generalize areas.getD z noArea = x at q0 q1 q2 hfine
                  obtain ⟨xp, xl, xh⟩ := x
                  simp only [Area.cells, List.getElem?_cons_zero, List.getElem?_cons_succ, Nat.add_zero] at q0 q1 q2
                  refine gen_pure (v := .agg #[.string ⟨xp.toArray⟩, .int .i64 xl, .int .i64 xh]) ?_ (hK _ _ ⟨⟨xp, xl, xh⟩, hfine, rfl⟩ (Keeps.refl _ _) hst)
                  clear hK hdp hfr hac hfine
                  go_simp
              · intro a w' c hk hst hc hfr hdp K hK
                as_aux_lemma =>
                  refine gen_box (p := (fun (w9 : World) (v : Value) => ∃ b, v = .pointer (some ⟨b, 0, none⟩) ∧ wc.heap.size ≤ b ∧ w9.heap[b]? = some (.cells #[.string ⟨#[]⟩, .int .i64 0, .int .i64 0] 72))) #[.string ⟨#[]⟩, .int .i64 0, .int .i64 0] 72 ?_ (fun w9 hk9 => ⟨w'.heap.size, rfl, (by have := hk.size; simp at this ⊢; omega), (hk9.block w'.heap.size (by simp) (Nat.ne_of_gt hst.lt)).trans (heap_alloc_new _ _)⟩) hst hK
                  clear hK hdp hfr
                  go_simp
              intro w8 hk8 hst8
              rintro _ - _ - _ - _ - _ - _ - _ - _ - _ ⟨x, hx, rfl⟩ x6 p6
              simp only [ForVals, Act.put, List.setIfInBounds_toArray, List.set_cons_zero, List.set_cons_succ, List.drop_succ_cons, List.drop_zero]
              obtain ⟨D, rfl, hD, hb8⟩ := p6 w8 (Keeps.refl _ _)
              have kd : Keeps S wc w8 := Keeps.trans (by exact Keeps.of_below (ext_drew (Below.refl _ _))) hk8
              have HEND := Lib.hid (area_box_made HX.out kd (hst8.mono (by simp)) hD hb8 hx hSc)
              have q0 := (block_cell hb8 0).trans (show _ = some (.string ⟨#[]⟩) from rfl)
              have q1 := (block_cell hb8 1).trans (show _ = some (.int .i64 0) from rfl)
              have q2 := (block_cell hb8 2).trans (show _ = some (.int .i64 0) from rfl)
              have r0 := block_fro hb8 0
              have r1 := block_fro hb8 1
              have r2 := block_fro hb8 2
              have Dl : D < w8.heap.size := (Array.getElem?_eq_some_iff.1 hb8).1
              clear hk8 hst8 kd p6 hb8 HX c3 c0
              go_wp2_with fail
              go_meet
              exact ⟨x, D, rfl, HEND.out⟩
            case rest =>
              obtain ⟨⟨xp, xl, xh⟩, D, rfl, HY⟩ := hcut
              obtain ⟨wy, rfl⟩ : ∃ wy : World, wy = wc := ⟨_, rfl⟩
              have c0 := HY.out.box.cells 0 (by omega)
              have d0 := HY.out.cells 0 (by omega)
              have d1 := HY.out.cells 1 (by omega)
              have d2 := HY.out.cells 2 (by omega)
              simp only [Ctry.cells, Area.cells, List.getElem?_cons_zero, List.getElem?_cons_succ] at c0 d0 d1 d2
              have Cl := HY.out.box.Cl
              have CS := HY.out.box.CS
              have Dl := HY.out.Dl
              have DS := HY.out.DS
              obtain ⟨f0, f1, f2, f3, f4⟩ := HY.out.fine
              simp only at f0 f1 f2 f3 f4
              clear HX c3
              as_aux_lemma =>
                go_upto_region 5 with (fail)
                refine region_all S (k + 3) 1000 26 6 [.val (fun v => .pointer (some ⟨C, 0, none⟩) = v), .val (fun v => .string ⟨code.toArray⟩ = v), .val (fun v => ∃ s1 : List UInt8, (s1.length ≤ 101) ∧ .string ⟨s1.toArray⟩ = v), .val (fun v => .pointer (some ⟨D, 0, none⟩) = v), .val (fun v => .string ⟨xp.toArray⟩ = v), .val (fun v => ∃ s2 : List UInt8, (s2.length ≤ 201) ∧ .string ⟨s2.toArray⟩ = v), .val (fun v => .pointer (some ⟨S, 0, none⟩) = v), .val (fun v => .pointer (some ⟨S, 0, none⟩) = v), .val (fun v => .pointer (some ⟨D, 1, none⟩) = v), .val (fun v => .int .i64 xl = v), .val (fun v => ∃ z3 : Int, (-4000000000000 ≤ z3 ∧ z3 ≤ 12) ∧ .int .i64 z3 = v), .val (fun v => .pointer (some ⟨D, 2, none⟩) = v), .val (fun v => .int .i64 xh = v), .val (fun v => ∃ z4 : Int, (-4000000000000 ≤ z4 ∧ z4 ≤ 13) ∧ .int .i64 z4 = v), .val (fun v => ∃ zr : Int, (-4000000000000 ≤ zr ∧ zr ≤ 13) ∧ .int .i64 zr = v), .val (fun v => .pointer (some ⟨D, 0, none⟩) = v), .val (fun v => .string ⟨xp.toArray⟩ = v), .val (fun v => .int .i64 (xp.length : Nat) = v), .val (fun v => ∃ z5 : Int, (-5000000000000 ≤ z5 ∧ z5 ≤ 13) ∧ .int .i64 z5 = v), .val (fun v => .pointer (some ⟨S, 0, none⟩) = v), .arr 7 (· = [.int .i64 0, .int .i64 0, .int .i64 0, .int .i64 0, .int .i64 0, .int .i64 1, .int .i64 (-1)]), .val (fun v => ∃ z6 : Int, (-1 ≤ z6 ∧ z6 ≤ 1) ∧ .int .i64 z6 = v), .val (fun v => ∃ z7 : Int, (-6000000000000 ≤ z7 ∧ z7 ≤ 14) ∧ .int .i64 z7 = v), .val (fun v => ∃ zn : Nat, (zn ≤ 14) ∧ .int .i64 (zn : Nat) = v), .val (fun v => ∃ sd : List UInt8, (sd.length ≤ 14) ∧ .string ⟨sd.toArray⟩ = v), .val (fun v => ∃ s8 : List UInt8, (s8.length ≤ 300) ∧ .string ⟨s8.toArray⟩ = v)] [14, 21, 24] [some 37, some 38, some 39, some 40, some 41, some 42, some 43, some 44, some 45, some 46, some 47, some 48, some 49, some 50, some 51, some 52, some 53, some 54, some 55, some 56, some 57, some 58, some 59, some 60, some 61, some 62] (by kernel_rfl) (by kernel_rfl) (by kernel_rfl) (by kernel_rfl) (by kernel_rfl) (by kernel_rfl) rfl (by kernel_rfl) rfl rfl (by kernel_rfl) HY.out.stream ⟨?_, ?_, ?_, ?_, ?_, ?_, ?_, ?_, ?_, ?_, ?_, ?_, ?_, ?_, ?_, ?_, ?_, ?_, ?_, ?_, ?_, ?_, ?_, ?_, ?_, ?_, trivial⟩ ?_
                · intro a w' c hk hst hc hfr hdp K hK
                  as_aux_lemma =>
                    have E5 : a.eval (.tmp 5) = .pointer (some ⟨C, 0, none⟩) := fr_list hfr 5 (by kernel_rfl)
                    have d5 := slot_of E5
                    refine gen_pure (v := .pointer (some ⟨C, 0, none⟩)) ?_ (hK _ _ rfl (Keeps.refl _ _) hst)
                    clear hK hdp hfr
                    go_simp
                · intro a w' c hk hst hc hfr hdp K hK
                  as_aux_lemma =>
                    have E37 : a.eval (.tmp 37) = .pointer (some ⟨C, 0, none⟩) := Eq.symm (hdp 0 37 _ (by kernel_rfl) (by kernel_rfl) rfl)
                    have d37 := slot_of E37
                    have cl : w'.cell? ⟨C, 0, none⟩ = some (.string ⟨code.toArray⟩) := (hk.cell (p := ⟨C, 0, none⟩) Cl CS).trans c0
                    refine gen_pure (v := .string ⟨code.toArray⟩) ?_ (hK _ _ rfl (Keeps.refl _ _) hst)
                    clear hK hdp hfr
                    go_simp
                · intro a w' c hk hst hc hfr hdp K hK
                  as_aux_lemma =>
                    have E38 : a.eval (.tmp 38) = .string ⟨code.toArray⟩ := Eq.symm (hdp 1 38 _ (by kernel_rfl) (by kernel_rfl) rfl)
                    have d38 := slot_of E38
                    refine gen_pure (v := .string ⟨(([43] : List UInt8) ++ code).toArray⟩) ?_ (hK _ _ ⟨(([43] : List UInt8) ++ code), by simp only [List.length_append, List.length_cons, List.length_nil]; omega, rfl⟩ (Keeps.refl _ _) hst)
                    clear hK hdp hfr
                    rw [← cat_str]
                    go_simp <;> omega
                · intro a w' c hk hst hc hfr hdp K hK
                  as_aux_lemma =>
                    have E6 : a.eval (.tmp 6) = .pointer (some ⟨D, 0, none⟩) := fr_list hfr 6 (by kernel_rfl)
                    have d6 := slot_of E6
                    refine gen_pure (v := .pointer (some ⟨D, 0, none⟩)) ?_ (hK _ _ rfl (Keeps.refl _ _) hst)
                    clear hK hdp hfr
                    go_simp
                · intro a w' c hk hst hc hfr hdp K hK
                  as_aux_lemma =>
                    have E40 : a.eval (.tmp 40) = .pointer (some ⟨D, 0, none⟩) := Eq.symm (hdp 3 40 _ (by kernel_rfl) (by kernel_rfl) rfl)
                    have d40 := slot_of E40
                    have cl : w'.cell? ⟨D, 0, none⟩ = some (.string ⟨xp.toArray⟩) := (hk.cell (p := ⟨D, 0, none⟩) Dl DS).trans d0
                    refine gen_pure (v := .string ⟨xp.toArray⟩) ?_ (hK _ _ rfl (Keeps.refl _ _) hst)
                    clear hK hdp hfr
                    go_simp
                · intro a w' c hk hst hc hfr hdp K hK
                  as_aux_lemma =>
                    obtain ⟨s1, hs1, e39⟩ := hdp 2 39 _ (by kernel_rfl) (by kernel_rfl) rfl
                    have E39 := Eq.symm e39
                    have d39 := slot_of E39
                    clear e39
                    have E41 : a.eval (.tmp 41) = .string ⟨xp.toArray⟩ := Eq.symm (hdp 4 41 _ (by kernel_rfl) (by kernel_rfl) rfl)
                    have d41 := slot_of E41
                    refine gen_pure (v := .string ⟨(s1 ++ xp).toArray⟩) ?_ (hK _ _ ⟨(s1 ++ xp), by simp only [List.length_append, List.length_cons, List.length_nil]; omega, rfl⟩ (Keeps.refl _ _) hst)
                    clear hK hdp hfr
                    rw [← cat_str]
                    go_simp <;> omega
                · intro a w' c hk hst hc hfr hdp K hK
                  as_aux_lemma =>
                    have E0 : a.eval (.tmp 0) = .pointer (some ⟨S, 0, none⟩) := fr_list hfr 0 (by kernel_rfl)
                    have d0 := slot_of E0
                    refine gen_pure (v := .pointer (some ⟨S, 0, none⟩)) ?_ (hK _ _ rfl (Keeps.refl _ _) hst)
                    clear hK hdp hfr
                    go_simp
                · intro a w' c hk hst hc hfr hdp K hK
                  as_aux_lemma =>
                    have E0 : a.eval (.tmp 0) = .pointer (some ⟨S, 0, none⟩) := fr_list hfr 0 (by kernel_rfl)
                    have d0 := slot_of E0
                    refine gen_pure (v := .pointer (some ⟨S, 0, none⟩)) ?_ (hK _ _ rfl (Keeps.refl _ _) hst)
                    clear hK hdp hfr
                    go_simp
                · intro a w' c hk hst hc hfr hdp K hK
                  as_aux_lemma =>
                    have E6 : a.eval (.tmp 6) = .pointer (some ⟨D, 0, none⟩) := fr_list hfr 6 (by kernel_rfl)
                    have d6 := slot_of E6
                    refine gen_pure (v := .pointer (some ⟨D, 1, none⟩)) ?_ (hK _ _ rfl (Keeps.refl _ _) hst)
                    clear hK hdp hfr
                    go_simp
                · intro a w' c hk hst hc hfr hdp K hK
                  as_aux_lemma =>
                    have E45 : a.eval (.tmp 45) = .pointer (some ⟨D, 1, none⟩) := Eq.symm (hdp 8 45 _ (by kernel_rfl) (by kernel_rfl) rfl)
                    have d45 := slot_of E45
                    have cl : w'.cell? ⟨D, 1, none⟩ = some (.int .i64 xl) := (hk.cell (p := ⟨D, 1, none⟩) Dl DS).trans d1
                    refine gen_pure (v := .int .i64 xl) ?_ (hK _ _ rfl (Keeps.refl _ _) hst)
                    clear hK hdp hfr
                    go_simp
                · intro a w' c hk hst hc hfr hdp K hK
                  as_aux_lemma =>
                    have E46 : a.eval (.tmp 46) = .int .i64 xl := Eq.symm (hdp 9 46 _ (by kernel_rfl) (by kernel_rfl) rfl)
                    have d46 := slot_of E46
                    have hrng : -4000000000000 ≤ (min xl 12 : Int) ∧ (min xl 12 : Int) ≤ 12 := by omega
                    refine gen_pure (v := .int .i64 (min xl 12 : Int)) ?_ (hK _ _ ⟨(min xl 12 : Int), hrng, rfl⟩ (Keeps.refl _ _) hst)
                    clear hK hdp hfr hrng
                    go_simp
                · intro a w' c hk hst hc hfr hdp K hK
                  as_aux_lemma =>
                    have E6 : a.eval (.tmp 6) = .pointer (some ⟨D, 0, none⟩) := fr_list hfr 6 (by kernel_rfl)
                    have d6 := slot_of E6
                    refine gen_pure (v := .pointer (some ⟨D, 2, none⟩)) ?_ (hK _ _ rfl (Keeps.refl _ _) hst)
                    clear hK hdp hfr
                    go_simp
                · intro a w' c hk hst hc hfr hdp K hK
                  as_aux_lemma =>
                    have E48 : a.eval (.tmp 48) = .pointer (some ⟨D, 2, none⟩) := Eq.symm (hdp 11 48 _ (by kernel_rfl) (by kernel_rfl) rfl)
                    have d48 := slot_of E48
                    have cl : w'.cell? ⟨D, 2, none⟩ = some (.int .i64 xh) := (hk.cell (p := ⟨D, 2, none⟩) Dl DS).trans d2
                    refine gen_pure (v := .int .i64 xh) ?_ (hK _ _ rfl (Keeps.refl _ _) hst)
                    clear hK hdp hfr
                    go_simp
                · intro a w' c hk hst hc hfr hdp K hK
                  as_aux_lemma =>
                    have E49 : a.eval (.tmp 49) = .int .i64 xh := Eq.symm (hdp 12 49 _ (by kernel_rfl) (by kernel_rfl) rfl)
                    have d49 := slot_of E49
                    have hrng : -4000000000000 ≤ (min xh 13 : Int) ∧ (min xh 13 : Int) ≤ 13 := by omega
                    refine gen_pure (v := .int .i64 (min xh 13 : Int)) ?_ (hK _ _ ⟨(min xh 13 : Int), hrng, rfl⟩ (Keeps.refl _ _) hst)
                    clear hK hdp hfr hrng
                    go_simp
                · intro a w' c hk hst hc hfr hdp K hK
                  as_aux_lemma =>
                    have E44 : a.eval (.tmp 44) = .pointer (some ⟨S, 0, none⟩) := Eq.symm (hdp 7 44 _ (by kernel_rfl) (by kernel_rfl) rfl)
                    have d44 := slot_of E44
                    obtain ⟨z3, hz3, e47⟩ := hdp 10 47 _ (by kernel_rfl) (by kernel_rfl) rfl
                    have E47 := Eq.symm e47
                    have d47 := slot_of E47
                    clear e47
                    obtain ⟨z4, hz4, e50⟩ := hdp 13 50 _ (by kernel_rfl) (by kernel_rfl) rfl
                    have E50 := Eq.symm e50
                    have d50 := slot_of E50
                    clear e50
                    have hc2 : c + 1 ≤ 3 := hc
                    refine gen_call 45 #[.pointer (some ⟨S, 0, none⟩), .int .i64 z3, .int .i64 z4] ?_ (range_gen S _ z3 z4 w' hst (by omega) (by omega) (by omega)) ?_
                    · clear hK hdp hfr; go_simp
                    rintro e w'' ⟨r, rfl, ⟨r0, r1⟩, hst2, hkp⟩
                    exact ⟨_, rfl, hK _ _ ⟨r, by omega, rfl⟩ hkp (hst2.mono (by simp; omega))⟩
                · intro a w' c hk hst hc hfr hdp K hK
                  as_aux_lemma =>
                    have E6 : a.eval (.tmp 6) = .pointer (some ⟨D, 0, none⟩) := fr_list hfr 6 (by kernel_rfl)
                    have d6 := slot_of E6
                    refine gen_pure (v := .pointer (some ⟨D, 0, none⟩)) ?_ (hK _ _ rfl (Keeps.refl _ _) hst)
                    clear hK hdp hfr
                    go_simp
                · intro a w' c hk hst hc hfr hdp K hK
                  as_aux_lemma =>
                    have E52 : a.eval (.tmp 52) = .pointer (some ⟨D, 0, none⟩) := Eq.symm (hdp 15 52 _ (by kernel_rfl) (by kernel_rfl) rfl)
                    have d52 := slot_of E52
                    have cl : w'.cell? ⟨D, 0, none⟩ = some (.string ⟨xp.toArray⟩) := (hk.cell (p := ⟨D, 0, none⟩) Dl DS).trans d0
                    refine gen_pure (v := .string ⟨xp.toArray⟩) ?_ (hK _ _ rfl (Keeps.refl _ _) hst)
                    clear hK hdp hfr
                    go_simp
                · intro a w' c hk hst hc hfr hdp K hK
                  as_aux_lemma =>
                    have E53 : a.eval (.tmp 53) = .string ⟨xp.toArray⟩ := Eq.symm (hdp 16 53 _ (by kernel_rfl) (by kernel_rfl) rfl)
                    have d53 := slot_of E53
                    refine gen_pure (v := .int .i64 (xp.length : Nat)) ?_ (hK _ _ rfl (Keeps.refl _ _) hst)
                    clear hK hdp hfr
                    go_simp
                · intro a w' c hk hst hc hfr hdp K hK
                  as_aux_lemma =>
                    obtain ⟨zr, hzr, e51⟩ := hdp 14 51 _ (by kernel_rfl) (by kernel_rfl) rfl
                    have E51 := Eq.symm e51
                    have d51 := slot_of E51
                    clear e51
                    have E54 : a.eval (.tmp 54) = .int .i64 (xp.length : Nat) := Eq.symm (hdp 17 54 _ (by kernel_rfl) (by kernel_rfl) rfl)
                    have d54 := slot_of E54
                    have hwr : IntKind.i64.wrap (zr - (xp.length : Nat)) = (zr - (xp.length : Nat)) := IntWalk.i64_in _ (by omega)
                    have hrng : -5000000000000 ≤ (zr - (xp.length : Nat)) ∧ (zr - (xp.length : Nat)) ≤ 13 := by omega
                    refine gen_pure (v := .int .i64 (zr - (xp.length : Nat))) ?_ (hK _ _ ⟨(zr - (xp.length : Nat)), hrng, rfl⟩ (Keeps.refl _ _) hst)
                    clear hK hdp hfr hrng
                    go_simp
                · intro a w' c hk hst hc hfr hdp K hK
                  as_aux_lemma =>
                    have E0 : a.eval (.tmp 0) = .pointer (some ⟨S, 0, none⟩) := fr_list hfr 0 (by kernel_rfl)
                    have d0 := slot_of E0
                    refine gen_pure (v := .pointer (some ⟨S, 0, none⟩)) ?_ (hK _ _ rfl (Keeps.refl _ _) hst)
                    clear hK hdp hfr
                    go_simp
                · intro a w' c hk hst hc hfr hdp K hK
                  as_aux_lemma =>
                    exact gen_alloc (p := (· = ([.int .i64 0, .int .i64 0, .int .i64 0, .int .i64 0, .int .i64 0, .int .i64 1, .int .i64 (-1)] : List Value))) #[.int .i64 0, .int .i64 0, .int .i64 0, .int .i64 0, .int .i64 0, .int .i64 1, .int .i64 (-1)] 3 (bs_int_ci7 _ (fun _ => rfl) _ _ _ _ _ _ _ _ _ rfl ) rfl hst hK
                · intro a w' c hk hst hc hfr hdp K hK
                  as_aux_lemma =>
                    have E56 : a.eval (.tmp 56) = .pointer (some ⟨S, 0, none⟩) := Eq.symm (hdp 19 56 _ (by kernel_rfl) (by kernel_rfl) rfl)
                    have d56 := slot_of E56
                    have d57 := hdp 20 57 _ (by kernel_rfl) (by kernel_rfl) rfl
                    have hc2 : c + 1 ≤ 3 := hc
                    generalize hv2 : a.eval (.tmp 57) = v2 at d57
                    have d3 := slot_of hv2
                    clear hv2
                    refine gen_call 41 #[.pointer (some ⟨S, 0, none⟩), v2] ?_ (calls_pick S _ v2 [0, 0, 0, 0, 0, 1, (-1)] (fun z6 => -1 ≤ z6 ∧ z6 ≤ 1) w' hst (by omega) d57 (by decide) (by decide) (by decide)) ?_
                    · clear hK hdp hfr; go_simp
                    rintro e w'' ⟨r, rfl, hr, hst2, hkp⟩
                    exact ⟨_, rfl, hK _ _ ⟨r, hr, rfl⟩ hkp (hst2.mono (by simp; omega))⟩
                · intro a w' c hk hst hc hfr hdp K hK
                  as_aux_lemma =>
                    obtain ⟨z5, hz5, e55⟩ := hdp 18 55 _ (by kernel_rfl) (by kernel_rfl) rfl
                    have E55 := Eq.symm e55
                    have d55 := slot_of E55
                    clear e55
                    obtain ⟨z6, hz6, e58⟩ := hdp 21 58 _ (by kernel_rfl) (by kernel_rfl) rfl
                    have E58 := Eq.symm e58
                    have d58 := slot_of E58
                    clear e58
                    have hwr : IntKind.i64.wrap (z5 + z6) = (z5 + z6) := IntWalk.i64_in _ (by omega)
                    have hrng : -6000000000000 ≤ (z5 + z6) ∧ (z5 + z6) ≤ 14 := by omega
                    refine gen_pure (v := .int .i64 (z5 + z6)) ?_ (hK _ _ ⟨(z5 + z6), hrng, rfl⟩ (Keeps.refl _ _) hst)
                    clear hK hdp hfr hrng
                    go_simp
                · intro a w' c hk hst hc hfr hdp K hK
                  as_aux_lemma =>
                    obtain ⟨z7, hz7, e59⟩ := hdp 22 59 _ (by kernel_rfl) (by kernel_rfl) rfl
                    have E59 := Eq.symm e59
                    have d59 := slot_of E59
                    clear e59
                    have hrng : 0 ≤ (max 0 z7 : Int) ∧ (max 0 z7 : Int) ≤ 14 := by omega
                    refine gen_pure (v := .int .i64 (((max 0 z7 : Int).toNat : Nat) : Int)) ?_ (hK _ _ ⟨(max 0 z7 : Int).toNat, by omega, rfl⟩ (Keeps.refl _ _) hst)
                    clear hK hdp hfr
                    rw [Int.toNat_of_nonneg hrng.1]
                    clear hrng
                    go_simp
                · intro a w' c hk hst hc hfr hdp K hK
                  as_aux_lemma =>
                    have E43 : a.eval (.tmp 43) = .pointer (some ⟨S, 0, none⟩) := Eq.symm (hdp 6 43 _ (by kernel_rfl) (by kernel_rfl) rfl)
                    have d43 := slot_of E43
                    obtain ⟨zn, hzn, e60⟩ := hdp 23 60 _ (by kernel_rfl) (by kernel_rfl) rfl
                    have E60 := Eq.symm e60
                    have d60 := slot_of E60
                    clear e60
                    have hc2 : c + 1 ≤ 3 := hc
                    refine gen_call 62 #[.pointer (some ⟨S, 0, none⟩), .int .i64 zn] ?_ (digitRow_any S _ zn w' hst (by omega) (by omega)) ?_
                    · clear hK hdp hfr; go_simp
                    rintro e w'' ⟨r, rfl, hr, hst2, hkp⟩
                    exact ⟨_, rfl, hK _ _ ⟨r, by omega, rfl⟩ hkp (hst2.mono (by simp; omega))⟩
                · intro a w' c hk hst hc hfr hdp K hK
                  as_aux_lemma =>
                    obtain ⟨s2, hs2, e42⟩ := hdp 5 42 _ (by kernel_rfl) (by kernel_rfl) rfl
                    have E42 := Eq.symm e42
                    have d42 := slot_of E42
                    clear e42
                    obtain ⟨sd, hsd, e61⟩ := hdp 24 61 _ (by kernel_rfl) (by kernel_rfl) rfl
                    have E61 := Eq.symm e61
                    have d61 := slot_of E61
                    clear e61
                    refine gen_pure (v := .string ⟨(s2 ++ sd).toArray⟩) ?_ (hK _ _ ⟨(s2 ++ sd), by simp only [List.length_append, List.length_cons, List.length_nil]; omega, rfl⟩ (Keeps.refl _ _) hst)
                    clear hK hdp hfr
                    rw [← cat_str]
                    go_simp <;> omega
                intro w8 hk8 hst8
                rintro _ - _ - _ - _ - _ - _ - _ - _ - _ - _ - _ - _ - _ - _ - _ - _ - _ - _ - _ - _ - _ - _ - _ - _ - _ - _ ⟨s8, hs8, rfl⟩
                simp only [ForVals, Act.put, List.setIfInBounds_toArray, List.set_cons_zero, List.set_cons_succ, List.drop_succ_cons, List.drop_zero]
                have HK8 := Lib.hid (HY.out.box.keeps.trans (Keeps.trans (by exact Keeps.of_below (ext_drew (Below.refl _ _))) hk8))
                have HS8 := Lib.hid hst8
                clear hk8 hst8 HY c0 d0 d1 d2
                go_wp2_with fail
                go_ret
                exact ⟨_, rfl, hs8, HS8.out.mono (by simp <;> omega), HK8.out⟩
  · skip
    as_aux_lemma =>
      go_wp2_with (refine wpList_val rfl (bs_str11 _ (fun _ => rfl) _ _ _ _ _ _ _ _ _ _ _ _ _ rfl) ?_)
      refine (some_any S (k + 1) w1.heap.size 11 11 [[], [43], [43, 49, 50, 51], [43, 48, 49, 50, 51], [52, 57, 51, 48, 49], [43, 52, 57, 51, 48, 49, 50, 51, 52, 53, 54, 55, 56, 57, 48, 49, 50, 51], [43, 55, 49, 50, 51], [43, 52, 57, 49, 49], [43, 52, 57, 51, 48], [43, 52, 57, 51, 48, 49, 50, 51, 52, 53, 54, 55, 56], [43, 49, 50, 48, 57]] (fun x => x.length ≤ 300) _ (HS1.out.below (ext_alloc (Below.refl _ _))) (by omega) (by simp) (by have := HS1.out.lt; omega) (by omega) (by omega) (fun i hi => by match i, hi with | 0, _ | 1, _ | 2, _ | 3, _ | 4, _ | 5, _ | 6, _ | 7, _ | 8, _ | 9, _ | 10, _ => go_simp) (fun i hi => by match i, hi with | 0, _ | 1, _ | 2, _ | 3, _ | 4, _ | 5, _ | 6, _ | 7, _ | 8, _ | 9, _ | 10, _ => decide)).mono ?_
      rintro e w5 ⟨x, rfl, hx, hst5, hkp5⟩
      have HK5 := Lib.hid ((HK1.out.alloc _).trans hkp5)
      have HS5 := Lib.hid hst5
      have HX := Lib.hid hx
      clear hst5 hkp5 hx
      go_wp2_with fail
      go_ret
      exact ⟨x, rfl, HX.out, HS5.out.mono (by omega), HK5.out⟩
end Go.Proofs.YthajppcmmmkfcaaGreatDoor
