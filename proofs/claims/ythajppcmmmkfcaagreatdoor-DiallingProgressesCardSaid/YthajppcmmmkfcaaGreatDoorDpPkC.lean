/- What is proved here: lemmas and contracts for the statement, put together out of smaller texts (PlanNumber, RightNum, FormMath, WayMath, WayLaw, WaySort). No condition beyond those stated. -/
import Derived.Test.YthajppcmmmkfcaaGreatDoorDpPkB
import Derived.Test.YthajppcmmmkfcaaGreatDoorDpPkA
import Derived.Deep.DeepCutAuto
import Derived.Test.YthajppcmmmkfcaaGreatDoorShelfWays
import Derived.Lib.OwnBridge
import Derived.Deep.AppendLies
set_option linter.unusedVariables false
set_option linter.unusedSimpArgs false
namespace Go.Proofs.YthajppcmmmkfcaaGreatDoor
open Go.RowKit

theorem none_pred (w : World) : PredBelow Tryz.prog 61 #[] (fun x => .agg (Ctry.cells x).toArray) (fun x => x.an == 0) w := fun W x hb => by
  obtain ⟨code2, abroad, trunk, aa, an, ac, areas⟩ := x
  show Calls Tryz.prog 61 #[.agg #[.string ⟨code2.toArray⟩, .string ⟨abroad.toArray⟩, .string ⟨trunk.toArray⟩, .slice aa an ac]] W _
  simp only
  have HB := Lib.hid hb
  clear hb
  go_enter Tryz.func61, Tryz.ntmps61
  go_wp2_with fail
  go_ret
  exact ⟨congrArg (fun b => Ending.returned (.bool b)) (by rcases an with _ | n <;> rfl), HB.out.trans ((ext_alloc (Below.refl _ _)).mono HB.out.size)⟩

theorem area_at {w : World} {a : Option Addr} {n : Nat} {l : List Area} (h : AreaRow w a n l) (hn : 1 ≤ n) : ∃ b off, a = some ⟨b, off, none⟩ ∧ b < w.heap.size ∧ ∀ i, i < n → ∀ j, j < 3 → w.cell? ⟨b, off + i * 3 + j, none⟩ = (l.getD i noArea).cells[j]? := by
  rcases h.row with h | h
  · omega
  · exact h
theorem ctry_at {w : World} {a : Option Addr} {n : Nat} {l : List Ctry} (h : CtryRow w a n l) (hn : 1 ≤ n) : ∃ b off, a = some ⟨b, off, none⟩ ∧ b < w.heap.size ∧ ∀ i, i < n → ∀ j, j < 4 → w.cell? ⟨b, off + i * 4 + j, none⟩ = (l.getD i noCtry).cells[j]? := by
  rcases h.row with h | h
  · omega
  · exact h

/-- A country of a plan, in a box of its own. -/
structure CtryBox (S k : Nat) (w0 w : World) (C : Nat) (c : Ctry) : Prop where
  cells : ∀ j, j < 4 → w.cell? ⟨C, j, none⟩ = c.cells[j]?
  Cl : C < w.heap.size
  CS : C ≠ S
  stream : StreamOk w S k
  keeps : Keeps S w0 w
  rowAt : ∀ {w9 : World}, Keeps S w w9 → AreaRow w9 c.aa c.an c.areas
  fineAt : ∀ z, z < c.an → AreaFine (c.areas.getD z noArea)
  code : c.code.length ≤ 100
  many : 1 ≤ c.an ∧ c.an ≤ 1000
theorem CtryBox.kept {S k k' : Nat} {w0 w w' : World} {C : Nat} {c : Ctry} (h : CtryBox S k w0 w C c) (hk : Keeps S w w') (hs : StreamOk w' S k') : CtryBox S k' w0 w' C c :=
  ⟨fun j hj => (hk.cell (p := ⟨C, j, none⟩) h.Cl h.CS).trans (h.cells j hj), Nat.lt_of_lt_of_le h.Cl hk.size, h.CS, hs, h.keeps.trans hk, fun h9 => h.rowAt (hk.trans h9), h.fineAt, h.code, h.many⟩
structure AreaBox (S k : Nat) (w0 w : World) (C D : Nat) (c : Ctry) (x : Area) : Prop where
  box : CtryBox S k w0 w C c
  cells : ∀ j, j < 3 → w.cell? ⟨D, j, none⟩ = x.cells[j]?
  Dl : D < w.heap.size
  DS : D ≠ S
  fine : AreaFine x
theorem AreaBox.stream {S k : Nat} {w0 w : World} {C D : Nat} {c : Ctry} {x : Area} (h : AreaBox S k w0 w C D c x) : StreamOk w S k := h.box.stream

theorem area_box_made {S k : Nat} {w0 wc w8 : World} {C D : Nat} {c : Ctry} {x : Area} (hx : CtryBox S k w0 wc C c) (hk : Keeps S wc w8) (hst : StreamOk w8 S (k + 1)) (hD : wc.heap.size ≤ D) (hb : w8.heap[D]? = some (.cells #[.string ⟨#[]⟩, .int .i64 0, .int .i64 0] 72)) (hf : AreaFine x) (hS : S < wc.heap.size) :
    AreaBox S (k + 1) w0 (((w8.setCell ⟨D, 0, none⟩ (.string ⟨x.pre.toArray⟩)).setCell ⟨D, 1, none⟩ (.int .i64 x.low)).setCell ⟨D, 2, none⟩ (.int .i64 x.high)) C D c x := by
  have Dl : D < w8.heap.size := (Array.getElem?_eq_some_iff.1 hb).1
  have q0 := (block_cell hb 0).trans (show _ = some (.string ⟨#[]⟩) from rfl)
  have q1 := (block_cell hb 1).trans (show _ = some (.int .i64 0) from rfl)
  have q2 := (block_cell hb 2).trans (show _ = some (.int .i64 0) from rfl)
  have hkk := ((hk.setCell_new (p := ⟨D, 0, none⟩) hD (.string ⟨x.pre.toArray⟩)).setCell_new (p := ⟨D, 1, none⟩) hD (.int .i64 x.low)).setCell_new (p := ⟨D, 2, none⟩) hD (.int .i64 x.high)
  refine ⟨hx.kept hkk (hst.upto ((((Below.refl (S + 1) w8).setCell (by show S + 1 ≤ D; omega) _).setCell (by show S + 1 ≤ D; omega) _).setCell (by show S + 1 ≤ D; omega) _)), fun j hj => ?_, by simpa using Dl, by omega, hf⟩
  obtain ⟨xp, xl, xh⟩ := x
  match j, hj with
  | 0, _ => exact (World.cell?_setCell_other _ _ _ _ (by simp)).trans ((World.cell?_setCell_other _ _ _ _ (by simp)).trans (World.cell?_setCell_same _ _ _ q0))
  | 1, _ => exact (World.cell?_setCell_other _ _ _ _ (by simp)).trans (World.cell?_setCell_same _ _ _ ((World.cell?_setCell_other _ _ _ _ (by simp)).trans q1))
  | 2, _ => exact World.cell?_setCell_same _ _ _ ((World.cell?_setCell_other _ _ _ _ (by simp)).trans ((World.cell?_setCell_other _ _ _ _ (by simp)).trans q2))

theorem bs_int_ci7 (e : Operand → Value) (he : ∀ v, e (.const v) = v) (o : Oper) (w : World)  (z0 : Int) (z1 : Int) (z2 : Int) (z3 : Int) (z4 : Int) (z5 : Int) (z6 : Int) (ho : o.op = .buildSlice 22 7 #[(0, .const (.int .i64 z0)), (1, .const (.int .i64 z1)), (2, .const (.int .i64 z2)), (3, .const (.int .i64 z3)), (4, .const (.int .i64 z4)), (5, .const (.int .i64 z5)), (6, .const (.int .i64 z6))])  :
   (execOp e o).run Tryz.prog w = .ok (.value (.slice (some ⟨w.heap.size, 0, none⟩) 7 7)) (w.alloc (.cells #[.int .i64 z0, .int .i64 z1, .int .i64 z2, .int .i64 z3, .int .i64 z4, .int .i64 z5, .int .i64 z6] 3)) := by
  unfold execOp
  rw [ho]
  simp only [List.map_toArray, List.map_cons, List.map_nil, he]
  kernel_rfl
set_option maxRecDepth 100000 in
set_option maxHeartbeats 8000000 in
theorem number_any (S k : Nat) (w : World) (a : Option Addr) (n cap : Nat) (l : List Ctry) (h : StreamOk w S k) (hk : k ≤ 10000000) (hrow : ∀ w9, Keeps S w w9 → CtryRow w9 a n l) (hcap : n ≤ cap) (h1 : 1 ≤ n) (hna : ∀ i, i < l.length → 1 ≤ (l.getD i noCtry).an) :
    Calls Tryz.prog 18 #[.pointer (some ⟨S, 0, none⟩), .slice a n cap] w (SomePost S (k + 4000) (fun s => s.length ≤ 300) w) := by
  have HS := Lib.hid h
  have HR := Lib.hid hrow
  have HNA := Lib.hid hna
  have hlt := h.lt
  obtain ⟨b, off, rfl, hb, hcell⟩ := ctry_at (hrow w (Keeps.refl _ _)) h1
  have HLEN := Lib.hid (hrow w (Keeps.refl _ _)).len
  have hfew := (hrow w (Keeps.refl _ _)).few
  clear h hrow hna hcell
  obtain ⟨m, rfl⟩ : ∃ m, n = m + 1 := ⟨n - 1, by omega⟩
  go_enter Tryz.func18, Tryz.ntmps18
  go_wp2_with fail
  refine (flip_any S k 6 _ HS.out (by omega) (by decide) (by decide)).mono ?_
  rintro e w1 ⟨fl, rfl, hst1, hk1⟩
  have HS1 := Lib.hid hst1
  have HK1 := Lib.hid hk1
  clear hst1 hk1
  cases fl
  · have HC : Hid (Calls Tryz.prog 53 #[.slice (some ⟨b, off, none⟩) (m + 1) cap, .func (.func 61) #[] #[]] w1 fun e w' => e = .returned (.bool false) ∧ Below w1.heap.size w1 w') := by
      have hr1 := HR.out w1 HK1.out
      have hany : (l.take (m + 1)).any (fun x => x.an == 0) = false := by
        rw [List.any_eq_false]
        intro x hx
        obtain ⟨i, hi, rfl⟩ := List.getElem_of_mem (List.mem_of_mem_take hx)
        have := HNA.out i hi
        rw [show l.getD i noCtry = l[i] by simp [hi]] at this
        simp; omega
      obtain ⟨b9, off9, ha9, hb9, hc9⟩ := ctry_at hr1 h1
      injection ha9 with ha9
      injection ha9 with e1 e2
      subst e1 e2
      refine (Tryz.slices_hasC Ctry.cells (fun x => rfl) (fun x => x.an == 0) 61 #[] (fun args w => rfl) b off (m + 1) cap l w1 (none_pred w1) (by have := HLEN.out; omega) (by omega) hb9 (fun j hj i v hv => ?_)).mono ?_
      · have hi : i < 4 := by have := (List.getElem?_eq_some_iff.1 hv).1; simpa [Ctry.cells] using this
        rw [hc9 j (by have := HLEN.out; omega) i hi, show l.getD j noCtry = l[j]! by simp [hj]]
        exact hv
      · rintro e w' ⟨rfl, hb'⟩
        exact ⟨by rw [hany], hb'⟩
    as_aux_lemma =>
      go_wp2_with fail
      refine HC.out.mono ?_
      rintro e w2 ⟨rfl, hb2⟩
      have HK2 := Lib.hid (HK1.out.trans (Keeps.of_below hb2))
      have HS2 := Lib.hid (HS1.out.below hb2)
      clear hb2 HS1 HK1 HC
      as_aux_lemma =>
        go_upto_region 3 with (fail)
        go_cut [5] (fun s5 wx => ∃ (c : Ctry) (C : Nat), s5 = .pointer (some ⟨C, 0, none⟩) ∧ Hid (CtryBox S (k + 2) w wx C c))
        case first =>
          go_wp2_with fail
          refine (next_any S (k + 1) ((m : Int) + 1) _ HS2.out (by omega) (by omega) (by omega)).mono ?_
          rintro e w3 ⟨r, rfl, r0, r1, hst3, hk3⟩
          obtain ⟨r, rfl⟩ := Int.eq_ofNat_of_zero_le r0
          have hr : r < m + 1 := by omega
          have HK3 := Lib.hid (HK2.out.trans hk3)
          have HS3 := Lib.hid hst3
          have hl3 := hst3.lt
          have hr3 := HR.out w3 HK3.out
          obtain ⟨b9, off9, ha9, hb9, hc9⟩ := ctry_at hr3 h1
          injection ha9 with ha9
          injection ha9 with e1 e2
          subst e1 e2
          have k0 := hc9 r hr 0 (by omega)
          have k1 := hc9 r hr 1 (by omega)
          have k2 := hc9 r hr 2 (by omega)
          have k3 := hc9 r hr 3 (by omega)
          have HFI := Lib.hid (hr3.each r (by have := HLEN.out; omega))
          have HSM := Lib.hid (HNA.out r (by have := HLEN.out; omega))
          have HAT : Hid (∀ w9, Keeps S w3 w9 → AreaRow w9 (l.getD r noCtry).aa (l.getD r noCtry).an (l.getD r noCtry).areas) := fun w9 h9 => ((HR.out w9 (HK3.out.trans h9)).each r (by have := HLEN.out; omega)).row
          clear hst3 hk3 hc9 hr3 HR HNA HK2 HS2 r0 r1
          generalize l.getD r noCtry = c at k0 k1 k2 k3 HFI HSM HAT
          obtain ⟨code, abroad, trunk, aa, an, ac, areas⟩ := c
          simp only [Ctry.cells, List.getElem?_cons_zero, List.getElem?_cons_succ, Nat.add_zero] at k0 k1 k2 k3
          have HEND : Hid (CtryBox S (k + 2) w (w3.alloc (.cells #[.string ⟨code.toArray⟩, .string ⟨abroad.toArray⟩, .string ⟨trunk.toArray⟩, .slice aa an ac] 68)) w3.heap.size ⟨code, abroad, trunk, aa, an, ac, areas⟩) := by
            refine ⟨fun j hj => ?_, by simp, by omega, HS3.out.below (ext_alloc (Below.refl _ _)), HK3.out.alloc _, fun h9 => HAT.out _ (Keeps.trans ((Keeps.refl S w3).alloc _) h9), fun z hz => HFI.out.each z (by have := HFI.out.row.len; omega), HFI.out.code, HSM.out, HFI.out.many⟩
            match j, hj with
            | 0, _ | 1, _ | 2, _ | 3, _ => simp [Ctry.cells]
          clear HFI HSM HAT HS3 HK3
          go_wp2_with fail
          go_meet
          exact ⟨_, _, rfl, HEND.out⟩
        case rest =>
          obtain ⟨⟨code, abroad, trunk, aa, an, ac, areas⟩, C, rfl, HX⟩ := hcut
          have c3 := HX.out.cells 3 (by omega)
          have c0 := HX.out.cells 0 (by omega)
          simp only [Ctry.cells, List.getElem?_cons_zero, List.getElem?_cons_succ] at c3 c0
          have Cl := HX.out.Cl
          have CS := HX.out.CS
          obtain ⟨h1an, han⟩ := HX.out.many
          have hSc := HX.out.stream.lt
          have hcode : code.length ≤ 100 := HX.out.code
          simp only at h1an han
          clear HS2 HK2 HR HNA HS HLEN
          as_aux_lemma =>
            go_upto_region 4 with (fail)
            go_cut [6] (fun s6 wx => ∃ (x : Area) (D : Nat), s6 = .pointer (some ⟨D, 0, none⟩) ∧ Hid (AreaBox S (k + 3) w wx C D ⟨code, abroad, trunk, aa, an, ac, areas⟩ x))
            case first =>
              refine region_all S (k + 2) 1 10 0 [.val (fun v => .pointer (some ⟨C, 3, none⟩) = v), .val (fun v => .slice aa an ac = v), .val (fun v => .pointer (some ⟨S, 0, none⟩) = v), .val (fun v => .pointer (some ⟨C, 3, none⟩) = v), .val (fun v => .slice aa an ac = v), .val (fun v => .int .i64 an = v), .val (fun v => ∃ z : Nat, (z < an) ∧ .int .i64 (z : Nat) = v), .val (fun v => ∃ z : Nat, (z < an) ∧ ∃ ab : Nat, (True) ∧ ∃ ao : Nat, (aa = some ⟨ab, ao, none⟩) ∧ .pointer (some ⟨ab, ao + z * 3, none⟩) = v), .val (fun v => ∃ x : Area, (AreaFine x) ∧ .agg #[.string ⟨x.pre.toArray⟩, .int .i64 x.low, .int .i64 x.high] = v), .mem (fun (w9 : World) (v : Value) => ∃ b, v = .pointer (some ⟨b, 0, none⟩) ∧ wc.heap.size ≤ b ∧ w9.heap[b]? = some (.cells #[.string ⟨#[]⟩, .int .i64 0, .int .i64 0] 72))] [6] [some 28, some 29, some 30, some 31, some 32, some 33, some 34, some 35, some 36, some 6] (by kernel_rfl) (by kernel_rfl) (by kernel_rfl) (by kernel_rfl) (by kernel_rfl) (by kernel_rfl) rfl (by kernel_rfl) rfl rfl (by kernel_rfl) HX.out.stream ⟨?_, ?_, ?_, ?_, ?_, ?_, ?_, ?_, ?_, ?_, trivial⟩ ?_
              · intro a w' c hk hst hc hfr hdp K hK
                as_aux_lemma =>
                  have E5 : a.eval (.tmp 5) = .pointer (some ⟨C, 0, none⟩) := fr_list hfr 5 (by kernel_rfl)
                  have d5 := slot_of E5
                  refine gen_pure (v := .pointer (some ⟨C, 3, none⟩)) ?_ (hK _ _ rfl (Keeps.refl _ _) hst)
                  clear hK hdp hfr
                  go_simp
              · intro a w' c hk hst hc hfr hdp K hK
                as_aux_lemma =>
                  have E28 : a.eval (.tmp 28) = .pointer (some ⟨C, 3, none⟩) := Eq.symm (hdp 0 28 _ (by kernel_rfl) (by kernel_rfl) rfl)
                  have d28 := slot_of E28
                  have cl : w'.cell? ⟨C, 3, none⟩ = some (.slice aa an ac) := (hk.cell (p := ⟨C, 3, none⟩) Cl CS).trans c3
                  refine gen_pure (v := .slice aa an ac) ?_ (hK _ _ rfl (Keeps.refl _ _) hst)
                  clear hK hdp hfr
                  go_simp
              · intro a w' c hk hst hc hfr hdp K hK
                as_aux_lemma =>
                  have E0 : a.eval (.tmp 0) = .pointer (some ⟨S, 0, none⟩) := fr_list hfr 0 (by kernel_rfl)
                  have d0 := slot_of E0
                  refine gen_pure (v := .pointer (some ⟨S, 0, none⟩)) ?_ (hK _ _ rfl (Keeps.refl _ _) hst)
                  clear hK hdp hfr
                  go_simp
              · intro a w' c hk hst hc hfr hdp K hK
                as_aux_lemma =>
                  have E5 : a.eval (.tmp 5) = .pointer (some ⟨C, 0, none⟩) := fr_list hfr 5 (by kernel_rfl)
                  have d5 := slot_of E5
                  refine gen_pure (v := .pointer (some ⟨C, 3, none⟩)) ?_ (hK _ _ rfl (Keeps.refl _ _) hst)
                  clear hK hdp hfr
                  go_simp
              · intro a w' c hk hst hc hfr hdp K hK
                as_aux_lemma =>
                  have E31 : a.eval (.tmp 31) = .pointer (some ⟨C, 3, none⟩) := Eq.symm (hdp 3 31 _ (by kernel_rfl) (by kernel_rfl) rfl)
                  have d31 := slot_of E31
                  have cl : w'.cell? ⟨C, 3, none⟩ = some (.slice aa an ac) := (hk.cell (p := ⟨C, 3, none⟩) Cl CS).trans c3
                  refine gen_pure (v := .slice aa an ac) ?_ (hK _ _ rfl (Keeps.refl _ _) hst)
                  clear hK hdp hfr
                  go_simp
              · intro a w' c hk hst hc hfr hdp K hK
                as_aux_lemma =>
                  have E32 : a.eval (.tmp 32) = .slice aa an ac := Eq.symm (hdp 4 32 _ (by kernel_rfl) (by kernel_rfl) rfl)
                  have d32 := slot_of E32
                  refine gen_pure (v := .int .i64 an) ?_ (hK _ _ rfl (Keeps.refl _ _) hst)
                  clear hK hdp hfr
                  go_simp
              · intro a w' c hk hst hc hfr hdp K hK
                as_aux_lemma =>
                  have E30 : a.eval (.tmp 30) = .pointer (some ⟨S, 0, none⟩) := Eq.symm (hdp 2 30 _ (by kernel_rfl) (by kernel_rfl) rfl)
                  have d30 := slot_of E30
                  have E33 : a.eval (.tmp 33) = .int .i64 an := Eq.symm (hdp 5 33 _ (by kernel_rfl) (by kernel_rfl) rfl)
                  have d33 := slot_of E33
                  have hc2 : c + 1 ≤ 1 := hc
                  refine gen_call 40 #[.pointer (some ⟨S, 0, none⟩), .int .i64 an] ?_ (next_any S _ an w' hst (by omega) (by omega) (by omega)) ?_
                  · clear hK hdp hfr; go_simp
                  rintro e w'' ⟨r, rfl, r0, r1, hst2, hkp⟩
                  obtain ⟨r, rfl⟩ := Int.eq_ofNat_of_zero_le r0
                  exact ⟨_, rfl, hK _ _ ⟨r, by omega, rfl⟩ hkp (hst2.mono (by simp; omega))⟩
              · intro a w' c hk hst hc hfr hdp K hK
                as_aux_lemma =>
                  have E29 : a.eval (.tmp 29) = .slice aa an ac := Eq.symm (hdp 1 29 _ (by kernel_rfl) (by kernel_rfl) rfl)
                  have d29 := slot_of E29
                  obtain ⟨z, hz, e34⟩ := hdp 6 34 _ (by kernel_rfl) (by kernel_rfl) rfl
                  have E34 := Eq.symm e34
                  have d34 := slot_of E34
                  clear e34
                  obtain ⟨ab, ao, rfl, hal, hac⟩ := area_at (HX.out.rowAt (Keeps.trans (by exact Keeps.of_below (ext_drew (Below.refl _ _))) hk)) h1an
                  refine gen_pure (v := .pointer (some ⟨ab, ao + z * 3, none⟩)) ?_ (hK _ _ ⟨z, hz, ab, trivial, ao, rfl, rfl⟩ (Keeps.refl _ _) hst)
                  clear hK hdp hfr hac
                  go_simp
              · intro a w' c hk hst hc hfr hdp K hK
                as_aux_lemma =>
                  obtain ⟨z, hz, ab, hab, ao, hao, e35⟩ := hdp 7 35 _ (by kernel_rfl) (by kernel_rfl) rfl
                  have E35 := Eq.symm e35
                  have d35 := slot_of E35
                  clear e35
                  subst hao
                  obtain ⟨ab9, ao9, ha9, hal, hac⟩ := area_at (HX.out.rowAt (Keeps.trans (by exact Keeps.of_below (ext_drew (Below.refl _ _))) hk)) h1an
                  injection ha9 with ha9
                  injection ha9 with ha1 ha2
                  subst ha1 ha2
                  have q0 := hac z hz 0 (by omega)
                  have q1 := hac z hz 1 (by omega)
                  have q2 := hac z hz 2 (by omega)
                  have hfine := HX.out.fineAt z hz
                  generalize areas.getD z noArea = x at q0 q1 q2 hfine
                  obtain ⟨xp, xl, xh⟩ := x
                  simp only [Area.cells, List.getElem?_cons_zero, List.getElem?_cons_succ, Nat.add_zero] at q0 q1 q2
                  refine gen_pure (v := .agg #[.string ⟨xp.toArray⟩, .int .i64 xl, .int .i64 xh]) ?_ (hK _ _ ⟨⟨xp, xl, xh⟩, hfine, rfl⟩ (Keeps.refl _ _) hst)
                  clear hK hdp hfr hac hfine
                  go_simp
              · intro a w' c hk hst hc hfr hdp K hK
                as_aux_lemma =>
                  refine gen_box (p := (fun (w9 : World) (v : Value) => ∃ b, v = .pointer (some ⟨b, 0, none⟩) ∧ wc.heap.size ≤ b ∧ w9.heap[b]? = some (.cells #[.string ⟨#[]⟩, .int .i64 0, .int .i64 0] 72))) #[.string ⟨#[]⟩, .int .i64 0, .int .i64 0] 72 ?_ (fun w9 hk9 => ⟨w'.heap.size, rfl, (by have := hk.size; simp at this ⊢; omega), (hk9.block w'.heap.size (by simp) (Nat.ne_of_gt hst.lt)).trans (heap_alloc_new _ _)⟩) hst hK
                  clear hK hdp hfr
                  go_simp
              intro w8 hk8 hst8
              rintro _ - _ - _ - _ - _ - _ - _ - _ - _ ⟨x, hx, rfl⟩ x6 p6
              simp only [ForVals, Act.put, List.setIfInBounds_toArray, List.set_cons_zero, List.set_cons_succ, List.drop_succ_cons, List.drop_zero]
              obtain ⟨D, rfl, hD, hb8⟩ := p6 w8 (Keeps.refl _ _)
              have kd : Keeps S wc w8 := Keeps.trans (by exact Keeps.of_below (ext_drew (Below.refl _ _))) hk8
              have HEND := Lib.hid (area_box_made HX.out kd (hst8.mono (by simp)) hD hb8 hx hSc)
              have q0 := (block_cell hb8 0).trans (show _ = some (.string ⟨#[]⟩) from rfl)
              have q1 := (block_cell hb8 1).trans (show _ = some (.int .i64 0) from rfl)
              have q2 := (block_cell hb8 2).trans (show _ = some (.int .i64 0) from rfl)
              have r0 := block_fro hb8 0
              have r1 := block_fro hb8 1
              have r2 := block_fro hb8 2
              have Dl : D < w8.heap.size := (Array.getElem?_eq_some_iff.1 hb8).1
              clear hk8 hst8 kd p6 hb8 HX c3 c0
              go_wp2_with fail
              go_meet
              exact ⟨x, D, rfl, HEND.out⟩
            case rest =>
              obtain ⟨⟨xp, xl, xh⟩, D, rfl, HY⟩ := hcut
              obtain ⟨wy, rfl⟩ : ∃ wy : World, wy = wc := ⟨_, rfl⟩
              have c0 := HY.out.box.cells 0 (by omega)
              have d0 := HY.out.cells 0 (by omega)
              have d1 := HY.out.cells 1 (by omega)
              have d2 := HY.out.cells 2 (by omega)
              simp only [Ctry.cells, Area.cells, List.getElem?_cons_zero, List.getElem?_cons_succ] at c0 d0 d1 d2
              have Cl := HY.out.box.Cl
              have CS := HY.out.box.CS
              have Dl := HY.out.Dl
              have DS := HY.out.DS
              obtain ⟨f0, f1, f2, f3, f4⟩ := HY.out.fine
              simp only at f0 f1 f2 f3 f4
              clear HX c3
              as_aux_lemma =>
                go_upto_region 5 with (fail)
                refine region_all S (k + 3) 1000 26 6 [.val (fun v => .pointer (some ⟨C, 0, none⟩) = v), .val (fun v => .string ⟨code.toArray⟩ = v), .val (fun v => ∃ s1 : List UInt8, (s1.length ≤ 101) ∧ .string ⟨s1.toArray⟩ = v), .val (fun v => .pointer (some ⟨D, 0, none⟩) = v), .val (fun v => .string ⟨xp.toArray⟩ = v), .val (fun v => ∃ s2 : List UInt8, (s2.length ≤ 201) ∧ .string ⟨s2.toArray⟩ = v), .val (fun v => .pointer (some ⟨S, 0, none⟩) = v), .val (fun v => .pointer (some ⟨S, 0, none⟩) = v), .val (fun v => .pointer (some ⟨D, 1, none⟩) = v), .val (fun v => .int .i64 xl = v), .val (fun v => ∃ z3 : Int, (-4000000000000 ≤ z3 ∧ z3 ≤ 12) ∧ .int .i64 z3 = v), .val (fun v => .pointer (some ⟨D, 2, none⟩) = v), .val (fun v => .int .i64 xh = v), .val (fun v => ∃ z4 : Int, (-4000000000000 ≤ z4 ∧ z4 ≤ 13) ∧ .int .i64 z4 = v), .val (fun v => ∃ zr : Int, (-4000000000000 ≤ zr ∧ zr ≤ 13) ∧ .int .i64 zr = v), .val (fun v => .pointer (some ⟨D, 0, none⟩) = v), .val (fun v => .string ⟨xp.toArray⟩ = v), .val (fun v => .int .i64 (xp.length : Nat) = v), .val (fun v => ∃ z5 : Int, (-5000000000000 ≤ z5 ∧ z5 ≤ 13) ∧ .int .i64 z5 = v), .val (fun v => .pointer (some ⟨S, 0, none⟩) = v), .arr 7 (· = [.int .i64 0, .int .i64 0, .int .i64 0, .int .i64 0, .int .i64 0, .int .i64 1, .int .i64 (-1)]), .val (fun v => ∃ z6 : Int, (-1 ≤ z6 ∧ z6 ≤ 1) ∧ .int .i64 z6 = v), .val (fun v => ∃ z7 : Int, (-6000000000000 ≤ z7 ∧ z7 ≤ 14) ∧ .int .i64 z7 = v), .val (fun v => ∃ zn : Nat, (zn ≤ 14) ∧ .int .i64 (zn : Nat) = v), .val (fun v => ∃ sd : List UInt8, (sd.length ≤ 14) ∧ .string ⟨sd.toArray⟩ = v), .val (fun v => ∃ s8 : List UInt8, (s8.length ≤ 300) ∧ .string ⟨s8.toArray⟩ = v)] [14, 21, 24] [some 37, some 38, some 39, some 40, some 41, some 42, some 43, some 44, some 45, some 46, some 47, some 48, some 49, some 50, some 51, some 52, some 53, some 54, some 55, some 56, some 57, some 58, some 59, some 60, some 61, some 62] (by kernel_rfl) (by kernel_rfl) (by kernel_rfl) (by kernel_rfl) (by kernel_rfl) (by kernel_rfl) rfl (by kernel_rfl) rfl rfl (by kernel_rfl) HY.out.stream ⟨?_, ?_, ?_, ?_, ?_, ?_, ?_, ?_, ?_, ?_, ?_, ?_, ?_, ?_, ?_, ?_, ?_, ?_, ?_, ?_, ?_, ?_, ?_, ?_, ?_, ?_, trivial⟩ ?_
                · intro a w' c hk hst hc hfr hdp K hK
                  as_aux_lemma =>
                    have E5 : a.eval (.tmp 5) = .pointer (some ⟨C, 0, none⟩) := fr_list hfr 5 (by kernel_rfl)
                    have d5 := slot_of E5
                    refine gen_pure (v := .pointer (some ⟨C, 0, none⟩)) ?_ (hK _ _ rfl (Keeps.refl _ _) hst)
                    clear hK hdp hfr
                    go_simp
                · intro a w' c hk hst hc hfr hdp K hK
                  as_aux_lemma =>
                    have E37 : a.eval (.tmp 37) = .pointer (some ⟨C, 0, none⟩) := Eq.symm (hdp 0 37 _ (by kernel_rfl) (by kernel_rfl) rfl)
                    have d37 := slot_of E37
                    have cl : w'.cell? ⟨C, 0, none⟩ = some (.string ⟨code.toArray⟩) := (hk.cell (p := ⟨C, 0, none⟩) Cl CS).trans c0
                    refine gen_pure (v := .string ⟨code.toArray⟩) ?_ (hK _ _ rfl (Keeps.refl _ _) hst)
                    clear hK hdp hfr
                    go_simp
                · intro a w' c hk hst hc hfr hdp K hK
                  as_aux_lemma =>
                    have E38 : a.eval (.tmp 38) = .string ⟨code.toArray⟩ := Eq.symm (hdp 1 38 _ (by kernel_rfl) (by kernel_rfl) rfl)
                    have d38 := slot_of E38
                    refine gen_pure (v := .string ⟨(([43] : List UInt8) ++ code).toArray⟩) ?_ (hK _ _ ⟨(([43] : List UInt8) ++ code), by simp only [List.length_append, List.length_cons, List.length_nil]; omega, rfl⟩ (Keeps.refl _ _) hst)
                    clear hK hdp hfr
                    rw [← cat_str]
                    go_simp <;> omega
                · intro a w' c hk hst hc hfr hdp K hK
                  as_aux_lemma =>
                    have E6 : a.eval (.tmp 6) = .pointer (some ⟨D, 0, none⟩) := fr_list hfr 6 (by kernel_rfl)
                    have d6 := slot_of E6
                    refine gen_pure (v := .pointer (some ⟨D, 0, none⟩)) ?_ (hK _ _ rfl (Keeps.refl _ _) hst)
                    clear hK hdp hfr
                    go_simp
                · intro a w' c hk hst hc hfr hdp K hK
                  as_aux_lemma =>
                    have E40 : a.eval (.tmp 40) = .pointer (some ⟨D, 0, none⟩) := Eq.symm (hdp 3 40 _ (by kernel_rfl) (by kernel_rfl) rfl)
                    have d40 := slot_of E40
                    have cl : w'.cell? ⟨D, 0, none⟩ = some (.string ⟨xp.toArray⟩) := (hk.cell (p := ⟨D, 0, none⟩) Dl DS).trans d0
                    refine gen_pure (v := .string ⟨xp.toArray⟩) ?_ (hK _ _ rfl (Keeps.refl _ _) hst)
                    clear hK hdp hfr
                    go_simp
                · intro a w' c hk hst hc hfr hdp K hK
                  as_aux_lemma =>
                    obtain ⟨s1, hs1, e39⟩ := hdp 2 39 _ (by kernel_rfl) (by kernel_rfl) rfl
                    have E39 := Eq.symm e39
                    have d39 := slot_of E39
                    clear e39
                    have E41 : a.eval (.tmp 41) = .string ⟨xp.toArray⟩ := Eq.symm (hdp 4 41 _ (by kernel_rfl) (by kernel_rfl) rfl)
                    have d41 := slot_of E41
                    refine gen_pure (v := .string ⟨(s1 ++ xp).toArray⟩) ?_ (hK _ _ ⟨(s1 ++ xp), by simp only [List.length_append, List.length_cons, List.length_nil]; omega, rfl⟩ (Keeps.refl _ _) hst)
                    clear hK hdp hfr
                    rw [← cat_str]
                    go_simp <;> omega
                · intro a w' c hk hst hc hfr hdp K hK
                  as_aux_lemma =>
                    have E0 : a.eval (.tmp 0) = .pointer (some ⟨S, 0, none⟩) := fr_list hfr 0 (by kernel_rfl)
                    have d0 := slot_of E0
                    refine gen_pure (v := .pointer (some ⟨S, 0, none⟩)) ?_ (hK _ _ rfl (Keeps.refl _ _) hst)
                    clear hK hdp hfr
                    go_simp
                · intro a w' c hk hst hc hfr hdp K hK
                  as_aux_lemma =>
                    have E0 : a.eval (.tmp 0) = .pointer (some ⟨S, 0, none⟩) := fr_list hfr 0 (by kernel_rfl)
                    have d0 := slot_of E0
                    refine gen_pure (v := .pointer (some ⟨S, 0, none⟩)) ?_ (hK _ _ rfl (Keeps.refl _ _) hst)
                    clear hK hdp hfr
                    go_simp
                · intro a w' c hk hst hc hfr hdp K hK
                  as_aux_lemma =>
                    have E6 : a.eval (.tmp 6) = .pointer (some ⟨D, 0, none⟩) := fr_list hfr 6 (by kernel_rfl)
                    have d6 := slot_of E6
                    refine gen_pure (v := .pointer (some ⟨D, 1, none⟩)) ?_ (hK _ _ rfl (Keeps.refl _ _) hst)
                    clear hK hdp hfr
                    go_simp
                · intro a w' c hk hst hc hfr hdp K hK
                  as_aux_lemma =>
                    have E45 : a.eval (.tmp 45) = .pointer (some ⟨D, 1, none⟩) := Eq.symm (hdp 8 45 _ (by kernel_rfl) (by kernel_rfl) rfl)
                    have d45 := slot_of E45
                    have cl : w'.cell? ⟨D, 1, none⟩ = some (.int .i64 xl) := (hk.cell (p := ⟨D, 1, none⟩) Dl DS).trans d1
                    refine gen_pure (v := .int .i64 xl) ?_ (hK _ _ rfl (Keeps.refl _ _) hst)
                    clear hK hdp hfr
                    go_simp
                · intro a w' c hk hst hc hfr hdp K hK
                  as_aux_lemma =>
                    have E46 : a.eval (.tmp 46) = .int .i64 xl := Eq.symm (hdp 9 46 _ (by kernel_rfl) (by kernel_rfl) rfl)
                    have d46 := slot_of E46
                    have hrng : -4000000000000 ≤ (min xl 12 : Int) ∧ (min xl 12 : Int) ≤ 12 := by omega
                    refine gen_pure (v := .int .i64 (min xl 12 : Int)) ?_ (hK _ _ ⟨(min xl 12 : Int), hrng, rfl⟩ (Keeps.refl _ _) hst)
                    clear hK hdp hfr hrng
                    go_simp
                · intro a w' c hk hst hc hfr hdp K hK
                  as_aux_lemma =>
                    have E6 : a.eval (.tmp 6) = .pointer (some ⟨D, 0, none⟩) := fr_list hfr 6 (by kernel_rfl)
                    have d6 := slot_of E6
                    refine gen_pure (v := .pointer (some ⟨D, 2, none⟩)) ?_ (hK _ _ rfl (Keeps.refl _ _) hst)
                    clear hK hdp hfr
                    go_simp
                · intro a w' c hk hst hc hfr hdp K hK
                  as_aux_lemma =>
                    have E48 : a.eval (.tmp 48) = .pointer (some ⟨D, 2, none⟩) := Eq.symm (hdp 11 48 _ (by kernel_rfl) (by kernel_rfl) rfl)
                    have d48 := slot_of E48
                    have cl : w'.cell? ⟨D, 2, none⟩ = some (.int .i64 xh) := (hk.cell (p := ⟨D, 2, none⟩) Dl DS).trans d2
                    refine gen_pure (v := .int .i64 xh) ?_ (hK _ _ rfl (Keeps.refl _ _) hst)
                    clear hK hdp hfr
                    go_simp
                · intro a w' c hk hst hc hfr hdp K hK
                  as_aux_lemma =>
                    have E49 : a.eval (.tmp 49) = .int .i64 xh := Eq.symm (hdp 12 49 _ (by kernel_rfl) (by kernel_rfl) rfl)
                    have d49 := slot_of E49
                    have hrng : -4000000000000 ≤ (min xh 13 : Int) ∧ (min xh 13 : Int) ≤ 13 := by omega
                    refine gen_pure (v := .int .i64 (min xh 13 : Int)) ?_ (hK _ _ ⟨(min xh 13 : Int), hrng, rfl⟩ (Keeps.refl _ _) hst)
                    clear hK hdp hfr hrng
                    go_simp
                · intro a w' c hk hst hc hfr hdp K hK
                  as_aux_lemma =>
                    have E44 : a.eval (.tmp 44) = .pointer (some ⟨S, 0, none⟩) := Eq.symm (hdp 7 44 _ (by kernel_rfl) (by kernel_rfl) rfl)
                    have d44 := slot_of E44
                    obtain ⟨z3, hz3, e47⟩ := hdp 10 47 _ (by kernel_rfl) (by kernel_rfl) rfl
                    have E47 := Eq.symm e47
                    have d47 := slot_of E47
                    clear e47
                    obtain ⟨z4, hz4, e50⟩ := hdp 13 50 _ (by kernel_rfl) (by kernel_rfl) rfl
                    have E50 := Eq.symm e50
                    have d50 := slot_of E50
                    clear e50
                    have hc2 : c + 1 ≤ 3 := hc
                    refine gen_call 45 #[.pointer (some ⟨S, 0, none⟩), .int .i64 z3, .int .i64 z4] ?_ (range_gen S _ z3 z4 w' hst (by omega) (by omega) (by omega)) ?_
                    · clear hK hdp hfr; go_simp
                    rintro e w'' ⟨r, rfl, ⟨r0, r1⟩, hst2, hkp⟩
                    exact ⟨_, rfl, hK _ _ ⟨r, by omega, rfl⟩ hkp (hst2.mono (by simp; omega))⟩
                · intro a w' c hk hst hc hfr hdp K hK
                  as_aux_lemma =>
                    have E6 : a.eval (.tmp 6) = .pointer (some ⟨D, 0, none⟩) := fr_list hfr 6 (by kernel_rfl)
                    have d6 := slot_of E6
                    refine gen_pure (v := .pointer (some ⟨D, 0, none⟩)) ?_ (hK _ _ rfl (Keeps.refl _ _) hst)
                    clear hK hdp hfr
                    go_simp
                · intro a w' c hk hst hc hfr hdp K hK
                  as_aux_lemma =>
                    have E52 : a.eval (.tmp 52) = .pointer (some ⟨D, 0, none⟩) := Eq.symm (hdp 15 52 _ (by kernel_rfl) (by kernel_rfl) rfl)
                    have d52 := slot_of E52
                    have cl : w'.cell? ⟨D, 0, none⟩ = some (.string ⟨xp.toArray⟩) := (hk.cell (p := ⟨D, 0, none⟩) Dl DS).trans d0
                    refine gen_pure (v := .string ⟨xp.toArray⟩) ?_ (hK _ _ rfl (Keeps.refl _ _) hst)
                    clear hK hdp hfr
                    go_simp
                · intro a w' c hk hst hc hfr hdp K hK
                  as_aux_lemma =>
                    have E53 : a.eval (.tmp 53) = .string ⟨xp.toArray⟩ := Eq.symm (hdp 16 53 _ (by kernel_rfl) (by kernel_rfl) rfl)
                    have d53 := slot_of E53
                    refine gen_pure (v := .int .i64 (xp.length : Nat)) ?_ (hK _ _ rfl (Keeps.refl _ _) hst)
                    clear hK hdp hfr
                    go_simp
                · intro a w' c hk hst hc hfr hdp K hK
                  as_aux_lemma =>
                    obtain ⟨zr, hzr, e51⟩ := hdp 14 51 _ (by kernel_rfl) (by kernel_rfl) rfl
                    have E51 := Eq.symm e51
                    have d51 := slot_of E51
                    clear e51
                    have E54 : a.eval (.tmp 54) = .int .i64 (xp.length : Nat) := Eq.symm (hdp 17 54 _ (by kernel_rfl) (by kernel_rfl) rfl)
                    have d54 := slot_of E54
                    have hwr : IntKind.i64.wrap (zr - (xp.length : Nat)) = (zr - (xp.length : Nat)) := IntWalk.i64_in _ (by omega)
                    have hrng : -5000000000000 ≤ (zr - (xp.length : Nat)) ∧ (zr - (xp.length : Nat)) ≤ 13 := by omega
                    refine gen_pure (v := .int .i64 (zr - (xp.length : Nat))) ?_ (hK _ _ ⟨(zr - (xp.length : Nat)), hrng, rfl⟩ (Keeps.refl _ _) hst)
                    clear hK hdp hfr hrng
                    go_simp
                · intro a w' c hk hst hc hfr hdp K hK
                  as_aux_lemma =>
                    have E0 : a.eval (.tmp 0) = .pointer (some ⟨S, 0, none⟩) := fr_list hfr 0 (by kernel_rfl)
                    have d0 := slot_of E0
                    refine gen_pure (v := .pointer (some ⟨S, 0, none⟩)) ?_ (hK _ _ rfl (Keeps.refl _ _) hst)
                    clear hK hdp hfr
                    go_simp
                · intro a w' c hk hst hc hfr hdp K hK
                  as_aux_lemma =>
                    exact gen_alloc (p := (· = ([.int .i64 0, .int .i64 0, .int .i64 0, .int .i64 0, .int .i64 0, .int .i64 1, .int .i64 (-1)] : List Value))) #[.int .i64 0, .int .i64 0, .int .i64 0, .int .i64 0, .int .i64 0, .int .i64 1, .int .i64 (-1)] 3 (bs_int_ci7 _ (fun _ => rfl) _ _ _ _ _ _ _ _ _ rfl ) rfl hst hK
                · intro a w' c hk hst hc hfr hdp K hK
                  as_aux_lemma =>
                    have E56 : a.eval (.tmp 56) = .pointer (some ⟨S, 0, none⟩) := Eq.symm (hdp 19 56 _ (by kernel_rfl) (by kernel_rfl) rfl)
                    have d56 := slot_of E56
                    have d57 := hdp 20 57 _ (by kernel_rfl) (by kernel_rfl) rfl
                    have hc2 : c + 1 ≤ 3 := hc
                    generalize hv2 : a.eval (.tmp 57) = v2 at d57
                    have d3 := slot_of hv2
                    clear hv2
                    refine gen_call 41 #[.pointer (some ⟨S, 0, none⟩), v2] ?_ (calls_pick S _ v2 [0, 0, 0, 0, 0, 1, (-1)] (fun z6 => -1 ≤ z6 ∧ z6 ≤ 1) w' hst (by omega) d57 (by decide) (by decide) (by decide)) ?_
                    · clear hK hdp hfr; go_simp
                    rintro e w'' ⟨r, rfl, hr, hst2, hkp⟩
                    exact ⟨_, rfl, hK _ _ ⟨r, hr, rfl⟩ hkp (hst2.mono (by simp; omega))⟩
                · intro a w' c hk hst hc hfr hdp K hK
                  as_aux_lemma =>
                    obtain ⟨z5, hz5, e55⟩ := hdp 18 55 _ (by kernel_rfl) (by kernel_rfl) rfl
                    have E55 := Eq.symm e55
                    have d55 := slot_of E55
                    clear e55
                    obtain ⟨z6, hz6, e58⟩ := hdp 21 58 _ (by kernel_rfl) (by kernel_rfl) rfl
                    have E58 := Eq.symm e58
                    have d58 := slot_of E58
                    clear e58
                    have hwr : IntKind.i64.wrap (z5 + z6) = (z5 + z6) := IntWalk.i64_in _ (by omega)
                    have hrng : -6000000000000 ≤ (z5 + z6) ∧ (z5 + z6) ≤ 14 := by omega
                    refine gen_pure (v := .int .i64 (z5 + z6)) ?_ (hK _ _ ⟨(z5 + z6), hrng, rfl⟩ (Keeps.refl _ _) hst)
                    clear hK hdp hfr hrng
                    go_simp
                · intro a w' c hk hst hc hfr hdp K hK
                  as_aux_lemma =>
                    obtain ⟨z7, hz7, e59⟩ := hdp 22 59 _ (by kernel_rfl) (by kernel_rfl) rfl
                    have E59 := Eq.symm e59
                    have d59 := slot_of E59
                    clear e59
                    have hrng : 0 ≤ (max 0 z7 : Int) ∧ (max 0 z7 : Int) ≤ 14 := by omega
                    refine gen_pure (v := .int .i64 (((max 0 z7 : Int).toNat : Nat) : Int)) ?_ (hK _ _ ⟨(max 0 z7 : Int).toNat, by omega, rfl⟩ (Keeps.refl _ _) hst)
                    clear hK hdp hfr
                    rw [Int.toNat_of_nonneg hrng.1]
                    clear hrng
                    go_simp
                · intro a w' c hk hst hc hfr hdp K hK
                  as_aux_lemma =>
                    have E43 : a.eval (.tmp 43) = .pointer (some ⟨S, 0, none⟩) := Eq.symm (hdp 6 43 _ (by kernel_rfl) (by kernel_rfl) rfl)
                    have d43 := slot_of E43
                    obtain ⟨zn, hzn, e60⟩ := hdp 23 60 _ (by kernel_rfl) (by kernel_rfl) rfl
                    have E60 := Eq.symm e60
                    have d60 := slot_of E60
                    clear e60
                    have hc2 : c + 1 ≤ 3 := hc
                    refine gen_call 62 #[.pointer (some ⟨S, 0, none⟩), .int .i64 zn] ?_ (digitRow_any S _ zn w' hst (by omega) (by omega)) ?_
                    · clear hK hdp hfr; go_simp
                    rintro e w'' ⟨r, rfl, hr, hst2, hkp⟩
                    exact ⟨_, rfl, hK _ _ ⟨r, by omega, rfl⟩ hkp (hst2.mono (by simp; omega))⟩
                · intro a w' c hk hst hc hfr hdp K hK
                  as_aux_lemma =>
                    obtain ⟨s2, hs2, e42⟩ := hdp 5 42 _ (by kernel_rfl) (by kernel_rfl) rfl
                    have E42 := Eq.symm e42
                    have d42 := slot_of E42
                    clear e42
                    obtain ⟨sd, hsd, e61⟩ := hdp 24 61 _ (by kernel_rfl) (by kernel_rfl) rfl
                    have E61 := Eq.symm e61
                    have d61 := slot_of E61
                    clear e61
                    refine gen_pure (v := .string ⟨(s2 ++ sd).toArray⟩) ?_ (hK _ _ ⟨(s2 ++ sd), by simp only [List.length_append, List.length_cons, List.length_nil]; omega, rfl⟩ (Keeps.refl _ _) hst)
                    clear hK hdp hfr
                    rw [← cat_str]
                    go_simp <;> omega
                intro w8 hk8 hst8
                rintro _ - _ - _ - _ - _ - _ - _ - _ - _ - _ - _ - _ - _ - _ - _ - _ - _ - _ - _ - _ - _ - _ - _ - _ - _ - _ ⟨s8, hs8, rfl⟩
                simp only [ForVals, Act.put, List.setIfInBounds_toArray, List.set_cons_zero, List.set_cons_succ, List.drop_succ_cons, List.drop_zero]
                have HK8 := Lib.hid (HY.out.box.keeps.trans (Keeps.trans (by exact Keeps.of_below (ext_drew (Below.refl _ _))) hk8))
                have HS8 := Lib.hid hst8
                clear hk8 hst8 HY c0 d0 d1 d2
                go_wp2_with fail
                go_ret
                exact ⟨_, rfl, hs8, HS8.out.mono (by simp <;> omega), HK8.out⟩
  · skip
    as_aux_lemma =>
      go_wp2_with (refine wpList_val rfl (bs_str11 _ (fun _ => rfl) _ _ _ _ _ _ _ _ _ _ _ _ _ rfl) ?_)
      refine (some_any S (k + 1) w1.heap.size 11 11 [[], [43], [43, 49, 50, 51], [43, 48, 49, 50, 51], [52, 57, 51, 48, 49], [43, 52, 57, 51, 48, 49, 50, 51, 52, 53, 54, 55, 56, 57, 48, 49, 50, 51], [43, 55, 49, 50, 51], [43, 52, 57, 49, 49], [43, 52, 57, 51, 48], [43, 52, 57, 51, 48, 49, 50, 51, 52, 53, 54, 55, 56], [43, 49, 50, 48, 57]] (fun x => x.length ≤ 300) _ (HS1.out.below (ext_alloc (Below.refl _ _))) (by omega) (by simp) (by have := HS1.out.lt; omega) (by omega) (by omega) (fun i hi => by match i, hi with | 0, _ | 1, _ | 2, _ | 3, _ | 4, _ | 5, _ | 6, _ | 7, _ | 8, _ | 9, _ | 10, _ => go_simp) (fun i hi => by match i, hi with | 0, _ | 1, _ | 2, _ | 3, _ | 4, _ | 5, _ | 6, _ | 7, _ | 8, _ | 9, _ | 10, _ => decide)).mono ?_
      rintro e w5 ⟨x, rfl, hx, hst5, hkp5⟩
      have HK5 := Lib.hid ((HK1.out.alloc _).trans hkp5)
      have HS5 := Lib.hid hst5
      have HX := Lib.hid hx
      clear hst5 hkp5 hx
      go_wp2_with fail
      go_ret
      exact ⟨x, rfl, HX.out, HS5.out.mono (by omega), HK5.out⟩
end Go.Proofs.YthajppcmmmkfcaaGreatDoor

set_option linter.unusedVariables false
set_option linter.unusedSimpArgs false
namespace Go.Proofs.YthajppcmmmkfcaaGreatDoor
open Go.RowKit

def digs (l : List UInt8) : Bool := l.all fun c => decide (48 ≤ c.toNat) && decide (c.toNat ≤ 57)
theorem digs_app (a b : List UInt8) : digs (a ++ b) = (digs a && digs b) := by simp [digs, List.all_append]

theorem plan_area {l : List Ctry} (h : planErr l = 0) : ∀ i, i < l.length → ∀ z, z < (l.getD i noCtry).areas.length → areaErr (l.getD i noCtry) z = 0 := by
  unfold planErr at h
  split at h
  · cases h
  intro i hi z hz
  have := first_zero h i hi
  unfold partErr at this
  split at this
  · rename_i h1; exact absurd this h1
  · exact first_zero this z hz
theorem area_parts {c : Ctry} {z : Nat} (h : areaErr c z = 0) : digitsB (c.areas.getD z noArea).pre 1 8 = true ∧ Lib.hasPrefix (c.trunk ++ (c.areas.getD z noArea).pre) c.abroad = false ∧ Lib.hasPrefix c.abroad (c.trunk ++ (c.areas.getD z noArea).pre) = false ∧ (((c.areas.getD z noArea).pre.length : Int) < (c.areas.getD z noArea).low ∧ (c.areas.getD z noArea).low ≤ (c.areas.getD z noArea).high ∧ (c.areas.getD z noArea).high ≤ 15 - (c.code.length : Int) ∧ 4 - (c.code.length : Int) ≤ (c.areas.getD z noArea).low) := by
  unfold areaErr areaErrOf at h
  generalize c.areas.getD z noArea = a at h ⊢
  split at h
  · cases h
  rename_i h1
  split at h
  · cases h
  split at h
  · cases h
  rename_i h3
  split at h
  · cases h
  rename_i h4
  simp only [Bool.or_eq_true, not_or, Bool.not_eq_true] at h3
  have h4' : areaBad c.code a.pre a.low a.high = false := by simpa using h4
  unfold areaBad at h4'
  simp only [Bool.or_eq_false_iff, decide_eq_false_iff_not] at h4'
  exact ⟨by simpa using h1, h3.2.1, h3.2.2, by omega⟩

/-- A number that is right for a plan. -/
def RightN (l : List Ctry) (s : List UInt8) : Prop :=
  ∃ (r : Nat) (c : Ctry) (z : Nat) (d : List UInt8), r < l.length ∧ l.getD r noCtry = c ∧ z < c.an ∧ s = (([43] ++ c.code) ++ (c.areas.getD z noArea).pre) ++ d ∧ ((c.areas.getD z noArea).low ≤ ((c.areas.getD z noArea).pre.length : Int) + d.length ∧ ((c.areas.getD z noArea).pre.length : Int) + d.length ≤ (c.areas.getD z noArea).high) ∧ digs d = true
structure CBox (S k : Nat) (l : List Ctry) (w0 w : World) (C : Nat) (c : Ctry) : Prop where
  box : CtryBox S k w0 w C c
  here : ∃ r, r < l.length ∧ l.getD r noCtry = c
structure ABox (S k : Nat) (l : List Ctry) (w0 w : World) (C D : Nat) (c : Ctry) (x : Area) : Prop where
  box : AreaBox S k w0 w C D c x
  here : ∃ r, r < l.length ∧ l.getD r noCtry = c
  area : ∃ z, z < c.an ∧ c.areas.getD z noArea = x
theorem CBox.stream {S k : Nat} {l : List Ctry} {w0 w : World} {C : Nat} {c : Ctry} (h : CBox S k l w0 w C c) : StreamOk w S k := h.box.stream
theorem CBox.rowAt {S k : Nat} {l : List Ctry} {w0 w : World} {C : Nat} {c : Ctry} (h : CBox S k l w0 w C c) {w9 : World} (h9 : Keeps S w w9) : AreaRow w9 c.aa c.an c.areas := h.box.rowAt h9
theorem ABox.stream {S k : Nat} {l : List Ctry} {w0 w : World} {C D : Nat} {c : Ctry} {x : Area} (h : ABox S k l w0 w C D c x) : StreamOk w S k := h.box.stream

set_option maxRecDepth 100000 in
theorem digitRow_all (S k n : Nat) (w : World) (h : StreamOk w S k) (hk : k ≤ 100000000) (hn : n ≤ 1000) :
    Calls Tryz.prog 62 #[.pointer (some ⟨S, 0, none⟩), .int .i64 n] w (SomePost S (k + 1000) (fun r => r.length = n ∧ digs r = true) w) := by
  have HS := Lib.hid h
  clear h
  go_enter Tryz.func62, Tryz.ntmps62
  go_wp2_with fail
  go_loopw [5, 7] (fun v it wr => ∃ (j : Nat) (x : List UInt8), j ≤ n ∧ x.length = j ∧ Hid (digs x = true) ∧ v = .string ⟨x.toArray⟩ ∧ it = .int .i64 j ∧ Hid (StreamOk wr S (k + j)) ∧ Hid (Keeps S w wr)) (fun _ it _ => n - (intOf it).toNat)
  case atStart => exact ⟨0, [], Nat.zero_le _, rfl, rfl, rfl, rfl, HS, Keeps.refl _ _⟩
  case round =>
    obtain ⟨j, x, hj, hx, HD, rfl, rfl, HO, HK⟩ := hrel
    by_cases hlt : j < n
    · have hl := HO.out.lt
      go_wp2_with fail
      refine (some_any S (k + j) wr.heap.size 7 7 [[48], [49], [50], [51], [48], [57], [53]] (fun r => r.length = 1 ∧ digs r = true) _ (HO.out.below (ext_alloc (Below.refl _ _))) (by omega) (by simp) (by omega) (by omega) (by omega) (fun i hi => by match i, hi with | 0, _ | 1, _ | 2, _ | 3, _ | 4, _ | 5, _ | 6, _ => go_simp) (fun i hi => by match i, hi with | 0, _ | 1, _ | 2, _ | 3, _ | 4, _ | 5, _ | 6, _ => decide)).mono ?_
      rintro e w2 ⟨r, rfl, ⟨hr, hrd⟩, hst2, hkp2⟩
      have HK2 := Lib.hid ((HK.out.alloc _).trans hkp2)
      have HS2 := Lib.hid hst2
      have HD2 : Hid (digs (x ++ r) = true) := by show _ = _; rw [digs_app, HD.out, hrd]; rfl
      clear hst2 hkp2 hrd
      go_wp2_with fail
      go_roundw
      case rel => exact ⟨j + 1, x ++ r, by omega, by rw [List.length_append]; omega, HD2, by rw [cat_str], by go_num, HS2.out, HK2.out⟩
      case measure => simp [intOf]; omega
    · have hf : Hid (x.length = n) := by show _ = _; omega
      have HS2 := Lib.hid (HO.out.mono (show k + j ≤ k + 1000 by omega))
      go_wp2_with fail
      go_ret
      exact ⟨x, rfl, ⟨hf.out, HD.out⟩, HS2.out, HK.out⟩

set_option maxRecDepth 100000 in
set_option maxHeartbeats 8000000 in
theorem rightNumber_any (S k : Nat) (w : World) (a : Option Addr) (n cap : Nat) (l : List Ctry) (h : StreamOk w S k) (hk : k ≤ 10000000) (hrow : ∀ w9, Keeps S w w9 → CtryRow w9 a n l) (hcap : n ≤ cap) (h1 : 1 ≤ n) (hna : ∀ i, i < l.length → 1 ≤ (l.getD i noCtry).an) (hE : planErr l = 0) :
    Calls Tryz.prog 44 #[.pointer (some ⟨S, 0, none⟩), .slice a n cap] w (SomePost S (k + 4000) (fun s => RightN l s ∧ s.length ≤ 300) w) := by
  have HS := Lib.hid h
  have HR := Lib.hid hrow
  have HNA := Lib.hid hna
  have HE := Lib.hid hE
  have hlt := h.lt
  obtain ⟨b, off, rfl, hb, hcell⟩ := ctry_at (hrow w (Keeps.refl _ _)) h1
  have HLEN := Lib.hid (hrow w (Keeps.refl _ _)).len
  have HFINE := Lib.hid (hrow w (Keeps.refl _ _)).each
  have hfew := (hrow w (Keeps.refl _ _)).few
  clear h hrow hna hcell hE
  obtain ⟨m, rfl⟩ : ∃ m, n = m + 1 := ⟨n - 1, by omega⟩
  go_enter Tryz.func44, Tryz.ntmps44
  go_upto_region 1 with (fail)
  go_cut [5] (fun s5 wx => ∃ (c : Ctry) (C : Nat), s5 = .pointer (some ⟨C, 0, none⟩) ∧ Hid (CBox S (k + 1) l w wx C c))
  case first =>
    go_wp2_with fail
    refine (next_any S k ((m : Int) + 1) _ HS.out (by omega) (by omega) (by omega)).mono ?_
    rintro e w3 ⟨r, rfl, r0, r1, hst3, hk3⟩
    obtain ⟨r, rfl⟩ := Int.eq_ofNat_of_zero_le r0
    have hr : r < m + 1 := by omega
    have HK3 := Lib.hid hk3
    have HS3 := Lib.hid hst3
    have hl3 := hst3.lt
    have hr3 := HR.out w3 HK3.out
    obtain ⟨b9, off9, ha9, hb9, hc9⟩ := ctry_at hr3 h1
    injection ha9 with ha9
    injection ha9 with e1 e2
    subst e1 e2
    have k0 := hc9 r hr 0 (by omega)
    have k1 := hc9 r hr 1 (by omega)
    have k2 := hc9 r hr 2 (by omega)
    have k3 := hc9 r hr 3 (by omega)
    have HFI := Lib.hid (hr3.each r (by have := HLEN.out; omega))
    have HSM := Lib.hid (HNA.out r (by have := HLEN.out; omega))
    have HAT : Hid (∀ w9, Keeps S w3 w9 → AreaRow w9 (l.getD r noCtry).aa (l.getD r noCtry).an (l.getD r noCtry).areas) := fun w9 h9 => ((HR.out w9 (HK3.out.trans h9)).each r (by have := HLEN.out; omega)).row
    have HIN : Hid (∃ r9, r9 < l.length ∧ l.getD r9 noCtry = l.getD r noCtry) := ⟨r, by have := HLEN.out; omega, rfl⟩
    clear hst3 hk3 hc9 hr3 HR HNA HS r0 r1 HFINE
    generalize l.getD r noCtry = c at k0 k1 k2 k3 HFI HSM HAT HIN
    obtain ⟨code, abroad, trunk, aa, an, ac, areas⟩ := c
    simp only [Ctry.cells, List.getElem?_cons_zero, List.getElem?_cons_succ, Nat.add_zero] at k0 k1 k2 k3
    have HEND : Hid (CBox S (k + 1) l w (w3.alloc (.cells #[.string ⟨code.toArray⟩, .string ⟨abroad.toArray⟩, .string ⟨trunk.toArray⟩, .slice aa an ac] 68)) w3.heap.size ⟨code, abroad, trunk, aa, an, ac, areas⟩) := by
      refine ⟨⟨fun j hj => ?_, by simp, by omega, HS3.out.below (ext_alloc (Below.refl _ _)), HK3.out.alloc _, fun h9 => HAT.out _ (Keeps.trans ((Keeps.refl S w3).alloc _) h9), fun z hz => HFI.out.each z (by have := HFI.out.row.len; omega), HFI.out.code, HSM.out, HFI.out.many⟩, HIN.out⟩
      match j, hj with
      | 0, _ | 1, _ | 2, _ | 3, _ => simp [Ctry.cells]
    clear HFI HSM HAT HS3 HK3 HIN
    go_wp2_with fail
    go_meet
    exact ⟨_, _, rfl, HEND.out⟩
  case rest =>
    obtain ⟨c0, C, rfl, HX⟩ := hcut
    have HAR : Hid (∀ z, z < c0.an → ((c0.areas.getD z noArea).pre.length : Int) < (c0.areas.getD z noArea).low ∧ (c0.areas.getD z noArea).low ≤ (c0.areas.getD z noArea).high ∧ (c0.areas.getD z noArea).high ≤ 15 - (c0.code.length : Int)) := by
      intro z hz
      obtain ⟨r, hr, rfl⟩ := HX.out.here
      have := (HFINE.out r hr).row.len
      obtain ⟨-, -, -, g1, g2, g3, -⟩ := area_parts (plan_area HE.out r hr z (by omega))
      exact ⟨g1, g2, g3⟩
    obtain ⟨code, abroad, trunk, aa, an, ac, areas⟩ := c0
    have c3 := HX.out.box.cells 3 (by omega)
    have c0 := HX.out.box.cells 0 (by omega)
    simp only [Ctry.cells, List.getElem?_cons_zero, List.getElem?_cons_succ] at c3 c0
    have Cl := HX.out.box.Cl
    have CS := HX.out.box.CS
    obtain ⟨h1an, han⟩ := HX.out.box.many
    have hSc := HX.out.box.stream.lt
    have hcode : code.length ≤ 100 := HX.out.box.code
    simp only at h1an han
    clear HR HNA HS HLEN HFINE HE
    go_upto_region 2 with (fail)
    go_cut [6] (fun s6 wx => ∃ (x : Area) (D : Nat), s6 = .pointer (some ⟨D, 0, none⟩) ∧ Hid (ABox S (k + 2) l w wx C D ⟨code, abroad, trunk, aa, an, ac, areas⟩ x))
    case first =>
        skip
        refine region_all S (k + 1) 1 10 9 [.val (fun v => .pointer (some ⟨C, 3, none⟩) = v), .val (fun v => .slice aa an ac = v), .val (fun v => .pointer (some ⟨S, 0, none⟩) = v), .val (fun v => .pointer (some ⟨C, 3, none⟩) = v), .val (fun v => .slice aa an ac = v), .val (fun v => .int .i64 an = v), .val (fun v => ∃ z : Nat, (z < an) ∧ .int .i64 (z : Nat) = v), .val (fun v => ∃ z : Nat, (z < an) ∧ ∃ ab : Nat, (True) ∧ ∃ ao : Nat, (aa = some ⟨ab, ao, none⟩) ∧ .pointer (some ⟨ab, ao + z * 3, none⟩) = v), .val (fun v => ∃ x : Area, (∃ z, z < an ∧ areas.getD z noArea = x) ∧ .agg #[.string ⟨x.pre.toArray⟩, .int .i64 x.low, .int .i64 x.high] = v), .mem (fun (w9 : World) (v : Value) => ∃ b, v = .pointer (some ⟨b, 0, none⟩) ∧ wc.heap.size ≤ b ∧ w9.heap[b]? = some (.cells #[.string ⟨#[]⟩, .int .i64 0, .int .i64 0] 72))] [6] [some 14, some 15, some 16, some 17, some 18, some 19, some 20, some 21, some 22, some 6] (by kernel_rfl) (by kernel_rfl) (by kernel_rfl) (by kernel_rfl) (by kernel_rfl) (by kernel_rfl) rfl (by kernel_rfl) rfl rfl (by kernel_rfl) HX.out.stream ⟨?_, ?_, ?_, ?_, ?_, ?_, ?_, ?_, ?_, ?_, trivial⟩ ?_
        · intro a w' c hk hst hc hfr hdp K hK
          as_aux_lemma =>
            have E5 : a.eval (.tmp 5) = .pointer (some ⟨C, 0, none⟩) := fr_list hfr 5 (by kernel_rfl)
            have d5 := slot_of E5
            refine gen_pure (v := .pointer (some ⟨C, 3, none⟩)) ?_ (hK _ _ rfl (Keeps.refl _ _) hst)
            clear hK hdp hfr
            go_simp
        · intro a w' c hk hst hc hfr hdp K hK
          as_aux_lemma =>
            have E14 : a.eval (.tmp 14) = .pointer (some ⟨C, 3, none⟩) := Eq.symm (hdp 0 14 _ (by kernel_rfl) (by kernel_rfl) rfl)
            have d14 := slot_of E14
            have cl : w'.cell? ⟨C, 3, none⟩ = some (.slice aa an ac) := (hk.cell (p := ⟨C, 3, none⟩) Cl CS).trans c3
            refine gen_pure (v := .slice aa an ac) ?_ (hK _ _ rfl (Keeps.refl _ _) hst)
            clear hK hdp hfr
            go_simp
        · intro a w' c hk hst hc hfr hdp K hK
          as_aux_lemma =>
            have E0 : a.eval (.tmp 0) = .pointer (some ⟨S, 0, none⟩) := fr_list hfr 0 (by kernel_rfl)
            have d0 := slot_of E0
            refine gen_pure (v := .pointer (some ⟨S, 0, none⟩)) ?_ (hK _ _ rfl (Keeps.refl _ _) hst)
            clear hK hdp hfr
            go_simp
        · intro a w' c hk hst hc hfr hdp K hK
          as_aux_lemma =>
            have E5 : a.eval (.tmp 5) = .pointer (some ⟨C, 0, none⟩) := fr_list hfr 5 (by kernel_rfl)
            have d5 := slot_of E5
            refine gen_pure (v := .pointer (some ⟨C, 3, none⟩)) ?_ (hK _ _ rfl (Keeps.refl _ _) hst)
            clear hK hdp hfr
            go_simp
        · intro a w' c hk hst hc hfr hdp K hK
          as_aux_lemma =>
            have E17 : a.eval (.tmp 17) = .pointer (some ⟨C, 3, none⟩) := Eq.symm (hdp 3 17 _ (by kernel_rfl) (by kernel_rfl) rfl)
            have d17 := slot_of E17
            have cl : w'.cell? ⟨C, 3, none⟩ = some (.slice aa an ac) := (hk.cell (p := ⟨C, 3, none⟩) Cl CS).trans c3
            refine gen_pure (v := .slice aa an ac) ?_ (hK _ _ rfl (Keeps.refl _ _) hst)
            clear hK hdp hfr
            go_simp
        · intro a w' c hk hst hc hfr hdp K hK
          as_aux_lemma =>
            have E18 : a.eval (.tmp 18) = .slice aa an ac := Eq.symm (hdp 4 18 _ (by kernel_rfl) (by kernel_rfl) rfl)
            have d18 := slot_of E18
            refine gen_pure (v := .int .i64 an) ?_ (hK _ _ rfl (Keeps.refl _ _) hst)
            clear hK hdp hfr
            go_simp
        · intro a w' c hk hst hc hfr hdp K hK
          as_aux_lemma =>
            have E16 : a.eval (.tmp 16) = .pointer (some ⟨S, 0, none⟩) := Eq.symm (hdp 2 16 _ (by kernel_rfl) (by kernel_rfl) rfl)
            have d16 := slot_of E16
            have E19 : a.eval (.tmp 19) = .int .i64 an := Eq.symm (hdp 5 19 _ (by kernel_rfl) (by kernel_rfl) rfl)
            have d19 := slot_of E19
            have hc2 : c + 1 ≤ 1 := hc
            refine gen_call 40 #[.pointer (some ⟨S, 0, none⟩), .int .i64 an] ?_ (next_any S _ an w' hst (by omega) (by omega) (by omega)) ?_
            · clear hK hdp hfr; go_simp
            rintro e w'' ⟨r, rfl, r0, r1, hst2, hkp⟩
            obtain ⟨r, rfl⟩ := Int.eq_ofNat_of_zero_le r0
            exact ⟨_, rfl, hK _ _ ⟨r, by omega, rfl⟩ hkp (hst2.mono (by simp; omega))⟩
        · intro a w' c hk hst hc hfr hdp K hK
          as_aux_lemma =>
            have E15 : a.eval (.tmp 15) = .slice aa an ac := Eq.symm (hdp 1 15 _ (by kernel_rfl) (by kernel_rfl) rfl)
            have d15 := slot_of E15
            obtain ⟨z, hz, e20⟩ := hdp 6 20 _ (by kernel_rfl) (by kernel_rfl) rfl
            have E20 := Eq.symm e20
            have d20 := slot_of E20
            clear e20
            obtain ⟨ab, ao, rfl, hal, hac⟩ := area_at (HX.out.rowAt (Keeps.trans (by exact Keeps.of_below (ext_drew (Below.refl _ _))) hk)) h1an
            refine gen_pure (v := .pointer (some ⟨ab, ao + z * 3, none⟩)) ?_ (hK _ _ ⟨z, hz, ab, trivial, ao, rfl, rfl⟩ (Keeps.refl _ _) hst)
            clear hK hdp hfr hac
            go_simp
        · intro a w' c hk hst hc hfr hdp K hK
          as_aux_lemma =>
            obtain ⟨z, hz, ab, hab, ao, hao, e21⟩ := hdp 7 21 _ (by kernel_rfl) (by kernel_rfl) rfl
            have E21 := Eq.symm e21
            have d21 := slot_of E21
            clear e21
            subst hao
            obtain ⟨ab9, ao9, ha9, hal, hac⟩ := area_at (HX.out.rowAt (Keeps.trans (by exact Keeps.of_below (ext_drew (Below.refl _ _))) hk)) h1an
            injection ha9 with ha9
            injection ha9 with ha1 ha2
            subst ha1 ha2
            have q0 := hac z hz 0 (by omega)
            have q1 := hac z hz 1 (by omega)
            have q2 := hac z hz 2 (by omega)
            have hxz : ∃ z, z < an ∧ areas.getD z noArea = areas.getD z noArea := ⟨z, hz, rfl⟩
            have hxw : ∃ z9, z9 < an ∧ areas.getD z9 noArea = areas.getD z noArea := ⟨z, hz, rfl⟩
            clear hxz
            generalize areas.getD z noArea = x at q0 q1 q2 hxw
            obtain ⟨xp, xl, xh⟩ := x
            simp only [Area.cells, List.getElem?_cons_zero, List.getElem?_cons_succ, Nat.add_zero] at q0 q1 q2
            refine gen_pure (v := .agg #[.string ⟨xp.toArray⟩, .int .i64 xl, .int .i64 xh]) ?_ (hK _ _ ⟨⟨xp, xl, xh⟩, hxw, rfl⟩ (Keeps.refl _ _) hst)
            clear hK hdp hfr hac hxw
            go_simp
        · intro a w' c hk hst hc hfr hdp K hK
          as_aux_lemma =>
            refine gen_box (p := (fun (w9 : World) (v : Value) => ∃ b, v = .pointer (some ⟨b, 0, none⟩) ∧ wc.heap.size ≤ b ∧ w9.heap[b]? = some (.cells #[.string ⟨#[]⟩, .int .i64 0, .int .i64 0] 72))) #[.string ⟨#[]⟩, .int .i64 0, .int .i64 0] 72 ?_ (fun w9 hk9 => ⟨w'.heap.size, rfl, (by have := hk.size; simp at this ⊢; omega), (hk9.block w'.heap.size (by simp) (Nat.ne_of_gt hst.lt)).trans (heap_alloc_new _ _)⟩) hst hK
            clear hK hdp hfr
            go_simp
        intro w8 hk8 hst8
        rintro _ - _ - _ - _ - _ - _ - _ - _ - _ ⟨x, hx, rfl⟩ x6 p6
        simp only [ForVals, Act.put, List.setIfInBounds_toArray, List.set_cons_zero, List.set_cons_succ, List.drop_succ_cons, List.drop_zero]
        obtain ⟨D, rfl, hD, hb8⟩ := p6 w8 (Keeps.refl _ _)
        have kd : Keeps S wc w8 := Keeps.trans (by exact Keeps.of_below (ext_drew (Below.refl _ _))) hk8
        have hfx : AreaFine x := by
          obtain ⟨z, hz, rfl⟩ := hx
          exact HX.out.box.fineAt z hz
        have HEND : Hid (ABox S (k + 2) l w _ C D ⟨code, abroad, trunk, aa, an, ac, areas⟩ x) := ⟨area_box_made HX.out.box kd (hst8.mono (by simp)) hD hb8 hfx hSc, HX.out.here, hx⟩
        have q0 := (block_cell hb8 0).trans (show _ = some (.string ⟨#[]⟩) from rfl)
        have q1 := (block_cell hb8 1).trans (show _ = some (.int .i64 0) from rfl)
        have q2 := (block_cell hb8 2).trans (show _ = some (.int .i64 0) from rfl)
        have r0 := block_fro hb8 0
        have r1 := block_fro hb8 1
        have r2 := block_fro hb8 2
        have Dl : D < w8.heap.size := (Array.getElem?_eq_some_iff.1 hb8).1
        clear hk8 hst8 kd p6 hb8 HX c3 c0 hx hfx
        go_wp2_with fail
        go_meet
        exact ⟨x, D, rfl, HEND.out⟩
    case rest =>
        obtain ⟨⟨xp, xl, xh⟩, D, rfl, HY⟩ := hcut
        obtain ⟨wy, rfl⟩ : ∃ wy : World, wy = wc := ⟨_, rfl⟩
        have c0 := HY.out.box.box.cells 0 (by omega)
        have d0 := HY.out.box.cells 0 (by omega)
        have d1 := HY.out.box.cells 1 (by omega)
        have d2 := HY.out.box.cells 2 (by omega)
        simp only [Ctry.cells, Area.cells, List.getElem?_cons_zero, List.getElem?_cons_succ] at c0 d0 d1 d2
        have Cl := HY.out.box.box.Cl
        have CS := HY.out.box.box.CS
        have Dl := HY.out.box.Dl
        have DS := HY.out.box.DS
        obtain ⟨g1, g2, g3⟩ : (xp.length : Int) < xl ∧ xl ≤ xh ∧ xh ≤ 15 - (code.length : Int) := by
          obtain ⟨z, hz, hzx⟩ := HY.out.area
          have := HAR.out z hz
          simp only at this hzx
          rw [hzx] at this
          exact this
        have hcode : code.length ≤ 15 := by omega
        clear HX c3 HAR
        as_aux_lemma =>
          go_upto_region 3 with (fail)
          refine region_all S (k + 2) 1000 19 6 [.val (fun v => .pointer (some ⟨C, 0, none⟩) = v), .val (fun v => .string ⟨code.toArray⟩ = v), .val (fun v => .string ⟨(([43] : List UInt8) ++ code).toArray⟩ = v), .val (fun v => .pointer (some ⟨D, 0, none⟩) = v), .val (fun v => .string ⟨xp.toArray⟩ = v), .val (fun v => .string ⟨((([43] : List UInt8) ++ code) ++ xp).toArray⟩ = v), .val (fun v => .pointer (some ⟨S, 0, none⟩) = v), .val (fun v => .pointer (some ⟨S, 0, none⟩) = v), .val (fun v => .pointer (some ⟨D, 1, none⟩) = v), .val (fun v => .int .i64 xl = v), .val (fun v => .pointer (some ⟨D, 2, none⟩) = v), .val (fun v => .int .i64 xh = v), .val (fun v => ∃ zr : Int, (xl ≤ zr ∧ zr ≤ xh) ∧ .int .i64 zr = v), .val (fun v => .pointer (some ⟨D, 0, none⟩) = v), .val (fun v => .string ⟨xp.toArray⟩ = v), .val (fun v => .int .i64 (xp.length : Nat) = v), .val (fun v => ∃ zn : Nat, (xl ≤ (xp.length : Int) + zn ∧ (xp.length : Int) + zn ≤ xh) ∧ .int .i64 (zn : Nat) = v), .val (fun v => ∃ sd : List UInt8, ((xl ≤ (xp.length : Int) + sd.length ∧ (xp.length : Int) + sd.length ≤ xh) ∧ digs sd = true) ∧ .string ⟨sd.toArray⟩ = v), .val (fun v => ∃ sd : List UInt8, ((xl ≤ (xp.length : Int) + sd.length ∧ (xp.length : Int) + sd.length ≤ xh) ∧ digs sd = true) ∧ .string ⟨(((([43] : List UInt8) ++ code) ++ xp) ++ sd).toArray⟩ = v)] [12, 17] [some 23, some 24, some 25, some 26, some 27, some 28, some 29, some 30, some 31, some 32, some 33, some 34, some 35, some 36, some 37, some 38, some 39, some 40, some 41] (by kernel_rfl) (by kernel_rfl) (by kernel_rfl) (by kernel_rfl) (by kernel_rfl) (by kernel_rfl) rfl (by kernel_rfl) rfl rfl (by kernel_rfl) HY.out.stream ⟨?_, ?_, ?_, ?_, ?_, ?_, ?_, ?_, ?_, ?_, ?_, ?_, ?_, ?_, ?_, ?_, ?_, ?_, ?_, trivial⟩ ?_
          · intro a w' c hk hst hc hfr hdp K hK
            as_aux_lemma =>
              have E5 : a.eval (.tmp 5) = .pointer (some ⟨C, 0, none⟩) := fr_list hfr 5 (by kernel_rfl)
              have d5 := slot_of E5
              refine gen_pure (v := .pointer (some ⟨C, 0, none⟩)) ?_ (hK _ _ rfl (Keeps.refl _ _) hst)
              clear hK hdp hfr
              go_simp
          · intro a w' c hk hst hc hfr hdp K hK
            as_aux_lemma =>
              have E23 : a.eval (.tmp 23) = .pointer (some ⟨C, 0, none⟩) := Eq.symm (hdp 0 23 _ (by kernel_rfl) (by kernel_rfl) rfl)
              have d23 := slot_of E23
              have cl : w'.cell? ⟨C, 0, none⟩ = some (.string ⟨code.toArray⟩) := (hk.cell (p := ⟨C, 0, none⟩) Cl CS).trans c0
              refine gen_pure (v := .string ⟨code.toArray⟩) ?_ (hK _ _ rfl (Keeps.refl _ _) hst)
              clear hK hdp hfr
              go_simp
          · intro a w' c hk hst hc hfr hdp K hK
            as_aux_lemma =>
              have E24 : a.eval (.tmp 24) = .string ⟨code.toArray⟩ := Eq.symm (hdp 1 24 _ (by kernel_rfl) (by kernel_rfl) rfl)
              have d24 := slot_of E24
              refine gen_pure (v := .string ⟨(([43] : List UInt8) ++ code).toArray⟩) ?_ (hK _ _ rfl (Keeps.refl _ _) hst)
              clear hK hdp hfr
              rw [← cat_str]
              go_simp <;> omega
          · intro a w' c hk hst hc hfr hdp K hK
            as_aux_lemma =>
              have E6 : a.eval (.tmp 6) = .pointer (some ⟨D, 0, none⟩) := fr_list hfr 6 (by kernel_rfl)
              have d6 := slot_of E6
              refine gen_pure (v := .pointer (some ⟨D, 0, none⟩)) ?_ (hK _ _ rfl (Keeps.refl _ _) hst)
              clear hK hdp hfr
              go_simp
          · intro a w' c hk hst hc hfr hdp K hK
            as_aux_lemma =>
              have E26 : a.eval (.tmp 26) = .pointer (some ⟨D, 0, none⟩) := Eq.symm (hdp 3 26 _ (by kernel_rfl) (by kernel_rfl) rfl)
              have d26 := slot_of E26
              have cl : w'.cell? ⟨D, 0, none⟩ = some (.string ⟨xp.toArray⟩) := (hk.cell (p := ⟨D, 0, none⟩) Dl DS).trans d0
              refine gen_pure (v := .string ⟨xp.toArray⟩) ?_ (hK _ _ rfl (Keeps.refl _ _) hst)
              clear hK hdp hfr
              go_simp
          · intro a w' c hk hst hc hfr hdp K hK
            as_aux_lemma =>
              have E25 : a.eval (.tmp 25) = .string ⟨(([43] : List UInt8) ++ code).toArray⟩ := Eq.symm (hdp 2 25 _ (by kernel_rfl) (by kernel_rfl) rfl)
              have d25 := slot_of E25
              have E27 : a.eval (.tmp 27) = .string ⟨xp.toArray⟩ := Eq.symm (hdp 4 27 _ (by kernel_rfl) (by kernel_rfl) rfl)
              have d27 := slot_of E27
              refine gen_pure (v := .string ⟨((([43] : List UInt8) ++ code) ++ xp).toArray⟩) ?_ (hK _ _ rfl (Keeps.refl _ _) hst)
              clear hK hdp hfr
              rw [← cat_str]
              go_simp <;> omega
          · intro a w' c hk hst hc hfr hdp K hK
            as_aux_lemma =>
              have E0 : a.eval (.tmp 0) = .pointer (some ⟨S, 0, none⟩) := fr_list hfr 0 (by kernel_rfl)
              have d0 := slot_of E0
              refine gen_pure (v := .pointer (some ⟨S, 0, none⟩)) ?_ (hK _ _ rfl (Keeps.refl _ _) hst)
              clear hK hdp hfr
              go_simp
          · intro a w' c hk hst hc hfr hdp K hK
            as_aux_lemma =>
              have E0 : a.eval (.tmp 0) = .pointer (some ⟨S, 0, none⟩) := fr_list hfr 0 (by kernel_rfl)
              have d0 := slot_of E0
              refine gen_pure (v := .pointer (some ⟨S, 0, none⟩)) ?_ (hK _ _ rfl (Keeps.refl _ _) hst)
              clear hK hdp hfr
              go_simp
          · intro a w' c hk hst hc hfr hdp K hK
            as_aux_lemma =>
              have E6 : a.eval (.tmp 6) = .pointer (some ⟨D, 0, none⟩) := fr_list hfr 6 (by kernel_rfl)
              have d6 := slot_of E6
              refine gen_pure (v := .pointer (some ⟨D, 1, none⟩)) ?_ (hK _ _ rfl (Keeps.refl _ _) hst)
              clear hK hdp hfr
              go_simp
          · intro a w' c hk hst hc hfr hdp K hK
            as_aux_lemma =>
              have E31 : a.eval (.tmp 31) = .pointer (some ⟨D, 1, none⟩) := Eq.symm (hdp 8 31 _ (by kernel_rfl) (by kernel_rfl) rfl)
              have d31 := slot_of E31
              have cl : w'.cell? ⟨D, 1, none⟩ = some (.int .i64 xl) := (hk.cell (p := ⟨D, 1, none⟩) Dl DS).trans d1
              refine gen_pure (v := .int .i64 xl) ?_ (hK _ _ rfl (Keeps.refl _ _) hst)
              clear hK hdp hfr
              go_simp
          · intro a w' c hk hst hc hfr hdp K hK
            as_aux_lemma =>
              have E6 : a.eval (.tmp 6) = .pointer (some ⟨D, 0, none⟩) := fr_list hfr 6 (by kernel_rfl)
              have d6 := slot_of E6
              refine gen_pure (v := .pointer (some ⟨D, 2, none⟩)) ?_ (hK _ _ rfl (Keeps.refl _ _) hst)
              clear hK hdp hfr
              go_simp
          · intro a w' c hk hst hc hfr hdp K hK
            as_aux_lemma =>
              have E33 : a.eval (.tmp 33) = .pointer (some ⟨D, 2, none⟩) := Eq.symm (hdp 10 33 _ (by kernel_rfl) (by kernel_rfl) rfl)
              have d33 := slot_of E33
              have cl : w'.cell? ⟨D, 2, none⟩ = some (.int .i64 xh) := (hk.cell (p := ⟨D, 2, none⟩) Dl DS).trans d2
              refine gen_pure (v := .int .i64 xh) ?_ (hK _ _ rfl (Keeps.refl _ _) hst)
              clear hK hdp hfr
              go_simp
          · intro a w' c hk hst hc hfr hdp K hK
            as_aux_lemma =>
              have E30 : a.eval (.tmp 30) = .pointer (some ⟨S, 0, none⟩) := Eq.symm (hdp 7 30 _ (by kernel_rfl) (by kernel_rfl) rfl)
              have d30 := slot_of E30
              have E32 : a.eval (.tmp 32) = .int .i64 xl := Eq.symm (hdp 9 32 _ (by kernel_rfl) (by kernel_rfl) rfl)
              have d32 := slot_of E32
              have E34 : a.eval (.tmp 34) = .int .i64 xh := Eq.symm (hdp 11 34 _ (by kernel_rfl) (by kernel_rfl) rfl)
              have d34 := slot_of E34
              have hc2 : c + 1 ≤ 2 := hc
              refine gen_call 45 #[.pointer (some ⟨S, 0, none⟩), .int .i64 xl, .int .i64 xh] ?_ (range_any S _ xl xh w' hst (by omega) (by omega) (by omega) (by omega)) ?_
              · clear hK hdp hfr; go_simp
              rintro e w'' ⟨r, rfl, r0, r1, hst2, hkp⟩
              exact ⟨_, rfl, hK _ _ ⟨r, ⟨r0, r1⟩, rfl⟩ hkp (hst2.mono (by simp; omega))⟩
          · intro a w' c hk hst hc hfr hdp K hK
            as_aux_lemma =>
              have E6 : a.eval (.tmp 6) = .pointer (some ⟨D, 0, none⟩) := fr_list hfr 6 (by kernel_rfl)
              have d6 := slot_of E6
              refine gen_pure (v := .pointer (some ⟨D, 0, none⟩)) ?_ (hK _ _ rfl (Keeps.refl _ _) hst)
              clear hK hdp hfr
              go_simp
          · intro a w' c hk hst hc hfr hdp K hK
            as_aux_lemma =>
              have E36 : a.eval (.tmp 36) = .pointer (some ⟨D, 0, none⟩) := Eq.symm (hdp 13 36 _ (by kernel_rfl) (by kernel_rfl) rfl)
              have d36 := slot_of E36
              have cl : w'.cell? ⟨D, 0, none⟩ = some (.string ⟨xp.toArray⟩) := (hk.cell (p := ⟨D, 0, none⟩) Dl DS).trans d0
              refine gen_pure (v := .string ⟨xp.toArray⟩) ?_ (hK _ _ rfl (Keeps.refl _ _) hst)
              clear hK hdp hfr
              go_simp
          · intro a w' c hk hst hc hfr hdp K hK
            as_aux_lemma =>
              have E37 : a.eval (.tmp 37) = .string ⟨xp.toArray⟩ := Eq.symm (hdp 14 37 _ (by kernel_rfl) (by kernel_rfl) rfl)
              have d37 := slot_of E37
              refine gen_pure (v := .int .i64 (xp.length : Nat)) ?_ (hK _ _ rfl (Keeps.refl _ _) hst)
              clear hK hdp hfr
              go_simp
          · intro a w' c hk hst hc hfr hdp K hK
            as_aux_lemma =>
              obtain ⟨zr, hzr, e35⟩ := hdp 12 35 _ (by kernel_rfl) (by kernel_rfl) rfl
              have E35 := Eq.symm e35
              have d35 := slot_of E35
              clear e35
              have E38 : a.eval (.tmp 38) = .int .i64 (xp.length : Nat) := Eq.symm (hdp 15 38 _ (by kernel_rfl) (by kernel_rfl) rfl)
              have d38 := slot_of E38
              have hrng : 0 ≤ (zr - (xp.length : Nat)) ∧ (zr - (xp.length : Nat)) ≤ 15 := by omega
              refine gen_pure (v := .int .i64 (((zr - (xp.length : Nat)).toNat : Nat) : Int)) ?_ (hK _ _ ⟨(zr - (xp.length : Nat)).toNat, by omega, rfl⟩ (Keeps.refl _ _) hst)
              clear hK hdp hfr
              rw [Int.toNat_of_nonneg hrng.1]
              have hwr : IntKind.i64.wrap (zr - (xp.length : Nat)) = (zr - (xp.length : Nat)) := IntWalk.i64_in _ (by omega)
              clear hrng
              go_simp
          · intro a w' c hk hst hc hfr hdp K hK
            as_aux_lemma =>
              have E29 : a.eval (.tmp 29) = .pointer (some ⟨S, 0, none⟩) := Eq.symm (hdp 6 29 _ (by kernel_rfl) (by kernel_rfl) rfl)
              have d29 := slot_of E29
              obtain ⟨zn, hzn, e39⟩ := hdp 16 39 _ (by kernel_rfl) (by kernel_rfl) rfl
              have E39 := Eq.symm e39
              have d39 := slot_of E39
              clear e39
              have hc2 : c + 1 ≤ 2 := hc
              refine gen_call 62 #[.pointer (some ⟨S, 0, none⟩), .int .i64 zn] ?_ (digitRow_all S _ zn w' hst (by omega) (by omega)) ?_
              · clear hK hdp hfr; go_simp
              rintro e w'' ⟨r, rfl, ⟨hr, hr2⟩, hst2, hkp⟩
              exact ⟨_, rfl, hK _ _ ⟨r, ⟨⟨by rw [hr]; omega, by rw [hr]; omega⟩, hr2⟩, rfl⟩ hkp (hst2.mono (by simp; omega))⟩
          · intro a w' c hk hst hc hfr hdp K hK
            as_aux_lemma =>
              have E28 : a.eval (.tmp 28) = .string ⟨((([43] : List UInt8) ++ code) ++ xp).toArray⟩ := Eq.symm (hdp 5 28 _ (by kernel_rfl) (by kernel_rfl) rfl)
              have d28 := slot_of E28
              obtain ⟨sd, hsd, e40⟩ := hdp 17 40 _ (by kernel_rfl) (by kernel_rfl) rfl
              have E40 := Eq.symm e40
              have d40 := slot_of E40
              clear e40
              refine gen_pure (v := .string ⟨(((([43] : List UInt8) ++ code) ++ xp) ++ sd).toArray⟩) ?_ (hK _ _ ⟨sd, hsd, rfl⟩ (Keeps.refl _ _) hst)
              clear hK hdp hfr
              rw [← cat_str]
              go_simp <;> omega
          intro w8 hk8 hst8
          rintro _ - _ - _ - _ - _ - _ - _ - _ - _ - _ - _ - _ - _ - _ - _ - _ - _ - _ - _ ⟨sd, hsd, rfl⟩
          simp only [ForVals, Act.put, List.setIfInBounds_toArray, List.set_cons_zero, List.set_cons_succ, List.drop_succ_cons, List.drop_zero]
          have HK8 := Lib.hid (HY.out.box.box.keeps.trans (Keeps.trans (by exact Keeps.of_below (ext_drew (Below.refl _ _))) hk8))
          have HS8 := Lib.hid hst8
          have HRN : Hid (RightN l ((([43] ++ code) ++ xp) ++ sd)) := by
            obtain ⟨r, hr, hrc⟩ := HY.out.here
            obtain ⟨z, hz, hzx⟩ := HY.out.area
            simp only at hz hzx
            exact ⟨r, _, z, sd, hr, hrc, hz, by simp only [hzx], by simp only [hzx]; exact hsd.1, hsd.2⟩
          have hL : ((([43] ++ code) ++ xp) ++ sd).length ≤ 300 := by have := hsd.1; simp; omega
          generalize (([43] ++ code) ++ xp) ++ sd = fin at *
          have HL := Lib.hid hL
          clear hk8 hst8 HY c0 d0 d1 d2 hsd hL
          go_wp2_with fail
          go_ret
          exact ⟨_, rfl, ⟨HRN.out, HL.out⟩, HS8.out.mono (by simp <;> omega), HK8.out⟩
end Go.Proofs.YthajppcmmmkfcaaGreatDoor

set_option linter.unusedVariables false
set_option linter.unusedSimpArgs false
namespace Go.Proofs.YthajppcmmmkfcaaGreatDoor
open Go.RowKit

def keyTab : List UInt8 := [50, 50, 50, 51, 51, 51, 52, 52, 52, 53, 53, 53, 54, 54, 54, 55, 55, 55, 55, 56, 56, 56, 57, 57, 57, 57]
/-- The digit of a letter or digit; 0: there is none. -/
def keyN (c : Nat) : Nat := if 48 ≤ c ∧ c ≤ 57 then c else if 65 ≤ c ∧ c ≤ 90 then (keyTab.getD (c - 65) 0).toNat else if 97 ≤ c ∧ c ≤ 122 then (keyTab.getD (c - 97) 0).toNat else 0
def keyB (c : UInt8) : UInt8 := UInt8.ofNat (keyN c.toNat)
def keysB (s : List UInt8) : Option (List UInt8) := if s.any (fun c => keyB c == 0) then none else some (s.map keyB)
def sepB (c : UInt8) : Bool := [32, 45, 46, 47, 40, 41].contains c
def readB : List UInt8 → List UInt8 → Option (List UInt8)
  | [], o => some o
  | c :: s, o => if sepB c then readB s o else if keyB c ≠ 0 then readB s (o ++ [keyB c]) else if c = 43 ∧ o = [] then readB s (o ++ [c]) else none
def groupsB (s : List UInt8) : List UInt8 := if h : 4 < s.length then s.take 3 ++ 45 :: groupsB (s.drop 3) else s
termination_by s.length
decreasing_by simp; omega
theorem groups_more {s : List UInt8} (h : 4 < s.length) : groupsB s = s.take 3 ++ 45 :: groupsB (s.drop 3) := by rw [groupsB, dif_pos h]
theorem groups_end {s : List UInt8} (h : ¬ 4 < s.length) : groupsB s = s := by rw [groupsB, dif_neg h]
theorem groups_len : ∀ (n : Nat) (s : List UInt8), s.length ≤ n → (groupsB s).length ≤ 2 * s.length := by
  intro n
  induction n with
  | zero => intro s h; rw [groups_end (by omega)]; omega
  | succ n ih =>
    intro s h
    by_cases hl : 4 < s.length
    · have := ih (s.drop 3) (by simp; omega)
      rw [groups_more hl]
      simp at this ⊢
      omega
    · rw [groups_end hl]; omega

theorem keyN_lt (c : Nat) (h : c < 256) : keyN c < 256 := by
  unfold keyN
  split
  · exact h
  · split
    · exact UInt8.toNat_lt _
    · split
      · exact UInt8.toNat_lt _
      · omega
theorem keyB_nat (c : UInt8) : (keyB c).toNat = keyN c.toNat := by
  unfold keyB
  rw [UInt8.toNat_ofNat']
  exact Nat.mod_eq_of_lt (keyN_lt _ (UInt8.toNat_lt c))
theorem all_bytes {p : UInt8 → Bool} (h : ((List.range 256).all fun i => p (UInt8.ofNat i)) = true) (c : UInt8) : p c = true := by
  have := List.all_eq_true.1 h c.toNat (List.mem_range.2 (UInt8.toNat_lt c))
  simpa using this
theorem sep_key (c : UInt8) (h : sepB c = true) : keyB c = 0 ∧ c ≠ 43 := by
  have := all_bytes (p := fun c => !(sepB c) || (keyB c == 0 && c != 43)) (by decide +kernel) c
  simp [h] at this
  exact this

/-! ### Homes -/
def homeC (l : List Ctry) (code area : List UInt8) : Option Ctry := l.find? fun c => c.code == code && (area == [] || c.areas.any fun a => a.pre == area)
def homeR (l : List Ctry) (code area : List UInt8) : Option Ctry := (l.find? fun c => c.code == code).bind fun c => if (area == [] || c.areas.any fun a => a.pre == area) = true then some c else none
theorem codes_apart {l : List Ctry} (h : planErr l = 0) {i j : Nat} (hi : i < l.length) (hj : j < l.length) (hn : i ≠ j) : (l.getD i noCtry).code ≠ (l.getD j noCtry).code := by
  intro e
  rcases Nat.lt_or_gt_of_ne hn with hlt | hlt
  · have := plan_order h i j hlt hj
    rw [e, less_irrefl] at this
    cases this
  · have := plan_order h j i hlt hi
    rw [e, less_irrefl] at this
    cases this
theorem find_apart {α : Type} (l : List α) (p q : α → Bool) (h : l.Pairwise fun c d => p c = true → p d = false) : (l.find? fun c => p c && q c) = (l.find? p).bind fun c => if q c = true then some c else none := by
  induction l with
  | nil => rfl
  | cons x xs ih =>
    have h0 := List.pairwise_cons.1 h
    have h1 := h0.1
    have h2 := ih h0.2
    rw [List.find?_cons, List.find?_cons]
    cases hp : p x with
    | false => simpa [hp] using h2
    | true =>
      cases hq : q x with
      | true => simp [hp, hq]
      | false =>
        simp only [hp, hq, Bool.true_and, Option.bind_some, Bool.false_eq_true, if_false]
        rw [List.find?_eq_none]
        intro y hy
        simp [h1 y hy hp]
theorem home_same {l : List Ctry} (code area : List UInt8) (h : planErr l = 0) : homeC l code area = homeR l code area := by
  unfold homeC homeR
  refine find_apart l (fun c => c.code == code) (fun c => area == [] || c.areas.any fun a => a.pre == area) ?_
  rw [List.pairwise_iff_getElem]
  intro i j hi hj hij hc
  have := codes_apart h hi hj (by omega)
  simp only [List.getD_eq_getElem?_getD, List.getElem?_eq_getElem hi, List.getElem?_eq_getElem hj, Option.getD_some] at this
  simp only [beq_iff_eq] at hc
  have h3 : ¬ (l[j].code = code) := fun e => this (hc.trans e.symm)
  simpa using h3

/-! ### What is reached -/
def reachN (c : Ctry) (area d : List UInt8) : Option (List UInt8) :=
  if Lib.hasPrefix d c.abroad = true then some (43 :: d.drop c.abroad.length)
  else if Lib.hasPrefix d c.trunk = true then some (43 :: (c.code ++ d.drop c.trunk.length))
  else if area ≠ [] then some (43 :: (c.code ++ area ++ d)) else none
/-- The number that is reached, or an error. -/
def reachP (l : List Ctry) (c : Ctry) (area d : List UInt8) : Int × List UInt8 :=
  if digitsB d 1 30 = false then (3, []) else match reachN c area d with
    | none => (8, [])
    | some n => if (splitP l n).err ≠ 0 then ((splitP l n).err, []) else (0, n)

def formPre (c : Ctry) (x : Spl) : List UInt8 := if x.code = c.code then 40 :: (c.trunk ++ x.area ++ [41, 32]) else 43 :: (x.code ++ 32 :: (x.area ++ [32]))
def formP (c : Ctry) (x : Spl) : List UInt8 := formPre c x ++ groupsB x.rest
/-- What is read out of a form. -/
def readP (l : List Ctry) (c : Ctry) (area s : List UInt8) : Int × List UInt8 :=
  if 60 < s.length then (2, []) else match readB s [] with
    | none => (9, [])
    | some [] => (9, [])
    | some (x :: n) => if x = 43 then (if (splitP l (x :: n)).err ≠ 0 then ((splitP l (x :: n)).err, []) else (0, x :: n)) else if 30 < (x :: n).length then (2, []) else reachP l c area (x :: n)
end Go.Proofs.YthajppcmmmkfcaaGreatDoor

set_option linter.unusedVariables false
set_option linter.unusedSimpArgs false
namespace Go.Proofs.YthajppcmmmkfcaaGreatDoor
open Go.RowKit

theorem drop_nil (p : UInt8 → Bool) : ∀ l : List UInt8, l.dropWhile p = [] ↔ ∀ x ∈ l, p x = true
  | [] => by simp
  | a :: l => by
    rw [List.dropWhile_cons]
    cases h : p a with
    | false => simp [h]
    | true => simp [h, drop_nil p l]
theorem take_all (p : UInt8 → Bool) : ∀ (l : List UInt8) (x : UInt8), x ∈ l.takeWhile p → p x = true
  | [], x, h => by simp at h
  | a :: l, x, h => by
    rw [List.takeWhile_cons] at h
    cases hp : p a with
    | false => simp [hp] at h
    | true =>
      simp only [hp, if_true, List.mem_cons] at h
      rcases h with rfl | h
      · exact hp
      · exact take_all p l x h
theorem allIn_all (l cs : List UInt8) : allIn l cs = l.all (cs.contains ·) := by
  unfold allIn Lib.trimS Lib.trimRightS Lib.trimLeftS
  rw [Bool.eq_iff_iff, List.isEmpty_iff, drop_nil, List.all_eq_true]
  constructor
  · intro h x hx
    have hx2 : x ∈ l.reverse := by simpa using hx
    rw [← List.takeWhile_append_dropWhile (p := (cs.contains ·)) (l := l.reverse), List.mem_append] at hx2
    rcases hx2 with h1 | h1
    · exact take_all _ _ _ h1
    · exact h x (by simpa using h1)
  · intro h x hx
    exact h x (by simpa using (List.dropWhile_sublist (cs.contains ·)).mem (List.mem_reverse.1 hx))
theorem allIn_app (a b cs : List UInt8) : allIn (a ++ b) cs = (allIn a cs && allIn b cs) := by simp [allIn_all, List.all_append]
theorem digs_in (l : List UInt8) : allIn l digitSet = digs l := by
  rw [allIn_all]
  unfold digs
  congr 1
  funext c
  have := all_bytes (p := fun c => (digitSet.contains c) == (decide (48 ≤ c.toNat) && decide (c.toNat ≤ 57))) (by decide +kernel) c
  simpa using this
theorem digitsB_iff (l : List UInt8) (lo hi : Int) : digitsB l lo hi = true ↔ lo ≤ l.length ∧ (l.length : Int) ≤ hi ∧ digs l = true := by
  unfold digitsB
  rw [digs_in]
  simp only [Bool.and_eq_true, decide_eq_true_eq]

theorem ctry_form {l : List Ctry} {i : Nat} (h : ctryErr l i = 0) : digitsB (l.getD i noCtry).code 1 3 = true ∧ ((l.getD i noCtry).code.headD 0 == 48) = false ∧ digitsB (l.getD i noCtry).abroad 1 4 = true ∧ digitsB (l.getD i noCtry).trunk 0 2 = true ∧ Lib.hasPrefix (l.getD i noCtry).trunk (l.getD i noCtry).abroad = false := by
  unfold ctryErr ctryErrOf at h
  generalize l.getD i noCtry = c at h ⊢
  generalize l.getD (i - 1) noCtry = p at h ⊢
  split at h
  · cases h
  rename_i h1
  split at h
  · cases h
  rename_i h2
  split at h
  · cases h
  split at h
  · cases h
  split at h
  · cases h
  rename_i h5
  split at h
  · cases h
  rename_i h6
  split at h
  · cases h
  rename_i h7
  exact ⟨by simpa using h1, by simpa using h2, by simpa using h5, by simpa using h6, by simpa using h7⟩

/-! ### Prefixes -/
theorem pre_iff (a p : List UInt8) : Lib.hasPrefix a p = true ↔ p <+: a := by unfold Lib.hasPrefix; exact List.isPrefixOf_iff_prefix
theorem pre_append (p t : List UInt8) : Lib.hasPrefix (p ++ t) p = true := (pre_iff _ _).2 (List.prefix_append _ _)
theorem pre_or {a t p : List UInt8} (h : Lib.hasPrefix (a ++ t) p = true) : Lib.hasPrefix a p = true ∨ Lib.hasPrefix p a = true := by
  rcases List.prefix_or_prefix_of_prefix ((pre_iff _ _).1 h) (List.prefix_append a t) with h1 | h1
  · exact Or.inl ((pre_iff _ _).2 h1)
  · exact Or.inr ((pre_iff _ _).2 h1)
theorem less_between : ∀ {p x s : List UInt8}, Op.bytesLess p x = true → Op.bytesLess x (p ++ s) = true → Lib.hasPrefix x p = true
  | [], x, s, _, _ => by cases x <;> rfl
  | a :: p, [], s, h, _ => by rw [less_nil] at h; cases h
  | a :: p, b :: x, s, h, k => by
    rw [List.cons_append] at k
    rw [less_cons] at h k
    simp only [Bool.or_eq_true, decide_eq_true_eq, Bool.and_eq_true, beq_iff_eq] at h k
    have hab : a = b := by
      rcases h with h | ⟨rfl, _⟩
      · rcases k with k | ⟨rfl, _⟩
        · exact absurd (UInt8.lt_trans h k) (UInt8.lt_irrefl _)
        · exact absurd h (UInt8.lt_irrefl _)
      · rfl
    subst hab
    have h2 : Op.bytesLess p x = true := by
      rcases h with h | h
      · exact absurd h (UInt8.lt_irrefl _)
      · exact h.2
    have k2 : Op.bytesLess x (p ++ s) = true := by
      rcases k with k | k
      · exact absurd k (UInt8.lt_irrefl _)
      · exact k.2
    have := less_between h2 k2
    rw [pre_iff] at this ⊢
    exact List.cons_prefix_cons.2 ⟨rfl, this⟩
theorem area_next {c : Ctry} {z : Nat} (h : areaErr c (z + 1) = 0) : Op.bytesLess (c.areas.getD z noArea).pre (c.areas.getD (z + 1) noArea).pre = true ∧ Lib.hasPrefix (c.areas.getD (z + 1) noArea).pre (c.areas.getD z noArea).pre = false := by
  unfold areaErr areaErrOf prevArea at h
  simp only [Nat.add_sub_cancel] at h
  generalize c.areas.getD (z + 1) noArea = a at h ⊢
  generalize c.areas.getD z noArea = p at h ⊢
  split at h
  · cases h
  split at h
  · cases h
  rename_i h2
  split at h
  · cases h
  rename_i h3
  simp at h2 h3
  exact ⟨less_of_leS h2, h3.1⟩
/-- Areas of a right country: in order, and none begins with another. -/
theorem areas_order {c : Ctry} (h : ∀ z, z < c.areas.length → areaErr c z = 0) : ∀ i d, i + 1 + d < c.areas.length → Op.bytesLess (c.areas.getD i noArea).pre (c.areas.getD (i + 1 + d) noArea).pre = true := by
  intro i d
  induction d with
  | zero => intro hj; exact (area_next (h _ hj)).1
  | succ d ih =>
    intro hj
    exact less_trans (ih (by omega)) (area_next (h _ hj)).1
theorem areas_apart {c : Ctry} (h : ∀ z, z < c.areas.length → areaErr c z = 0) {i j : Nat} (hi : i < c.areas.length) (hj : j < c.areas.length) (hp : Lib.hasPrefix (c.areas.getD j noArea).pre (c.areas.getD i noArea).pre = true) : i = j := by
  rcases Nat.lt_trichotomy i j with hlt | rfl | hlt
  · exfalso
    obtain ⟨d, rfl⟩ : ∃ d, j = i + 1 + d := ⟨j - (i + 1), by omega⟩
    have h1 := area_next (h (i + 1) (by omega))
    cases d with
    | zero => rw [Nat.add_zero] at hp; rw [h1.2] at hp; cases hp
    | succ d =>
      have h2 := areas_order h (i + 1) d (by omega)
      rw [show i + 1 + 1 + d = i + 1 + (d + 1) by omega] at h2
      obtain ⟨t, ht⟩ := (pre_iff _ _).1 hp
      rw [← ht] at h2
      rw [less_between h1.1 h2] at h1
      cases h1.2
  · rfl
  · exfalso
    obtain ⟨d, rfl⟩ : ∃ d, i = j + 1 + d := ⟨i - (j + 1), by omega⟩
    have h2 := areas_order h j d (by omega)
    obtain ⟨t, ht⟩ := (pre_iff _ _).1 hp
    rw [← ht, less_app] at h2
    cases h2

/-! ### A number that is split -/
structure SplitOk (l : List Ctry) (n : List UInt8) (i j : Nat) : Prop where
  li : i < l.length
  lj : j < (l.getD i noCtry).areas.length
  form : n = 43 :: ((l.getD i noCtry).code ++ (((l.getD i noCtry).areas.getD j noArea).pre ++ (splitP l n).rest))
  code : (splitP l n).code = (l.getD i noCtry).code
  area : (splitP l n).area = ((l.getD i noCtry).areas.getD j noArea).pre
  low : ((l.getD i noCtry).areas.getD j noArea).low ≤ (((l.getD i noCtry).areas.getD j noArea).pre.length : Int) + (splitP l n).rest.length
  high : (((l.getD i noCtry).areas.getD j noArea).pre.length : Int) + (splitP l n).rest.length ≤ ((l.getD i noCtry).areas.getD j noArea).high
  digits : digitsB (n.drop 1) 4 15 = true
theorem split_ok {l : List Ctry} {n : List UInt8} (h : (splitP l n).err = 0) : ∃ i j, SplitOk l n i j := by
  have h0 := h
  unfold splitP at h
  split at h
  · cases h
  rename_i hn
  have hn : isNumB n = true := by simpa using hn
  obtain ⟨d, hd, hdig⟩ := plus_head hn
  have hX : splitP l n = splitIn l n := by unfold splitP; rw [if_neg (by simp [hn])]
  unfold splitIn at h hX
  cases hf : l.find? fun c => Lib.hasPrefix (n.drop 1) c.code with
  | none => rw [hf] at h; cases h
  | some c =>
    rw [hf] at h hX
    simp only [Option.bind_some] at h hX
    have hpc := List.find?_some hf
    obtain ⟨i, hi, hic⟩ := List.getElem_of_mem (List.mem_of_find?_eq_some hf)
    have hic' : l.getD i noCtry = c := by simpa [hi] using hic
    unfold inAreas at h hX
    cases hg : c.areas.find? fun a => Lib.hasPrefix (n.drop (1 + c.code.length)) a.pre with
    | none => rw [hg] at h; cases h
    | some a =>
      rw [hg] at h hX
      simp only [Option.map_some, Option.getD_some] at h hX
      have hpa := List.find?_some hg
      obtain ⟨j, hj, hja⟩ := List.getElem_of_mem (List.mem_of_find?_eq_some hg)
      have hja' : c.areas.getD j noArea = a := by simpa [hj] using hja
      unfold inArea at h hX
      split at h
      · cases h
      rename_i hlen
      rw [if_neg hlen] at hX
      simp only [Bool.or_eq_true, decide_eq_true_eq, not_or, Int.not_lt] at hlen
      subst hd
      simp only [List.drop_succ_cons, List.drop_zero, Nat.add_comm 1] at hpc hpa hX hlen
      obtain ⟨t, ht⟩ := (pre_iff _ _).1 hpc
      subst ht
      rw [List.drop_left] at hpa hX hlen
      obtain ⟨r, hr⟩ := (pre_iff _ _).1 hpa
      subst hr
      rw [List.drop_left] at hX
      refine ⟨i, j, ⟨hi, by rw [hic']; exact hj, ?_, ?_, ?_, ?_, ?_, by simpa using hdig⟩⟩
      · rw [hX, hic', hja']
      · rw [hX, hic']
      · rw [hX, hic', hja']
      · rw [hX, hic', hja']; simp only [List.length_append] at hlen; simp only; omega
      · rw [hX, hic', hja']; simp only [List.length_append] at hlen; simp only; omega
end Go.Proofs.YthajppcmmmkfcaaGreatDoor

set_option linter.unusedVariables false
set_option linter.unusedSimpArgs false
namespace Go.Proofs.YthajppcmmmkfcaaGreatDoor
open Go.RowKit

/-- A country of a plan, with an area of a home in it. -/
structure HomeIn (l : List Ctry) (c : Ctry) (area : List UInt8) : Prop where
  here : ∃ k, k < l.length ∧ l.getD k noCtry = c
  area : area = [] ∨ ∃ z, z < c.areas.length ∧ (c.areas.getD z noArea).pre = area
theorem homeIn_of {l : List Ctry} {code area : List UInt8} {c : Ctry} (h : homeC l code area = some c) : HomeIn l c area := by
  unfold homeC at h
  have hp := List.find?_some h
  obtain ⟨k, hk, hkc⟩ := List.getElem_of_mem (List.mem_of_find?_eq_some h)
  simp only [Bool.and_eq_true, Bool.or_eq_true, beq_iff_eq, List.any_eq_true] at hp
  refine ⟨⟨k, hk, by simpa [hk] using hkc⟩, hp.2.imp id ?_⟩
  rintro ⟨a, ha, rfl⟩
  obtain ⟨z, hz, rfl⟩ := List.getElem_of_mem ha
  exact ⟨z, hz, by simp [hz]⟩

def triesL (l : List Ctry) (c : Ctry) (area n : List UInt8) : List (List UInt8) :=
  (c.abroad ++ n.drop 1) :: (if (splitP l n).code = c.code then (c.trunk ++ ((splitP l n).area ++ (splitP l n).rest)) :: (if area = (splitP l n).area ∧ c.trunk ≠ [] then [(splitP l n).rest] else []) else [])
def waysL (l : List Ctry) (c : Ctry) (area n : List UInt8) : List (List UInt8) :=
  (c.abroad ++ n.drop 1) :: (if (splitP l n).code = c.code then (c.trunk ++ ((splitP l n).area ++ (splitP l n).rest)) :: (if (area = (splitP l n).area ∧ c.trunk ≠ []) ∧ reachP l c area (splitP l n).rest = (0, n) then [(splitP l n).rest] else []) else [])

theorem way_abroad {l : List Ctry} {c : Ctry} {area n : List UInt8} (hE : planErr l = 0) (hH : HomeIn l c area) (hS : (splitP l n).err = 0) : reachP l c area (c.abroad ++ n.drop 1) = (0, n) := by
  obtain ⟨i, j, so⟩ := split_ok hS
  obtain ⟨k, hk, rfl⟩ := hH.here
  obtain ⟨-, -, ha, -, -⟩ := ctry_form (plan_ctry hE k hk)
  obtain ⟨a1, a2, a3⟩ := (digitsB_iff _ _ _).1 ha
  obtain ⟨d1, d2, d3⟩ := (digitsB_iff _ _ _).1 so.digits
  have hd : digitsB ((l.getD k noCtry).abroad ++ n.drop 1) 1 30 = true := by
    rw [digitsB_iff, digs_app, a3, d3, List.length_append]
    exact ⟨by omega, by omega, rfl⟩
  have hn : n = 43 :: n.drop 1 := by rw [so.form]; rfl
  unfold reachP
  rw [if_neg (by rw [hd]; exact Bool.noConfusion)]
  unfold reachN
  rw [if_pos (pre_append _ _), List.drop_left]
  simp only [← hn, hS, ne_eq, not_true_eq_false, if_false]
theorem same_ctry {l : List Ctry} {c : Ctry} {area n : List UInt8} (hE : planErr l = 0) (hH : HomeIn l c area) (hS : (splitP l n).err = 0) {i j : Nat} (so : SplitOk l n i j) (hc : (splitP l n).code = c.code) : l.getD i noCtry = c := by
  obtain ⟨k, hk, rfl⟩ := hH.here
  by_cases h : i = k
  · rw [h]
  · exact absurd (so.code.symm.trans hc) (codes_apart hE so.li hk h)
theorem trunk_clash {l : List Ctry} {c : Ctry} {area n : List UInt8} (hE : planErr l = 0) (hH : HomeIn l c area) (hS : (splitP l n).err = 0) {i j : Nat} (so : SplitOk l n i j) (hc : (splitP l n).code = c.code) : Lib.hasPrefix (c.trunk ++ ((splitP l n).area ++ (splitP l n).rest)) c.abroad = false ∧ 1 ≤ (splitP l n).area.length ∧ 1 ≤ (splitP l n).rest.length := by
  have hi := same_ctry hE hH hS so hc
  obtain ⟨g1, g2, g3, g4, g5, g6, g7⟩ := area_parts (plan_area hE i so.li j so.lj)
  obtain ⟨a1, a2, a3⟩ := (digitsB_iff _ _ _).1 g1
  have hl := so.low
  rw [hi] at g2 g3 g4 g5 g6 g7 a1 a2 a3 hl
  have har := so.area
  rw [hi] at har
  rw [har]
  refine ⟨?_, by omega, by omega⟩
  cases hq : Lib.hasPrefix (c.trunk ++ ((c.areas.getD j noArea).pre ++ (splitP l n).rest)) c.abroad with
  | false => rfl
  | true =>
    rw [← List.append_assoc] at hq
    rcases pre_or hq with h | h
    · rw [g2] at h; cases h
    · rw [g3] at h; cases h
theorem way_trunk {l : List Ctry} {c : Ctry} {area n : List UInt8} (hE : planErr l = 0) (hH : HomeIn l c area) (hS : (splitP l n).err = 0) (hc : (splitP l n).code = c.code) : reachP l c area (c.trunk ++ ((splitP l n).area ++ (splitP l n).rest)) = (0, n) := by
  obtain ⟨i, j, so⟩ := split_ok hS
  have hi := same_ctry hE hH hS so hc
  obtain ⟨t1, t2, t3⟩ := trunk_clash hE hH hS so hc
  have hf := so.form
  have har := so.area
  have hlow := so.low
  have hhigh := so.high
  obtain ⟨g1, g2, g3, g4, g5, g6, g7⟩ := area_parts (plan_area hE i so.li j so.lj)
  obtain ⟨-, -, -, ht, -⟩ := ctry_form (plan_ctry hE i so.li)
  rw [hi] at hf har hlow hhigh g6 ht g4
  obtain ⟨q1, q2, q3⟩ := (digitsB_iff _ _ _).1 ht
  obtain ⟨d1, d2, d3⟩ := (digitsB_iff _ _ _).1 so.digits
  have hdn : n.drop 1 = c.code ++ ((splitP l n).area ++ (splitP l n).rest) := by rw [har]; exact (congrArg (List.drop 1) hf).trans rfl
  rw [hdn, digs_app, Bool.and_eq_true] at d3
  have hd : digitsB (c.trunk ++ ((splitP l n).area ++ (splitP l n).rest)) 1 30 = true := by
    rw [digitsB_iff, digs_app, q3, d3.2, List.length_append, List.length_append, har]
    rw [har] at t2
    exact ⟨by omega, by omega, rfl⟩
  have hn : n = 43 :: (c.code ++ ((splitP l n).area ++ (splitP l n).rest)) := by rw [har]; exact hf
  unfold reachP
  rw [if_neg (by rw [hd]; exact Bool.noConfusion)]
  unfold reachN
  rw [if_neg (by simp [t1]), if_pos (pre_append _ _), List.drop_left]
  simp only [← hn, hS, ne_eq, not_true_eq_false, if_false]

theorem ways_apart {l : List Ctry} {c : Ctry} {area n : List UInt8} (hE : planErr l = 0) (hH : HomeIn l c area) (hS : (splitP l n).err = 0) (hc : (splitP l n).code = c.code) : c.trunk ++ ((splitP l n).area ++ (splitP l n).rest) ≠ c.abroad ++ n.drop 1 ∧ (splitP l n).rest ≠ c.trunk ++ ((splitP l n).area ++ (splitP l n).rest) ∧ (splitP l n).rest ≠ c.abroad ++ n.drop 1 := by
  obtain ⟨i, j, so⟩ := split_ok hS
  obtain ⟨t1, t2, t3⟩ := trunk_clash hE hH hS so hc
  have hi := same_ctry hE hH hS so hc
  have har := so.area
  have hf := so.form
  rw [hi] at hf har
  refine ⟨fun h => ?_, fun h => ?_, fun h => ?_⟩
  · rw [h, pre_append] at t1; cases t1
  · have := congrArg List.length h
    simp only [List.length_append] at this
    omega
  · have := congrArg List.length h
    have h9 := congrArg List.length ((congrArg (List.drop 1) hf).trans rfl : n.drop 1 = c.code ++ ((c.areas.getD j noArea).pre ++ (splitP l n).rest))
    simp only [List.length_append] at this h9
    rw [har] at t2
    omega

def stepW (l : List Ctry) (c : Ctry) (area n : List UInt8) (out : List (List UInt8)) (s : List UInt8) : List (List UInt8) := if reachP l c area s = (0, n) ∧ s ∉ out then out ++ [s] else out
theorem tries_fold {l : List Ctry} {c : Ctry} {area n : List UInt8} (hE : planErr l = 0) (hH : HomeIn l c area) (hS : (splitP l n).err = 0) : (triesL l c area n).foldl (stepW l c area n) [] = waysL l c area n := by
  have h1 := way_abroad hE hH hS
  unfold triesL waysL
  rw [List.foldl_cons]
  have e1 : stepW l c area n [] (c.abroad ++ n.drop 1) = [c.abroad ++ n.drop 1] := by unfold stepW; rw [if_pos ⟨h1, by simp⟩]; rfl
  rw [e1]
  by_cases hc : (splitP l n).code = c.code
  · have h2 := way_trunk hE hH hS hc
    obtain ⟨a1, a2, a3⟩ := ways_apart hE hH hS hc
    rw [if_pos hc, if_pos hc, List.foldl_cons]
    have e2 : stepW l c area n [c.abroad ++ n.drop 1] (c.trunk ++ ((splitP l n).area ++ (splitP l n).rest)) = [c.abroad ++ n.drop 1, c.trunk ++ ((splitP l n).area ++ (splitP l n).rest)] := by
      unfold stepW
      rw [if_pos ⟨h2, by simpa using a1⟩]
      rfl
    rw [e2]
    by_cases h3 : area = (splitP l n).area ∧ c.trunk ≠ []
    · rw [if_pos h3, List.foldl_cons, List.foldl_nil]
      unfold stepW
      by_cases h4 : reachP l c area (splitP l n).rest = (0, n)
      · rw [if_pos ⟨h4, fun hm => by rcases List.mem_cons.1 hm with h | hm; exact a3 h; rcases List.mem_cons.1 hm with h | hm; exact a2 h; cases hm⟩, if_pos ⟨h3, h4⟩]; rfl
      · rw [if_neg (fun h => h4 h.1), if_neg (fun h => h4 h.2)]
    · rw [if_neg h3, if_neg (fun h => h3 h.1), List.foldl_nil]
  · rw [if_neg hc, if_neg hc, List.foldl_nil]
theorem tries_filter {l : List Ctry} {c : Ctry} {area n : List UInt8} (hE : planErr l = 0) (hH : HomeIn l c area) (hS : (splitP l n).err = 0) : (triesL l c area n).filter (fun s => decide (reachP l c area s = (0, n))) = waysL l c area n := by
  have h1 := way_abroad hE hH hS
  unfold triesL waysL
  rw [List.filter_cons_of_pos (by simpa using h1)]
  by_cases hc : (splitP l n).code = c.code
  · have h2 := way_trunk hE hH hS hc
    rw [if_pos hc, if_pos hc, List.filter_cons_of_pos (by simpa using h2)]
    by_cases h3 : area = (splitP l n).area ∧ c.trunk ≠ []
    · rw [if_pos h3]
      by_cases h4 : reachP l c area (splitP l n).rest = (0, n)
      · rw [if_pos ⟨h3, h4⟩]; simp [h4]
      · rw [if_neg (fun h => h4 h.2)]; simp [h4]
    · rw [if_neg h3, if_neg (fun h => h3 h.1)]; rfl
  · rw [if_neg hc, if_neg hc]; rfl
theorem tries_but {l : List Ctry} {c : Ctry} {area n : List UInt8} (hE : planErr l = 0) (hH : HomeIn l c area) (hS : (splitP l n).err = 0) : ∀ j, j + 1 < (triesL l c area n).length → reachP l c area ((triesL l c area n).getD j []) = (0, n) ∨ j = 1 + 1 := by
  have h1 := way_abroad hE hH hS
  intro j hj
  unfold triesL at hj ⊢
  by_cases hc : (splitP l n).code = c.code
  · have h2 := way_trunk hE hH hS hc
    rw [if_pos hc] at hj ⊢
    match j, hj with
    | 0, _ => exact Or.inl h1
    | 1, _ => exact Or.inl h2
    | 2, _ => exact Or.inr rfl
    | j + 3, hj =>
      exfalso
      have h9 : (if area = (splitP l n).area ∧ c.trunk ≠ [] then [(splitP l n).rest] else []).length ≤ 1 := by split <;> simp
      simp only [List.length_cons] at hj
      omega
  · rw [if_neg hc] at hj; simp at hj

theorem tries_split {l : List Ctry} {c : Ctry} {area n : List UInt8} (hE : planErr l = 0) (hH : HomeIn l c area) (hS : (splitP l n).err = 0) : ∃ ys z, triesL l c area n = ys ++ [z] ∧ ∀ y ∈ ys, reachP l c area y = (0, n) := by
  have h1 := way_abroad hE hH hS
  unfold triesL
  by_cases hc : (splitP l n).code = c.code
  · have h2 := way_trunk hE hH hS hc
    rw [if_pos hc]
    by_cases h3 : area = (splitP l n).area ∧ c.trunk ≠ []
    · rw [if_pos h3]
      refine ⟨[c.abroad ++ n.drop 1, c.trunk ++ ((splitP l n).area ++ (splitP l n).rest)], _, rfl, fun y hy => ?_⟩
      rcases List.mem_cons.1 hy with rfl | hy
      · exact h1
      · rcases List.mem_cons.1 hy with rfl | hy
        · exact h2
        · cases hy
    · rw [if_neg h3]
      refine ⟨[c.abroad ++ n.drop 1], _, rfl, fun y hy => ?_⟩
      rcases List.mem_cons.1 hy with rfl | hy
      · exact h1
      · cases hy
  · rw [if_neg hc]
    exact ⟨[], _, rfl, fun y hy => by cases hy⟩
/-! ### How the reference asks -/
theorem ref_code {l : List Ctry} {c : Ctry} {area n : List UInt8} (hE : planErr l = 0) (hH : HomeIn l c area) (hS : (splitP l n).err = 0) : Lib.hasPrefix n (43 :: c.code) = decide ((splitP l n).code = c.code) := by
  obtain ⟨i, j, so⟩ := split_ok hS
  have hf := so.form
  by_cases hc : (splitP l n).code = c.code
  · have hi := same_ctry hE hH hS so hc
    rw [hi] at hf
    rw [decide_eq_true hc, pre_iff]
    conv => rhs; rw [hf]
    exact List.cons_prefix_cons.2 ⟨rfl, List.prefix_append _ _⟩
  · rw [decide_eq_false hc]
    cases hq : Lib.hasPrefix n (43 :: c.code) with
    | false => rfl
    | true =>
      exfalso
      obtain ⟨k, hk, rfl⟩ := hH.here
      rw [pre_iff] at hq
      generalize hr : (splitP l n).rest = r at hf
      rw [hf] at hq
      have hq2 := (List.cons_prefix_cons.1 hq).2
      have hal := plan_alone hE ((l.getD i noCtry).code ++ (((l.getD i noCtry).areas.getD j noArea).pre ++ r))
      rw [List.pairwise_iff_getElem] at hal
      have h1 : Lib.hasPrefix ((l.getD i noCtry).code ++ (((l.getD i noCtry).areas.getD j noArea).pre ++ r)) (l.getD i noCtry).code = true := pre_append _ _
      have h2 : Lib.hasPrefix ((l.getD i noCtry).code ++ (((l.getD i noCtry).areas.getD j noArea).pre ++ r)) (l.getD k noCtry).code = true := (pre_iff _ _).2 hq2
      have hli := so.li
      have ei : l[i] = l.getD i noCtry := by simp [hli]
      have ek : l[k] = l.getD k noCtry := by simp [hk]
      rcases Nat.lt_trichotomy i k with h | rfl | h
      · have := hal i k hli hk h (by rw [ei]; exact h1)
        rw [ek, h2] at this; cases this
      · exact hc so.code
      · have := hal k i hk hli h (by rw [ek]; exact h2)
        rw [ei, h1] at this; cases this
theorem ref_nat {l : List Ctry} {c : Ctry} {area n : List UInt8} (hE : planErr l = 0) (hH : HomeIn l c area) (hS : (splitP l n).err = 0) (hc : (splitP l n).code = c.code) : n.drop (43 :: c.code).length = (splitP l n).area ++ (splitP l n).rest := by
  obtain ⟨i, j, so⟩ := split_ok hS
  have hf := so.form
  have hi := same_ctry hE hH hS so hc
  have har := so.area
  rw [hi] at hf har
  conv => lhs; rw [hf]
  rw [har, List.length_cons, List.drop_succ_cons, List.drop_left]
theorem ref_area {l : List Ctry} {c : Ctry} {area n : List UInt8} (hE : planErr l = 0) (hH : HomeIn l c area) (hS : (splitP l n).err = 0) (hc : (splitP l n).code = c.code) : (Lib.hasPrefix ((splitP l n).area ++ (splitP l n).rest) area = true ∧ area ≠ []) ↔ area = (splitP l n).area := by
  obtain ⟨i, j, so⟩ := split_ok hS
  have hi := same_ctry hE hH hS so hc
  obtain ⟨t1, t2, t3⟩ := trunk_clash hE hH hS so hc
  have har := so.area
  have hlj := so.lj
  rw [hi] at har hlj
  constructor
  · rintro ⟨h1, h2⟩
    rcases hH.area with h | ⟨z, hz, rfl⟩
    · exact absurd h h2
    · rw [har] at h1 ⊢
      have hall : ∀ z, z < c.areas.length → areaErr c z = 0 := by
        obtain ⟨k, hk, rfl⟩ := hH.here
        exact plan_area hE k hk
      rcases pre_or h1 with h | h
      · rw [areas_apart hall hz hlj h]
      · rw [areas_apart hall hlj hz h]
  · rintro rfl
    exact ⟨pre_append _ _, fun h => by rw [h] at t2; simp at t2⟩
end Go.Proofs.YthajppcmmmkfcaaGreatDoor

set_option linter.unusedVariables false
set_option linter.unusedSimpArgs false
namespace Go.Proofs.YthajppcmmmkfcaaGreatDoor
open Go.RowKit Go.Sort Go.Lib

def encS (x : List UInt8) : Value := .string ⟨x.toArray⟩
def lenC (x y : List UInt8) : Int := Lib.compareInt (x.length : Int) (y.length : Int)
/-- Strings in the order of their lengths. -/
def sortW (l : List (List UInt8)) : List (List UInt8) := (Sort.insertionSort (ltOf lenC) l.toArray 0 l.length).toList
theorem insInner_size {α : Type} [Inhabited α] (lt : α → α → Bool) (a : Nat) : ∀ (j : Nat) (d : Array α), (insInner lt a j d).size = d.size
  | 0, d => by unfold insInner; rfl
  | j + 1, d => by
    unfold insInner
    split
    · rw [insInner_size lt a j, swp_size]
    · rfl
theorem insOuter_size {α : Type} [Inhabited α] (lt : α → α → Bool) (a b : Nat) : ∀ (m i : Nat) (d : Array α), b - i ≤ m → (insOuter lt a b i d).size = d.size := by
  intro m
  induction m with
  | zero =>
    intro i d h
    unfold insOuter
    rw [if_neg (by omega)]
  | succ m ih =>
    intro i d h
    unfold insOuter
    split
    · rw [ih _ _ (by omega), insInner_size]
    · rfl
theorem sortW_len (l : List (List UInt8)) : (sortW l).length = l.length := by
  unfold sortW insertionSort
  rw [Array.length_toList, insOuter_size _ _ _ _ _ _ (Nat.le_refl _)]
  simp

theorem lenCmp1 (x y : List UInt8) (W : World) : Calls Tryz.prog 66 #[.string ⟨x.toArray⟩, .string ⟨y.toArray⟩] W fun e w' => e = .returned (.int .i64 (lenC x y)) ∧ ∃ q, w' = W.drewN q := by
  have hcon := Tryz.cmp_Compare (x.length : Int) (y.length : Int) W
  unfold lenC
  generalize Lib.compareInt (x.length : Int) (y.length : Int) = r at hcon ⊢
  go_enter Tryz.func66, Tryz.ntmps66
  go_wp2_with fail
  refine hcon.mono ?_
  rintro e w' ⟨rfl, rfl⟩
  go_wp2_with fail
  go_ret
  exact ⟨rfl, 0, rfl⟩
theorem lenCmp2 (x y : List UInt8) (W : World) : Calls Tryz.prog 73 #[.string ⟨x.toArray⟩, .string ⟨y.toArray⟩] W fun e w' => e = .returned (.int .i64 (lenC x y)) ∧ ∃ q, w' = W.drewN q := by
  have hcon := Tryz.cmp_Compare (x.length : Int) (y.length : Int) W
  unfold lenC
  generalize Lib.compareInt (x.length : Int) (y.length : Int) = r at hcon ⊢
  go_enter Tryz.func73, Tryz.ntmps73
  go_wp2_with fail
  refine hcon.mono ?_
  rintro e w' ⟨rfl, rfl⟩
  go_wp2_with fail
  go_ret
  exact ⟨rfl, 0, rfl⟩

/-- How a comparison of lengths is named: a function without bound values. -/
def IsLenCmp (g : Nat) : Prop := (∀ args w, (callFunc g args).run Tryz.prog w = .ok (.enter g args) w) ∧ ∀ (x y : List UInt8) (W : World), Calls Tryz.prog g #[.string ⟨x.toArray⟩, .string ⟨y.toArray⟩] W fun e w' => e = .returned (.int .i64 (lenC x y)) ∧ ∃ q, w' = W.drewN q
theorem isLenCmp1 : IsLenCmp 66 := ⟨enters_of Tryz.func66 (by kernel_rfl) rfl, lenCmp1⟩
theorem isLenCmp2 : IsLenCmp 73 := ⟨enters_of Tryz.func73 (by kernel_rfl) rfl, lenCmp2⟩

set_option maxRecDepth 100000 in
set_option maxHeartbeats 1000000 in
theorem stable_any (g : Nat) (hg : IsLenCmp g) (w : World) (base B n cap : Nat) (xs : List (List UInt8)) (h : w.ownsRow base 9 1 (.slice (some ⟨B, 0, none⟩) n cap) n (xs.map encS)) (hn : n ≤ 19) :
    Calls Tryz.prog 65 #[.slice (some ⟨B, 0, none⟩) n cap, .func (.func g) #[] #[]] w fun e w' => e = .returned (.tuple #[]) ∧ w'.ownsRow base 9 1 (.slice (some ⟨B, 0, none⟩) n cap) n ((sortW xs).map encS) ∧ Below base w w' := by
  obtain ⟨g9, cap9, hv, hbase, hlt, hcap, hmax, hlen, hH⟩ := holds_of_ownsRow h (by intro h; cases h)
  injection hv with h1 _ h3
  injection h1 with h1
  injection h1 with h1
  subst h1 h3 hlen
  have hcon := Tryz.slices_insS encS (fun _ => rfl) lenC g #[] B 0 cap 0 xs.length xs.toArray w hg.1 (fun m os dk hdk x y => hg.2 x y _) hH (Nat.zero_le _) (by simp) (by simp; omega)
  have hfin : ∀ q, ((putRow encS w B 0 (Sort.insertionSort (ltOf lenC) xs.toArray 0 xs.length)).drewN q).ownsRow base 9 1 (.slice (some ⟨B, 0, none⟩) xs.length cap) xs.length ((sortW xs).map encS) := fun q => by
    have := ownsRow_putRow (q := 0) (k := xs.length) h (sortW_len xs) (Nat.le_refl _)
    rw [List.take_of_length_le (by rw [sortW_len]; exact Nat.le_refl _)] at this
    exact this
  have hbel : ∀ q, Below base w ((putRow encS w B 0 (Sort.insertionSort (ltOf lenC) xs.toArray 0 xs.length)).drewN q) := fun q => by
    have := below_putRow (enc := encS) (q := 0) (d := Sort.insertionSort (ltOf lenC) xs.toArray 0 xs.length) (Below.refl base w) hbase
    exact ⟨this.os, this.tape, this.output, this.size, this.block⟩
  have HF := Lib.hid hfin
  have HB := Lib.hid hbel
  clear hfin hbel h hH
  simp only [List.size_toArray] at hcon
  have HCON := Lib.hid hcon
  have HSTB : Hid (Calls Tryz.prog 103 #[.slice (some ⟨B, 0, none⟩) xs.length cap, .int .i64 xs.length, .func (.func g) #[] #[]] w fun e w' => e = .returned (.tuple #[]) ∧ ∃ q, w' = ((putRow encS w B 0 (Sort.insertionSort (ltOf lenC) xs.toArray 0 xs.length)).drewN q)) := by
    show Calls _ _ _ _ _
    clear HF HB hcon
    generalize putRow encS w B 0 _ = W1 at HCON
    generalize xs.length = n at *
    have q1 : ¬ ((20 : Int) ≤ (n : Int)) := by omega
    have q2 : ¬ ((20 : Int) < (n : Int)) := by omega
    go_enter Tryz.func103, Tryz.ntmps103
    go_wp2_with fail
    go_loopw [7, 8] (fun a b wr => a = .int .i64 0 ∧ b = .int .i64 20 ∧ wr = w) (fun _ _ _ => 0)
    case atStart => exact ⟨rfl, rfl, rfl⟩
    case round =>
      obtain ⟨rfl, rfl, rfl⟩ := hrel
      go_wp2_with fail
      refine HCON.out.mono ?_
      rintro e w' ⟨rfl, q, rfl⟩
      generalize hW2 : W1.drewN q = W2
      have HW2 := Lib.hid hW2
      clear hW2
      go_wp2_with fail
      go_loopw [6] (fun a wr => a = .int .i64 20 ∧ wr = W2) (fun _ _ => 0)
      case atStart => exact ⟨rfl, rfl⟩
      case round =>
        obtain ⟨rfl, rfl⟩ := hrel
        go_wp2_with fail
        go_end0
        exact ⟨rfl, q, HW2.out.symm⟩
  clear hcon HCON
  generalize putRow encS w B 0 _ = W1 at HF HB HSTB
  generalize xs.length = n at *
  go_enter Tryz.func65, Tryz.ntmps65
  go_wp2_with fail
  refine HSTB.out.mono ?_
  rintro e w' ⟨rfl, q, rfl⟩
  go_wp2_with fail
  go_end0
  exact ⟨rfl, HF.out q, HB.out q⟩
end Go.Proofs.YthajppcmmmkfcaaGreatDoor
