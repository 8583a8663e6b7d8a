/- What is proved here: what home of package number answers: the country of a home and its area. Condition: the plan lies in memory as stated. -/
import Derived.Test.YthajppcmmmkfcaaGreatDoorHomes
import Derived.Test.YthajppcmmmkfcaaGreatDoorRefSplit
import Derived.Test.YthajppcmmmkfcaaGreatDoorResCell
import Derived.Deep.MidRow
import Derived.Test.YthajppcmmmkfcaaGreatDoorRegionSeq
set_option linter.unusedVariables false
set_option linter.unusedSimpArgs false
namespace Go.Proofs.YthajppcmmmkfcaaGreatDoor
open Go.RowKit

theorem results_cell3 {fn : Func} {t t2 u : Tmp} {T T2 : TypeId} (h : fn.results = #[.cell t T, .cell t2 T2, .tmp u]) (P : Program) (w : World) (tmps : Array Value) {B B2 k k2 : Nat} (hA : ∀ w, (isAgg T).run P w = .ok true w) (hZ : ∀ w, (Go.sizeOf T).run P w = .ok k w) (ht : tmps.getD t undef = .pointer (some ⟨B, 0, none⟩)) (hA2 : ∀ w, (isAgg T2).run P w = .ok true w) (hZ2 : ∀ w, (Go.sizeOf T2).run P w = .ok k2 w) (ht2 : tmps.getD t2 undef = .pointer (some ⟨B2, 0, none⟩)) (cs : List Value) (hk : cs.length = k) (hc : ∀ j v, cs[j]? = some v → w.cell? ⟨B, j, none⟩ = some v) (ds : List Value) (hk2 : ds.length = k2) (hc2 : ∀ j v, ds[j]? = some v → w.cell? ⟨B2, j, none⟩ = some v) :
    (results fn tmps).run P w = .ok (.tuple #[.agg cs.toArray, .agg ds.toArray, tmps.getD u undef]) w := by
  have h9 := load_struct (P := P) cs hk hc
  have h8 := load_struct (P := P) ds hk2 hc2
  have ht' : tmps[t]?.getD undef = .pointer (some ⟨B, 0, none⟩) := by simpa using ht
  have ht2' : tmps[t2]?.getD undef = .pointer (some ⟨B2, 0, none⟩) := by simpa using ht2
  simp [results, h, ht', ht2', h9, h8, hA, hZ, hA2, hZ2, asAddr, go_sem]

def homeX (c : Ctry) (area : List UInt8) : Area := if area = [] then noArea else (c.areas.find? fun a => a.pre == area).getD noArea
def HomePost (r : Option Ctry) (bad : Int) (area : List UInt8) (w : World) (e : Ending) (w' : World) : Prop :=
  (∃ c, r = some c ∧ e = .returned (.tuple #[.agg c.cells.toArray, .agg (homeX c area).cells.toArray, .int .i64 0]) ∨ r = none ∧ e = .returned (.tuple #[.agg noCtry.cells.toArray, .agg noArea.cells.toArray, .int .i64 bad])) ∧ Below w.heap.size w w'

def homeP (code area : List UInt8) (c : Ctry) : Bool := c.code == code && (area == [] || c.areas.any fun a => a.pre == area)
theorem homeC_eq (l : List Ctry) (code area : List UInt8) : homeC l code area = l.find? (homeP code area) := rfl

theorem ctry_size : (Tryz.prog.info? 68).map (·.size) = some 4 := by kernel_rfl
theorem area_size : (Tryz.prog.info? 72).map (·.size) = some 3 := by kernel_rfl
/-- What lies in memory while homes are looked for. -/
structure HomeSet (H : Nat) (w : World) (code area : List UInt8) : Prop where
  h0 : w.cell? ⟨H, 0, none⟩ = some (.string ⟨code.toArray⟩)
  h1 : w.cell? ⟨H, 1, none⟩ = some (.string ⟨area.toArray⟩)
  tc : w.there (H + 1) 0 4
  td : w.there (H + 1 + 1) 0 3
  size : H + 3 ≤ w.heap.size
theorem thereB {w w' : World} {b o n : Nat} (h : w.there b o n) (hb : Below w.heap.size w w') (hl : b < w.heap.size) : w'.there b o n := fun j hj => by
  have := h j hj
  rwa [← hb.cell (p := ⟨b, o + j, none⟩) hl, ← hb.frozen (p := ⟨b, o + j, none⟩) hl] at this
theorem HomeSet.below {H : Nat} {w w' : World} {code area : List UInt8} (h : HomeSet H w code area) (hb : Below w.heap.size w w') : HomeSet H w' code area := by
  have hz := h.size
  exact ⟨(hb.cell (p := ⟨H, 0, none⟩) (by show H < _; omega)).trans h.h0, (hb.cell (p := ⟨H, 1, none⟩) (by show H < _; omega)).trans h.h1, thereB h.tc hb (by omega), thereB h.td hb (by omega), Nat.le_trans hz hb.size⟩
/-- The two results, written. -/
theorem home_end {H : Nat} {w wr : World} {code area : List UInt8} (h : HomeSet H wr code area) (hb : Below w.heap.size w wr) (hH : w.heap.size ≤ H) (cs ds : List Value) (hc : cs.length = 4) (hd : ds.length = 3) :
    wr.there (H + 1) 0 4 ∧ (wr.setCells (H + 1) 0 cs).there (H + 1 + 1) 0 3 ∧
    (∀ j v, cs[j]? = some v → ((wr.setCells (H + 1) 0 cs).setCells (H + 1 + 1) 0 ds).cell? ⟨H + 1, j, none⟩ = some v) ∧ (∀ j v, ds[j]? = some v → ((wr.setCells (H + 1) 0 cs).setCells (H + 1 + 1) 0 ds).cell? ⟨H + 1 + 1, j, none⟩ = some v) ∧ Below w.heap.size w ((wr.setCells (H + 1) 0 cs).setCells (H + 1 + 1) 0 ds) := by
  have t2 : (wr.setCells (H + 1) 0 cs).there (H + 1 + 1) 0 3 := World.there_setCells h.td _ _ _
  have r1 := World.rangeAt_setCells_same wr (H + 1) 0 cs (by rw [hc]; exact h.tc)
  have r2 := World.rangeAt_setCells_same (wr.setCells (H + 1) 0 cs) (H + 1 + 1) 0 ds (by rw [hd]; exact t2)
  refine ⟨h.tc, t2, fun j v hj => ?_, fun j v hj => ?_, setCells_ext (by omega) _ _ _ (setCells_ext (by omega) _ _ _ hb)⟩
  · have := World.rangeAt_setCells_apart r1 (H + 1 + 1) 0 ds (Or.inl (by omega)) j v hj
    rwa [Nat.zero_add] at this
  · have := r2 j v hj
    rwa [Nat.zero_add] at this

theorem home_stores {H : Nat} {w wr : World} {code area : List UInt8} (h : HomeSet H wr code area) (hb : Below w.heap.size w wr) (hH : w.heap.size ≤ H) (t1 t2 : Tmp) (cs ds : List Value) (hc : cs.length = 4) (hd : ds.length = 3) (oc : cs.toArray.all (·.oneCell') = true) (od : ds.toArray.all (·.oneCell') = true) : ∃ W8 W9 : World,
    (∀ (ops : Array Oper) (rest : List Oper) (op : Oper) (a : Act) (Q : Exit → Act → World → Prop), op.guard = none → op.op = .store 68 (.tmp 4) (.tmp t1) → a.eval (.tmp 4) = .pointer (some ⟨H + 1, 0, none⟩) → a.eval (.tmp t1) = .agg cs.toArray → wpList Tryz.prog ops Q rest (a.put op.dst undef) W8 → wpList Tryz.prog ops Q (op :: rest) a wr) ∧
    (∀ (ops : Array Oper) (rest : List Oper) (op : Oper) (a : Act) (Q : Exit → Act → World → Prop), op.guard = none → op.op = .store 72 (.tmp 5) (.tmp t2) → a.eval (.tmp 5) = .pointer (some ⟨H + 1 + 1, 0, none⟩) → a.eval (.tmp t2) = .agg ds.toArray → wpList Tryz.prog ops Q rest (a.put op.dst undef) W9 → wpList Tryz.prog ops Q (op :: rest) a W8) ∧
    (∀ j v, cs[j]? = some v → W9.cell? ⟨H + 1, j, none⟩ = some v) ∧ (∀ j v, ds[j]? = some v → W9.cell? ⟨H + 1 + 1, j, none⟩ = some v) ∧ Below w.heap.size w W9 ∧ (∀ b o, b ≠ H + 1 → W8.cell? ⟨b, o, none⟩ = wr.cell? ⟨b, o, none⟩) ∧
    (∀ (op : Oper) (a : Act) (K : Act → World → Prop) (Q : Exit → Act → World → Prop), op.op = .store 68 (.tmp 4) (.tmp t1) → a.eval (.tmp 4) = .pointer (some ⟨H + 1, 0, none⟩) → a.eval (.tmp t1) = .agg cs.toArray → K (a.put op.dst undef) W8 → Oper.wp Tryz.prog op a wr K Q) ∧
    (∀ (op : Oper) (a : Act) (K : Act → World → Prop) (Q : Exit → Act → World → Prop), op.op = .store 72 (.tmp 5) (.tmp t2) → a.eval (.tmp 5) = .pointer (some ⟨H + 1 + 1, 0, none⟩) → a.eval (.tmp t2) = .agg ds.toArray → K (a.put op.dst undef) W9 → Oper.wp Tryz.prog op a W8 K Q) ∧ (∀ b o, b ≠ H + 1 → b ≠ H + 1 + 1 → W9.cell? ⟨b, o, none⟩ = wr.cell? ⟨b, o, none⟩) := by
  obtain ⟨e1, e2, e3, e4, e5⟩ := home_end h hb hH cs ds hc hd
  have z1 : cs.toArray.size = 4 := by simpa using hc
  have z2 : ds.toArray.size = 3 := by simpa using hd
  refine ⟨_, _, fun ops rest op a Q hg ho hx hy hh => wpList_store_mid hg 68 (.tmp 4) (.tmp t1) ho (H + 1) 0 cs.toArray hx hy (by rw [z1]; exact e1) (by rw [z1]; exact ctry_size) oc (by rw [List.toList_toArray]; exact hh), fun ops rest op a Q hg ho hx hy hh => wpList_store_mid hg 72 (.tmp 5) (.tmp t2) ho (H + 1 + 1) 0 ds.toArray hx hy (by rw [z2]; exact e2) (by rw [z2]; exact area_size) od (by rw [List.toList_toArray]; exact hh), e3, e4, e5, fun b o hb => World.cell?_setCells_out (H + 1) cs 0 wr ⟨b, o, none⟩ (fun e _ => absurd e hb), fun op a K Q ho hx hy hh => wp_store_mid 68 (.tmp 4) (.tmp t1) ho (H + 1) 0 cs.toArray hx hy (by rw [z1]; exact e1) (by rw [z1]; exact ctry_size) oc (by rw [List.toList_toArray]; exact hh), fun op a K Q ho hx hy hh => wp_store_mid 72 (.tmp 5) (.tmp t2) ho (H + 1 + 1) 0 ds.toArray hx hy (by rw [z2]; exact e2) (by rw [z2]; exact area_size) od (by rw [List.toList_toArray]; exact hh), fun b o hb hb2 => (World.cell?_setCells_out (H + 1 + 1) ds 0 _ ⟨b, o, none⟩ (fun e _ => absurd e hb2)).trans (World.cell?_setCells_out (H + 1) cs 0 wr ⟨b, o, none⟩ (fun e _ => absurd e hb))⟩

set_option maxRecDepth 100000 in
set_option maxHeartbeats 4000000 in
theorem home_any (w : World) (a : Option Addr) (n cap : Nat) (l : List Ctry) (hr : CtryRow w a n l) (hcap : n ≤ cap) (hne : 1 ≤ n) (code area : List UInt8) : Calls Tryz.prog 89 #[.slice a n cap, .agg #[.string ⟨code.toArray⟩, .string ⟨area.toArray⟩]] w (HomePost (homeC l code area) 8 area w) := by
  have HR := Lib.hid hr
  have HLEN := Lib.hid hr.len
  have hfew := hr.few
  rcases hr.row with h0 | ⟨b, off, rfl, hbl, _⟩
  · omega
  rw [homeC_eq]
  clear hr
  go_enter Tryz.func89, Tryz.ntmps89
  go_wp2_with fail
  have HS : Hid (HomeSet w.heap.size (((w.alloc (.cells #[.string ⟨code.toArray⟩, .string ⟨area.toArray⟩] 29)).alloc (.cells #[.string ⟨#[]⟩, .string ⟨#[]⟩, .string ⟨#[]⟩, .slice none 0 0] 68)).alloc (.cells #[.string ⟨#[]⟩, .int .i64 0, .int .i64 0] 72)) code area) := by
    refine ⟨by go_simp, by go_simp, fun j hj => ?_, fun j hj => ?_, by simp⟩
    · match j, hj with
      | 0, _ | 1, _ | 2, _ | 3, _ => exact ⟨by go_simp, by go_simp⟩
    · match j, hj with
      | 0, _ | 1, _ | 2, _ => exact ⟨by go_simp, by go_simp⟩
  have HB : Hid (Below w.heap.size w (((w.alloc (.cells #[.string ⟨code.toArray⟩, .string ⟨area.toArray⟩] 29)).alloc (.cells #[.string ⟨#[]⟩, .string ⟨#[]⟩, .string ⟨#[]⟩, .slice none 0 0] 68)).alloc (.cells #[.string ⟨#[]⟩, .int .i64 0, .int .i64 0] 72))) := ext_alloc (ext_alloc (ext_alloc (Below.refl _ _)))
  have HX : Hid (∀ W : World, Below (((w.alloc (.cells #[.string ⟨code.toArray⟩, .string ⟨area.toArray⟩] 29)).alloc (.cells #[.string ⟨#[]⟩, .string ⟨#[]⟩, .string ⟨#[]⟩, .slice none 0 0] 68)).alloc (.cells #[.string ⟨#[]⟩, .int .i64 0, .int .i64 0] 72)).heap.size (((w.alloc (.cells #[.string ⟨code.toArray⟩, .string ⟨area.toArray⟩] 29)).alloc (.cells #[.string ⟨#[]⟩, .string ⟨#[]⟩, .string ⟨#[]⟩, .slice none 0 0] 68)).alloc (.cells #[.string ⟨#[]⟩, .int .i64 0, .int .i64 0] 72)) W → Below w.heap.size w W) := fun W h => ext_trans HB.out h
  have HR := Lib.hid (HR.out.below HB.out)
  clear HB
  generalize (World.alloc (World.alloc (World.alloc w _) _) _) = W3 at *
  generalize hHH : w.heap.size = H at HS ⊢
  have HHQ := Lib.hid hHH
  clear hHH hbl
  go_loopw [13] (fun i wr => ∃ k : Nat, k ≤ n ∧ i = .int .i64 k ∧ Hid (∀ j, j < k → homeP code area (l.getD j noCtry) = false) ∧ Hid (HomeSet H wr code area) ∧ Hid (Below W3.heap.size W3 wr)) (fun i _ => n - (intOf i).toNat)
  case atStart => exact ⟨0, Nat.zero_le _, rfl, fun j hj => by omega, HS, Below.refl _ _⟩
  case round =>
    clear HS
    obtain ⟨k, hk, rfl, HN, HS, HB⟩ := hrel
    by_cases hlt : k < n
    · have hRw := HR.out.below HB.out
      rcases hRw.row with h0 | ⟨b9, off9, ha9, hb9, hcl⟩
      · omega
      injection ha9 with ha9
      injection ha9 with e1 e2
      subst e1 e2
      have k0 := hcl k hlt 0 (by omega)
      have k1 := hcl k hlt 1 (by omega)
      have k2 := hcl k hlt 2 (by omega)
      have k3 := hcl k hlt 3 (by omega)
      have hkl : k < l.length := by have := HLEN.out; omega
      have HFI := Lib.hid (hRw.each k hkl)
      have HFIND : Hid (∀ c, l.getD k noCtry = c → homeP code area c = true → l.find? (homeP code area) = some c) := fun c hc hp => by rw [← hc]; exact find_at _ noCtry l k hkl HN.out (by rw [hc]; exact hp)
      have HNEXT : Hid (∀ c, l.getD k noCtry = c → homeP code area c = false → ∀ j, j < k + 1 → homeP code area (l.getD j noCtry) = false) := fun c hc hp j hj => by
        by_cases h : j < k
        · exact HN.out j h
        · obtain rfl : j = k := by omega
          rw [hc]; exact hp
      clear hcl hRw
      generalize hcc : l.getD k noCtry = c at k0 k1 k2 k3 HFI
      have HCC := Lib.hid hcc
      clear hcc
      obtain ⟨code2, abroad, trunk, aa, an, ac, areas⟩ := c
      simp only [Ctry.cells, List.getElem?_cons_zero, List.getElem?_cons_succ, Nat.add_zero] at k0 k1 k2 k3
      have s0 := HS.out.h0
      have s1 := HS.out.h1
      have hlt4 : H < wr.heap.size := by have := HS.out.size; omega
      have HS2 : Hid (HomeSet H (wr.alloc (.cells #[.string ⟨code2.toArray⟩, .string ⟨abroad.toArray⟩, .string ⟨trunk.toArray⟩, .slice aa an ac] 68)) code area) := HS.out.below (ext_alloc (Below.refl _ _))
      by_cases hcode : code2 = code
      · subst hcode
        by_cases harea : area = []
        · subst harea
          have HF : Hid (l.find? (homeP code2 []) = some ⟨code2, abroad, trunk, aa, an, ac, areas⟩) := HFIND.out _ HCC.out (by simp [homeP])
          obtain ⟨W8, W9, hd1, hd2, he1, he2, he3, -, -, -, -⟩ := home_stores HS2.out (HX.out _ (ext_alloc HB.out)) (Nat.le_of_eq HHQ.out) 25 26  [.string ⟨code2.toArray⟩, .string ⟨abroad.toArray⟩, .string ⟨trunk.toArray⟩, .slice aa an ac] [.string ⟨#[]⟩, .int .i64 0, .int .i64 0] rfl rfl (by simp [Value.oneCell']) (by simp [Value.oneCell'])
          have HD1 := Lib.hid hd1
          have HD2 := Lib.hid hd2
          have HE := Lib.hid (And.intro he1 (And.intro he2 he3))
          clear hd1 hd2 he1 he2 he3
          as_aux_lemma =>
            go_wp2_with (first | (refine HD1.out _ _ _ _ _ (by rfl) (by rfl) (by rfl) (by rfl) ?_) | (refine HD2.out _ _ _ _ _ (by rfl) (by rfl) (by rfl) (by rfl) ?_))
            refine bodyPost_ret (?_ : _ = Result.ok (.tuple #[.agg #[.string ⟨code2.toArray⟩, .string ⟨abroad.toArray⟩, .string ⟨trunk.toArray⟩, .slice aa an ac], .agg #[.string ⟨#[]⟩, .int .i64 0, .int .i64 0], .int .i64 0]) _) rfl ?_
            · exact results_cell3 (t := 4) (t2 := 5) (u := 6) (by rfl) _ _ _ Tryz.isAgg68 Tryz.sizeOf68 (by rfl) Tryz.isAgg72 Tryz.sizeOf72 (by rfl) [.string ⟨code2.toArray⟩, .string ⟨abroad.toArray⟩, .string ⟨trunk.toArray⟩, .slice aa an ac] rfl HE.out.1 [.string ⟨#[]⟩, .int .i64 0, .int .i64 0] rfl HE.out.2.1
            exact ⟨⟨_, Or.inl ⟨HF.out, rfl⟩⟩, HE.out.2.2⟩
        · have hne2 : area.isEmpty = false := by
            cases area with
            | nil => exact absurd rfl harea
            | cons x xs => rfl
          have HAE := Lib.hid harea
          clear harea
          have HRWA : Hid (∀ W, Below wr.heap.size wr W → AreaRow W aa an areas) := fun W h => (HFI.out.row.below h)
          have hman : an ≤ 1000 := HFI.out.many
          have HWA : Hid (Below wr.heap.size wr (wr.alloc (.cells #[.string ⟨code2.toArray⟩, .string ⟨abroad.toArray⟩, .string ⟨trunk.toArray⟩, .slice aa an ac] 68))) := ext_alloc (Below.refl _ _)
          have b0 : (wr.alloc (.cells #[.string ⟨code2.toArray⟩, .string ⟨abroad.toArray⟩, .string ⟨trunk.toArray⟩, .slice aa an ac] 68)).cell? ⟨wr.heap.size, 0, none⟩ = some (.string ⟨code2.toArray⟩) := by go_simp
          have b1 : (wr.alloc (.cells #[.string ⟨code2.toArray⟩, .string ⟨abroad.toArray⟩, .string ⟨trunk.toArray⟩, .slice aa an ac] 68)).cell? ⟨wr.heap.size, 1, none⟩ = some (.string ⟨abroad.toArray⟩) := by go_simp
          have b2 : (wr.alloc (.cells #[.string ⟨code2.toArray⟩, .string ⟨abroad.toArray⟩, .string ⟨trunk.toArray⟩, .slice aa an ac] 68)).cell? ⟨wr.heap.size, 2, none⟩ = some (.string ⟨trunk.toArray⟩) := by go_simp
          have b3 : (wr.alloc (.cells #[.string ⟨code2.toArray⟩, .string ⟨abroad.toArray⟩, .string ⟨trunk.toArray⟩, .slice aa an ac] 68)).cell? ⟨wr.heap.size, 3, none⟩ = some (.slice aa an ac) := by go_simp
          have hGs : wr.heap.size < (wr.alloc (.cells #[.string ⟨code2.toArray⟩, .string ⟨abroad.toArray⟩, .string ⟨trunk.toArray⟩, .slice aa an ac] 68)).heap.size := by simp
          as_aux_lemma =>
            go_wp2_with fail
            generalize World.alloc wr _ = WA at HS2 HWA b0 b1 b2 b3 hGs ⊢
            have HBA : Hid (∀ W, Below WA.heap.size WA W → Below W3.heap.size W3 W) := fun W h => ext_trans (ext_trans HB.out HWA.out) h
            have HRWB : Hid (∀ W, Below WA.heap.size WA W → AreaRow W aa an areas) := fun W h => HRWA.out W (ext_trans HWA.out h)
            have hGH : H < wr.heap.size := hlt4
            have HG3 : Hid (H + 3 ≤ wr.heap.size) := HS.out.size
            clear k0 k1 k2 k3 s0 s1 HS HB HRWA HWA hlt4
            generalize wr.heap.size = G at *
            go_loopw [30] (fun i wr => ∃ q : Nat, q ≤ an ∧ i = .int .i64 q ∧ Hid (∀ j, j < q → ((areas.getD j noArea).pre == area) = false) ∧ Hid (HomeSet H wr code2 area) ∧ Hid (Below WA.heap.size WA wr)) (fun i _ => an - (intOf i).toNat)
            case atStart => exact ⟨0, Nat.zero_le _, rfl, fun j hj => by omega, HS2, Below.refl _ _⟩
            case round =>
              obtain ⟨q, hq, rfl, HNQ, HSQ, HBQ⟩ := hrel
              have g0 := (HBQ.out.cell (p := ⟨G, 0, none⟩) hGs).trans b0
              have g1 := (HBQ.out.cell (p := ⟨G, 1, none⟩) hGs).trans b1
              have g2 := (HBQ.out.cell (p := ⟨G, 2, none⟩) hGs).trans b2
              have g3 := (HBQ.out.cell (p := ⟨G, 3, none⟩) hGs).trans b3
              have hGq : G < wr.heap.size := Nat.lt_of_lt_of_le hGs HBQ.out.size
              have hHq : H < wr.heap.size := by omega
              have s0 := HSQ.out.h0
              have s1 := HSQ.out.h1
              by_cases hql : q < an
              · have hrow := HRWB.out wr HBQ.out
                rcases hrow.row with h0 | ⟨ab, ao, rfl, hab, hac⟩
                · omega
                have a0 := hac q hql 0 (by omega)
                have a1 := hac q hql 1 (by omega)
                have a2 := hac q hql 2 (by omega)
                have hqa : q < areas.length := by have := hrow.len; omega
                have HXF : Hid (∀ x, areas.getD q noArea = x → (x.pre == area) = true → homeX ⟨code2, abroad, trunk, some ⟨ab, ao, none⟩, an, ac, areas⟩ area = x ∧ homeP code2 area ⟨code2, abroad, trunk, some ⟨ab, ao, none⟩, an, ac, areas⟩ = true) := fun x hx hp => by
                  have hf := find_at (fun a : Area => a.pre == area) noArea areas q hqa HNQ.out (by rw [hx]; exact hp)
                  refine ⟨by unfold homeX; rw [if_neg HAE.out]; simp only [hf]; exact hx, ?_⟩
                  have hany : (areas.any fun a => a.pre == area) = true := List.any_eq_true.2 ⟨_, List.mem_of_find?_eq_some hf, by rw [hx]; exact hp⟩
                  simp [homeP, hany]
                have HNX : Hid (∀ x, areas.getD q noArea = x → (x.pre == area) = false → ∀ j, j < q + 1 → ((areas.getD j noArea).pre == area) = false) := fun x hx hp j hj => by
                  by_cases h : j < q
                  · exact HNQ.out j h
                  · obtain rfl : j = q := by omega
                    rw [hx]; exact hp
                clear hac hrow
                generalize hxx : areas.getD q noArea = x at a0 a1 a2
                have HXX := Lib.hid hxx
                clear hxx
                obtain ⟨xp, xl, xh⟩ := x
                simp only [Area.cells, List.getElem?_cons_zero, List.getElem?_cons_succ, Nat.add_zero] at a0 a1 a2
                have HS5 : Hid (HomeSet H (wr.alloc (.cells #[.string ⟨xp.toArray⟩, .int .i64 xl, .int .i64 xh] 72)) code2 area) := HSQ.out.below (ext_alloc (Below.refl _ _))
                by_cases hx : xp = area
                · subst hx
                  obtain ⟨hX, hP⟩ := HXF.out _ HXX.out (by simp)
                  have HF : Hid (l.find? (homeP code2 xp) = some ⟨code2, abroad, trunk, some ⟨ab, ao, none⟩, an, ac, areas⟩) := HFIND.out _ HCC.out hP
                  have HXE := Lib.hid hX
                  have hsz := HSQ.out.size
                  obtain ⟨W8, W9, -, -, he1, he2, he3, he0, hf1, hf2, he9⟩ := home_stores (HS5.out.below (ext_drew (Below.refl _ _))) (HX.out _ (HBA.out _ (ext_drew (ext_alloc HBQ.out)))) (Nat.le_of_eq HHQ.out) 39 40 [.string ⟨code2.toArray⟩, .string ⟨abroad.toArray⟩, .string ⟨trunk.toArray⟩, .slice (some ⟨ab, ao, none⟩) an ac] [.string ⟨xp.toArray⟩, .int .i64 xl, .int .i64 xh] rfl rfl (by simp [Value.oneCell']) (by simp [Value.oneCell'])
                  have hS0 : (fun W => W.cell? ⟨G, 0, none⟩ = some (.string ⟨code2.toArray⟩) ∧ W.cell? ⟨G, 1, none⟩ = some (.string ⟨abroad.toArray⟩) ∧ W.cell? ⟨G, 2, none⟩ = some (.string ⟨trunk.toArray⟩) ∧ W.cell? ⟨G, 3, none⟩ = some (.slice (some ⟨ab, ao, none⟩) an ac) ∧ W.cell? ⟨wr.heap.size, 0, none⟩ = some (.string ⟨xp.toArray⟩) ∧ W.cell? ⟨wr.heap.size, 1, none⟩ = some (.int .i64 xl) ∧ W.cell? ⟨wr.heap.size, 2, none⟩ = some (.int .i64 xh)) ((wr.alloc (.cells #[.string ⟨xp.toArray⟩, .int .i64 xl, .int .i64 xh] 72)).drew) := ⟨by go_simp, by go_simp, by go_simp, by go_simp, by go_simp, by go_simp, by go_simp⟩
                  have hGn : G ≠ H + 1 ∧ G ≠ H + 1 + 1 := by have := HG3.out; omega
                  have hS8 : (fun W => W.cell? ⟨G, 0, none⟩ = some (.string ⟨code2.toArray⟩) ∧ W.cell? ⟨G, 1, none⟩ = some (.string ⟨abroad.toArray⟩) ∧ W.cell? ⟨G, 2, none⟩ = some (.string ⟨trunk.toArray⟩) ∧ W.cell? ⟨G, 3, none⟩ = some (.slice (some ⟨ab, ao, none⟩) an ac) ∧ W.cell? ⟨wr.heap.size, 0, none⟩ = some (.string ⟨xp.toArray⟩) ∧ W.cell? ⟨wr.heap.size, 1, none⟩ = some (.int .i64 xl) ∧ W.cell? ⟨wr.heap.size, 2, none⟩ = some (.int .i64 xh)) W8 := by
                    obtain ⟨m0, m1, m2, m3, m4, m5, m6⟩ := hS0
                    exact ⟨(he0 _ _ hGn.1).trans m0, (he0 _ _ hGn.1).trans m1, (he0 _ _ hGn.1).trans m2, (he0 _ _ hGn.1).trans m3, (he0 _ _ (by omega)).trans m4, (he0 _ _ (by omega)).trans m5, (he0 _ _ (by omega)).trans m6⟩
                  have hS9 : (fun W => W.cell? ⟨G, 0, none⟩ = some (.string ⟨code2.toArray⟩) ∧ W.cell? ⟨G, 1, none⟩ = some (.string ⟨abroad.toArray⟩) ∧ W.cell? ⟨G, 2, none⟩ = some (.string ⟨trunk.toArray⟩) ∧ W.cell? ⟨G, 3, none⟩ = some (.slice (some ⟨ab, ao, none⟩) an ac) ∧ W.cell? ⟨wr.heap.size, 0, none⟩ = some (.string ⟨xp.toArray⟩) ∧ W.cell? ⟨wr.heap.size, 1, none⟩ = some (.int .i64 xl) ∧ W.cell? ⟨wr.heap.size, 2, none⟩ = some (.int .i64 xh)) W9 := by
                    obtain ⟨m0, m1, m2, m3, m4, m5, m6⟩ := hS0
                    exact ⟨(he9 _ _ hGn.1 hGn.2).trans m0, (he9 _ _ hGn.1 hGn.2).trans m1, (he9 _ _ hGn.1 hGn.2).trans m2, (he9 _ _ hGn.1 hGn.2).trans m3, (he9 _ _ (by omega) (by omega)).trans m4, (he9 _ _ (by omega) (by omega)).trans m5, (he9 _ _ (by omega) (by omega)).trans m6⟩
                  have HD1 := Lib.hid hf1
                  have HD2 := Lib.hid hf2
                  have HS0 := Lib.hid hS0
                  have HS8 := Lib.hid hS8
                  have HS9 := Lib.hid hS9
                  have HE := Lib.hid (And.intro he1 (And.intro he2 he3))
                  clear he1 he2 he3 he0 hf1 hf2 hsz hX hP hS0 hS8 hS9 he9
                  as_aux_lemma =>
                    go_upto_region 11 with (fail)
                    refine region_seqI (S := fun W => W.cell? ⟨G, 0, none⟩ = some (.string ⟨code2.toArray⟩) ∧ W.cell? ⟨G, 1, none⟩ = some (.string ⟨abroad.toArray⟩) ∧ W.cell? ⟨G, 2, none⟩ = some (.string ⟨trunk.toArray⟩) ∧ W.cell? ⟨G, 3, none⟩ = some (.slice (some ⟨ab, ao, none⟩) an ac) ∧ W.cell? ⟨wr.heap.size, 0, none⟩ = some (.string ⟨xp.toArray⟩) ∧ W.cell? ⟨wr.heap.size, 1, none⟩ = some (.int .i64 xl) ∧ W.cell? ⟨wr.heap.size, 2, none⟩ = some (.int .i64 xh)) [(true, 0), (true, 1), (false, 2), (false, 3), (true, 4)] (by kernel_rfl) (by kernel_rfl) rfl (by kernel_rfl) HS0.out ?_
                    simp only [seqOps, List.getD_cons_zero, List.getD_cons_succ]
                    refine seqI_take (v := .agg #[.string ⟨code2.toArray⟩, .string ⟨abroad.toArray⟩, .string ⟨trunk.toArray⟩, .slice (some ⟨ab, ao, none⟩) an ac]) rfl (fun W hW => by obtain ⟨m0, m1, m2, m3, m4, m5, m6⟩ := hW; go_simp) (fun _ _ _ h => h) ?_
                    simp only [Act.put, List.setIfInBounds_toArray, List.set_cons_zero, List.set_cons_succ]
                    refine seqI_take (v := .agg #[.string ⟨xp.toArray⟩, .int .i64 xl, .int .i64 xh]) rfl (fun W hW => by obtain ⟨m0, m1, m2, m3, m4, m5, m6⟩ := hW; go_simp) (fun _ _ _ h => h) ?_
                    simp only [Act.put, List.setIfInBounds_toArray, List.set_cons_zero, List.set_cons_succ]
                    refine seqI_do rfl (HD1.out _ _ _ _ (by rfl) (by rfl) (by rfl) ⟨HS8.out, ?_⟩)
                    simp only [Act.put, List.setIfInBounds_toArray, List.set_cons_zero, List.set_cons_succ]
                    refine seqI_do rfl (HD2.out _ _ _ _ (by rfl) (by rfl) (by rfl) ⟨HS9.out, ?_⟩)
                    simp only [Act.put, List.setIfInBounds_toArray, List.set_cons_zero, List.set_cons_succ]
                    refine seqI_take (v := .int .i64 0) rfl (fun W hW => by clear hW; go_simp) (fun _ _ _ h => h) ?_
                    simp only [Act.put, List.setIfInBounds_toArray, List.set_cons_zero, List.set_cons_succ]
                    refine seqI_nil ?_
                    clear HS0 HS8 HS9 HD1 HD2
                    go_wp2_with fail
                    refine bodyPost_ret (?_ : _ = Result.ok (.tuple #[.agg #[.string ⟨code2.toArray⟩, .string ⟨abroad.toArray⟩, .string ⟨trunk.toArray⟩, .slice (some ⟨ab, ao, none⟩) an ac], .agg #[.string ⟨xp.toArray⟩, .int .i64 xl, .int .i64 xh], .int .i64 0]) _) rfl ?_
                    · exact results_cell3 (t := 4) (t2 := 5) (u := 6) (by rfl) _ _ _ Tryz.isAgg68 Tryz.sizeOf68 (by rfl) Tryz.isAgg72 Tryz.sizeOf72 (by rfl) [.string ⟨code2.toArray⟩, .string ⟨abroad.toArray⟩, .string ⟨trunk.toArray⟩, .slice (some ⟨ab, ao, none⟩) an ac] rfl HE.out.1 [.string ⟨xp.toArray⟩, .int .i64 xl, .int .i64 xh] rfl HE.out.2.1
                    exact ⟨⟨_, Or.inl ⟨HF.out, by rw [HXE.out]; rfl⟩⟩, HE.out.2.2⟩
                · have hne2' : (xp == area) = false := by simpa using hx
                  have HNX2 := Lib.hid (HNX.out _ HXX.out hne2')
                  as_aux_lemma =>
                    go_wp2_with fail
                    go_roundw
                    case rel => exact ⟨q + 1, by omega, by go_num, HNX2, HS5, ext_alloc HBQ.out⟩
                    case measure => simp [intOf]; omega
              · obtain rfl : q = an := by omega
                have HALL : Hid (∀ j, j < k + 1 → homeP code2 area (l.getD j noCtry) = false) := HNEXT.out _ HCC.out (by
                  have hlen : q = areas.length := (HRWB.out wr HBQ.out).len
                  have hany : (areas.any fun a => a.pre == area) = false := by
                    rw [List.any_eq_false]
                    intro y hy
                    obtain ⟨i, hi, rfl⟩ := List.getElem_of_mem hy
                    have := HNQ.out i (by omega)
                    simpa [hi] using this
                  have he : (area == []) = false := by
                    cases area with
                    | nil => exact absurd rfl HAE.out
                    | cons _ _ => rfl
                  simp [homeP, hany, he])
                as_aux_lemma =>
                  go_wp2_with fail
                  go_roundw
                  case rel => exact ⟨k + 1, by omega, by go_num, HALL, HSQ, HBA.out _ HBQ.out⟩
                  case measure => simp [intOf]; omega
      · have hne2 : (code2 == code) = false := by simpa using hcode
        have HNX := Lib.hid (HNEXT.out _ HCC.out (by unfold homeP; simp only [hne2, Bool.false_and]))
        have hne3 : ¬ (code2 = code) := hcode
        as_aux_lemma =>
          go_wp2_with fail
          go_roundw
          case rel => exact ⟨k + 1, by omega, by go_num, HNX, HS2, ext_alloc HB.out⟩
          case measure => simp [intOf]; omega
    · obtain rfl : k = n := by omega
      have HF : Hid (l.find? (homeP code area) = none) := by
        show _ = _
        rw [List.find?_eq_none]
        intro x hx
        obtain ⟨i, hi, rfl⟩ := List.getElem_of_mem hx
        have := HN.out i (by rw [HLEN.out]; exact hi)
        simpa [hi] using this
      obtain ⟨W8, W9, hd1, hd2, he1, he2, he3, -, -, -, -⟩ := home_stores HS.out (HX.out _ HB.out) (Nat.le_of_eq HHQ.out) 43 44  [.string ⟨#[]⟩, .string ⟨#[]⟩, .string ⟨#[]⟩, .slice none 0 0] [.string ⟨#[]⟩, .int .i64 0, .int .i64 0] rfl rfl (by simp [Value.oneCell']) (by simp [Value.oneCell'])
      have HD1 := Lib.hid hd1
      have HD2 := Lib.hid hd2
      have HE := Lib.hid (And.intro he1 (And.intro he2 he3))
      clear hd1 hd2 he1 he2 he3
      as_aux_lemma =>
        go_wp2_with (first | (refine HD1.out _ _ _ _ _ (by rfl) (by rfl) (by rfl) (by rfl) ?_) | (refine HD2.out _ _ _ _ _ (by rfl) (by rfl) (by rfl) (by rfl) ?_))
        refine bodyPost_ret (?_ : _ = Result.ok (.tuple #[.agg #[.string ⟨#[]⟩, .string ⟨#[]⟩, .string ⟨#[]⟩, .slice none 0 0], .agg #[.string ⟨#[]⟩, .int .i64 0, .int .i64 0], .int .i64 8]) _) rfl ?_
        · exact results_cell3 (t := 4) (t2 := 5) (u := 6) (by rfl) _ _ _ Tryz.isAgg68 Tryz.sizeOf68 (by rfl) Tryz.isAgg72 Tryz.sizeOf72 (by rfl) [.string ⟨#[]⟩, .string ⟨#[]⟩, .string ⟨#[]⟩, .slice none 0 0] rfl HE.out.1 [.string ⟨#[]⟩, .int .i64 0, .int .i64 0] rfl HE.out.2.1
        exact ⟨⟨noCtry, Or.inr ⟨HF.out, rfl⟩⟩, HE.out.2.2⟩
end Go.Proofs.YthajppcmmmkfcaaGreatDoor
