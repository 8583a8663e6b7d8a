/- What is proved here: lemmas and contracts for the statement, put together out of smaller texts (ProgBases, ProgLong, ProgTop, ProgFrom, Changed, FormRef, HomeFlt, HomeDraw). No condition beyond those stated. -/
import Derived.Test.YthajppcmmmkfcaaGreatDoorDpPkF
import Derived.Test.YthajppcmmmkfcaaGreatDoorDpPkC
import Derived.Test.YthajppcmmmkfcaaGreatDoorShelfRep
import Derived.Deep.DeepCutAuto
import Derived.Test.YthajppcmmmkfcaaGreatDoorDpPkA
import Derived.Laws.Runes
import Derived.Deep.QuietTactic
import Derived.BigQuiet
import Derived.IntWalk
import Derived.Test.YthajppcmmmkfcaaGreatDoorDpPkE
import Derived.Test.YthajppcmmmkfcaaGreatDoorDpPkD
set_option linter.unusedVariables false
set_option linter.unusedSimpArgs false
namespace Go.Proofs.YthajppcmmmkfcaaGreatDoor
open Go.RowKit

theorem own_other {w : World} {base e t size : Nat} {v : Value} {n K : Nat} {xs : List Value} {cs : Array Value} {p : Nat × Nat} (h : w.ownsRow base e size v n xs) (hK : w.heap[K]? = some (.cells cs t p)) (hne : t ≠ e) : v.ownBlock ≠ some K := by
  rcases h.2 with ⟨rfl, _⟩ | ⟨g, cap, cur, rfl, _, hg, _⟩
  · exact fun h => by cases h
  · intro h
    injection h with h
    subst h
    rw [hg] at hK
    injection hK with hK
    injection hK with _ hK
    exact hne hK.symm
theorem flat_snoc {α β : Type} (f : α → List β) (l : List α) (d : α) {z : Nat} (hz : z < l.length) : (l.take (z + 1)).flatMap f = (l.take z).flatMap f ++ f (l.getD z d) := by
  rw [List.take_add_one, List.getElem?_eq_getElem hz, List.flatMap_append, show l.getD z d = l[z] by simp [hz]]
  simp

theorem grown_block {w w' : World} {row : Option Nat} {k : Nat} {o : Obj} (h : w.grownBy w' row) (hk : w.heap[k]? = some o) (hne : row ≠ some k) : w'.heap[k]? = some o :=
  (h.block k (Array.getElem?_eq_some_iff.1 hk).1 (fun e => hne e.symm)).trans hk
theorem heap_two {w : World} {A B o : Obj} {k : Nat} (h : w.heap[k]? = some o) : ((w.alloc A).alloc B).heap[k]? = some o := by
  have hk := (Array.getElem?_eq_some_iff.1 h).1
  rw [Below.heap_alloc _ _ _ (by simp; omega), Below.heap_alloc _ _ _ hk]
  exact h
theorem heap_one {w : World} {A o : Obj} {k : Nat} (h : w.heap[k]? = some o) : (w.alloc A).heap[k]? = some o := by
  rw [Below.heap_alloc _ _ _ (Array.getElem?_eq_some_iff.1 h).1]
  exact h
theorem heap_mid (w : World) (A B : Obj) : ((w.alloc A).alloc B).heap[w.heap.size]? = some A := by
  rw [Below.heap_alloc _ _ _ (by simp)]
  exact heap_alloc_new _ _

set_option maxRecDepth 100000 in
set_option maxHeartbeats 8000000 in
theorem bases_any (w : World) (a : Option Addr) (n cap : Nat) (l : List Ctry) (hr : CtryRow w a n l) (hcap : n ≤ cap) (hne : 1 ≤ n) (c : Ctry) (code0 area : List UInt8) (hfc : (l.find? fun c => c.code == code0) = some c) :
    Calls Tryz.prog 60 #[.slice a n cap, .agg #[.string ⟨code0.toArray⟩, .string ⟨area.toArray⟩]] w fun e w' => ∃ v, e = .returned v ∧ w'.ownsRow w.heap.size 9 1 v (basesL l c).length ((basesL l c).map encS) ∧ Below w.heap.size w w' := by
  have hfew := hr.few
  have HLEN := Lib.hid hr.len
  have HR := Lib.hid hr
  have HFC := Lib.hid hfc
  obtain ⟨b, off, rfl, hb, _⟩ := ctry_at hr hne
  have hcl := ctry_len hr hfc
  have HBD : Hid (basesL l c = [] :: l.flatMap fun o => o.areas.flatMap (baseF c o)) := rfl
  generalize basesL l c = BL at HBD ⊢
  obtain ⟨i0, hi, hz0, hz1, hz2⟩ := info_parts Tryz.infoStr
  clear hr hfc
  go_enter Tryz.func60, Tryz.ntmps60
  go_wp2_with fail
  refine (countryAt_any _ _ n cap l (HR.out.below (ext_alloc (Below.refl _ _))) hne code0).mono ?_
  rintro e w2 ⟨r, rfl, hcase, hb2⟩
  have HB2 : Hid (Below w.heap.size w w2) := ext_trans (ext_alloc (Below.refl _ _)) hb2
  clear hb2
  rcases hcase with ⟨rfl, hnone⟩ | ⟨k, rfl, hk, hsome⟩
  · rw [HFC.out] at hnone; cases hnone
  · have hck : l.getD k noCtry = c := by rw [HFC.out] at hsome; injection hsome with h; exact h.symm
    have hRw := HR.out.below HB2.out
    obtain ⟨b9, off9, ha9, hb9, hcl9⟩ := ctry_at hRw hne
    injection ha9 with ha9
    injection ha9 with x1 x2
    subst x1 x2
    have hkn : k < n := by have := HLEN.out; omega
    have k0 := hcl9 k hkn 0 (by omega)
    have k1 := hcl9 k hkn 1 (by omega)
    have k2 := hcl9 k hkn 2 (by omega)
    have k3 := hcl9 k hkn 3 (by omega)
    rw [hck] at k0 k1 k2 k3
    clear hcl9 hsome hck hRw
    obtain ⟨code, abroad, trunk, aa, an, ac, areas⟩ := c
    obtain ⟨g1, g2, g3⟩ := hcl
    simp only at g1 g2 g3
    simp only [Ctry.cells, List.getElem?_cons_zero, List.getElem?_cons_succ, Nat.add_zero] at k0 k1 k2 k3
    have hb2' : b < w2.heap.size := hb9
    have hzz : w.heap.size ≤ w2.heap.size := HB2.out.size
    as_aux_lemma =>
      go_wp2_with fail
      have HB9 : Hid (Below w.heap.size w ((w2.alloc (.cells #[.string ⟨code.toArray⟩, .string ⟨abroad.toArray⟩, .string ⟨trunk.toArray⟩, .slice aa an ac] 68)).alloc (.cells #[.string ⟨#[]⟩] 9))) := ext_alloc (ext_alloc HB2.out)
      have HC9 : Hid (((w2.alloc (.cells #[.string ⟨code.toArray⟩, .string ⟨abroad.toArray⟩, .string ⟨trunk.toArray⟩, .slice aa an ac] 68)).alloc (.cells #[.string ⟨#[]⟩] 9)).heap[w2.heap.size]? = some (.cells #[.string ⟨code.toArray⟩, .string ⟨abroad.toArray⟩, .string ⟨trunk.toArray⟩, .slice aa an ac] 68)) := by
        show _ = _
        rw [Below.heap_alloc _ _ _ (by simp)]
        exact heap_alloc_new _ _
      have HO9 : Hid (((w2.alloc (.cells #[.string ⟨code.toArray⟩, .string ⟨abroad.toArray⟩, .string ⟨trunk.toArray⟩, .slice aa an ac] 68)).alloc (.cells #[.string ⟨#[]⟩] 9)).ownsRow w.heap.size 9 1 (.slice (some ⟨w2.heap.size + 1, 0, none⟩) 1 1) ([[]] : List (List UInt8)).length (([[]] : List (List UInt8)).map encS)) := by
        have := own_lit1 (w2.alloc (.cells #[.string ⟨code.toArray⟩, .string ⟨abroad.toArray⟩, .string ⟨trunk.toArray⟩, .slice aa an ac] 68)) [] w.heap.size (by simp; omega)
        rw [show (w2.alloc (.cells #[.string ⟨code.toArray⟩, .string ⟨abroad.toArray⟩, .string ⟨trunk.toArray⟩, .slice aa an ac] 68)).heap.size = w2.heap.size + 1 by simp] at this
        exact this
      have HCl : Hid (w2.heap.size < ((w2.alloc (.cells #[.string ⟨code.toArray⟩, .string ⟨abroad.toArray⟩, .string ⟨trunk.toArray⟩, .slice aa an ac] 68)).alloc (.cells #[.string ⟨#[]⟩] 9)).heap.size) := by show _ < _; simp; omega
      generalize (World.alloc (w2.alloc _) _) = W9 at HB9 HC9 HO9 HCl ⊢
      generalize w2.heap.size + 1 = B9 at HO9 ⊢
      generalize w2.heap.size = C at HC9 HCl ⊢
      clear k0 k1 k2 k3 HB2 hzz hb2'
      go_loopw [6, 21] (fun v i wr => ∃ (k : Nat) (out : List (List UInt8)), k ≤ n ∧ i = .int .i64 k ∧ out.length ≤ 1 + 2000 * k ∧ Hid (out = [] :: (l.take k).flatMap fun o => o.areas.flatMap (baseF ⟨code, abroad, trunk, aa, an, ac, areas⟩ o)) ∧ Hid (wr.ownsRow w.heap.size 9 1 v out.length (out.map encS)) ∧ Hid (wr.heap[C]? = some (.cells #[.string ⟨code.toArray⟩, .string ⟨abroad.toArray⟩, .string ⟨trunk.toArray⟩, .slice aa an ac] 68)) ∧ Hid (Below w.heap.size w wr)) (fun _ i _ => n - (intOf i).toNat)
      case atStart => exact ⟨0, [[]], Nat.zero_le _, rfl, by simp, by show _ = _; simp, HO9, HC9, HB9⟩
      case round =>
        obtain ⟨k, out, hk, rfl, hol, HG, HOU, HCC, HB⟩ := hrel
        clear HB9 HC9 HO9 HCl
        by_cases hlt : k < n
        · have hkl : k < l.length := by rw [← HLEN.out]; exact hlt
          have hrw := HR.out.below HB.out
          obtain ⟨b9, off9, ha9, hb9, hc9⟩ := ctry_at hrw hne
          injection ha9 with ha9
          injection ha9 with e1 e2
          subst e1 e2
          have k0 := hc9 k hlt 0 (by omega)
          have k1 := hc9 k hlt 1 (by omega)
          have k2 := hc9 k hlt 2 (by omega)
          have k3 := hc9 k hlt 3 (by omega)
          have HFI := Lib.hid ((HR.out).each k hkl)
          have HFL := Lib.hid (flat_snoc (fun o : Ctry => o.areas.flatMap (baseF ⟨code, abroad, trunk, aa, an, ac, areas⟩ o)) l noCtry hkl)
          clear hc9 hrw
          generalize l.getD k noCtry = ck at k0 k1 k2 k3 HFI HFL
          obtain ⟨kcode, kab, ktr, kaa, kan, kac, kareas⟩ := ck
          simp only [Ctry.cells, List.getElem?_cons_zero, List.getElem?_cons_succ, Nat.add_zero] at k0 k1 k2 k3
          have hkc : kcode.length ≤ 100 := HFI.out.code
          have hkan : kan ≤ 1000 := HFI.out.many
          have HKL : Hid (kan = kareas.length) := HFI.out.row.len
          have hbw : b < wr.heap.size := hb9
          as_aux_lemma =>
            go_wp2_with fail
            have HB1 : Hid (Below w.heap.size w (wr.alloc (.cells #[.string ⟨kcode.toArray⟩, .string ⟨kab.toArray⟩, .string ⟨ktr.toArray⟩, .slice kaa kan kac] 68))) := ext_alloc HB.out
            have HK1 : Hid ((wr.alloc (.cells #[.string ⟨kcode.toArray⟩, .string ⟨kab.toArray⟩, .string ⟨ktr.toArray⟩, .slice kaa kan kac] 68)).heap[wr.heap.size]? = some (.cells #[.string ⟨kcode.toArray⟩, .string ⟨kab.toArray⟩, .string ⟨ktr.toArray⟩, .slice kaa kan kac] 68)) := heap_alloc_new _ _
            have HC1 : Hid ((wr.alloc (.cells #[.string ⟨kcode.toArray⟩, .string ⟨kab.toArray⟩, .string ⟨ktr.toArray⟩, .slice kaa kan kac] 68)).heap[C]? = some (.cells #[.string ⟨code.toArray⟩, .string ⟨abroad.toArray⟩, .string ⟨trunk.toArray⟩, .slice aa an ac] 68)) := by
              show _ = _
              rw [Below.heap_alloc _ _ _ (Array.getElem?_eq_some_iff.1 HCC.out).1]
              exact HCC.out
            have HO1 := Lib.hid (HOU.out.alloc (.cells #[.string ⟨kcode.toArray⟩, .string ⟨kab.toArray⟩, .string ⟨ktr.toArray⟩, .slice kaa kan kac] 68))
            generalize (World.alloc wr _) = W1 at HB1 HK1 HC1 HO1 ⊢
            generalize wr.heap.size = K at HK1 ⊢
            clear k0 k1 k2 k3 hbw HB HCC HOU hb9
            go_loopw [6, 28] (fun v i wr => ∃ (z : Nat) (out2 : List (List UInt8)), z ≤ kan ∧ i = .int .i64 z ∧ out2.length ≤ 1 + 2000 * k + 2 * z ∧ Hid (out2 = out ++ (kareas.take z).flatMap (baseF ⟨code, abroad, trunk, aa, an, ac, areas⟩ ⟨kcode, kab, ktr, kaa, kan, kac, kareas⟩)) ∧ Hid (wr.ownsRow w.heap.size 9 1 v out2.length (out2.map encS)) ∧ Hid (wr.heap[C]? = some (.cells #[.string ⟨code.toArray⟩, .string ⟨abroad.toArray⟩, .string ⟨trunk.toArray⟩, .slice aa an ac] 68)) ∧ Hid (wr.heap[K]? = some (.cells #[.string ⟨kcode.toArray⟩, .string ⟨kab.toArray⟩, .string ⟨ktr.toArray⟩, .slice kaa kan kac] 68)) ∧ Hid (Below w.heap.size w wr)) (fun _ i _ => kan - (intOf i).toNat)
            case atStart => exact ⟨0, out, Nat.zero_le _, rfl, by omega, by show _ = _; simp, HO1, HC1, HK1, HB1⟩
            case round =>
              obtain ⟨z, out2, hz, rfl, hol2, HGZ, HOZ, HCZ, HKZ, HBR⟩ := hrel
              clear HO1 HC1 HK1 HB1
              by_cases hzl : z < kan
              · obtain ⟨b2, o2, rfl, hb2, x0, x1, x2⟩ := area_at2 ((HFI.out.below HBR.out).row) hzl
                have hfx := HFI.out.each z (by have := HKL.out; simp only; omega)
                have HFZ := Lib.hid (flat_snoc (baseF ⟨code, abroad, trunk, aa, an, ac, areas⟩ ⟨kcode, kab, ktr, some ⟨b2, o2, none⟩, kan, kac, kareas⟩) kareas noArea (by have := HKL.out; omega : z < kareas.length))
                simp only at x0 x1 x2 hfx
                generalize kareas.getD z noArea = y at x0 x1 x2 hfx HFZ
                obtain ⟨yp, yl, yh⟩ := y
                have f0 : yp.length ≤ 100 := hfx.pre
                simp only at x0 x1 x2
                have c0 := block_cell HCZ.out 0
                have c1 := block_cell HCZ.out 1
                have c2 := block_cell HCZ.out 2
                have m0 := block_cell HKZ.out 0
                have hCl : C < wr.heap.size := (Array.getElem?_eq_some_iff.1 HCZ.out).1
                have hKl : K < wr.heap.size := (Array.getElem?_eq_some_iff.1 HKZ.out).1
                simp only [List.getElem?_toArray, List.getElem?_cons_zero, List.getElem?_cons_succ] at c0 c1 c2 m0
                have HOA := Lib.hid ((HOZ.out.alloc (.cells #[.string ⟨yp.toArray⟩, .int .i64 yl, .int .i64 yh] 72)).alloc (.cells #[.string ((⟨abroad.toArray⟩ ++ ⟨kcode.toArray⟩ : ByteArray) ++ ⟨yp.toArray⟩)] 9))
                have HRC : Hid (u6.ownBlock ≠ some C) := own_other HOZ.out HCZ.out (by decide)
                have HRK : Hid (u6.ownBlock ≠ some K) := own_other HOZ.out HKZ.out (by decide)
                have HRY : Hid (u6.ownBlock ≠ some wr.heap.size) := fun h => by have := (HOZ.out.lt _ h).2; omega
                have HRB : Hid (∀ b, u6.ownBlock = some b → w.heap.size ≤ b) := fun b e => (HOZ.out.lt b e).1
                have HBA : Hid (Below w.heap.size w (wr.alloc (.cells #[.string ⟨yp.toArray⟩, .int .i64 yl, .int .i64 yh] 72))) := ext_alloc HBR.out
                have HMAP : Hid ((out2.map encS ++ [.string ((⟨abroad.toArray⟩ ++ ⟨kcode.toArray⟩ : ByteArray) ++ ⟨yp.toArray⟩)] : List Value) = (out2 ++ [(abroad ++ kcode) ++ yp]).map encS) := by
                  show _ = _
                  rw [cat_str, cat_str, List.map_append]
                  rfl
                have HMAP2 : Hid (((out2 ++ [(abroad ++ kcode) ++ yp]).map encS ++ [.string (⟨trunk.toArray⟩ ++ ⟨yp.toArray⟩ : ByteArray)] : List Value) = (out2 ++ [(abroad ++ kcode) ++ yp, trunk ++ yp]).map encS) := by
                  show _ = _
                  rw [cat_str, List.map_append, List.map_append]
                  simp [encS]
                have hzk : out2.length ≤ 1 + 2000 * 1000 + 2 * 1000 := by omega
                by_cases hcc : kcode = code
                · have HF : Hid (baseF ⟨code, abroad, trunk, aa, an, ac, areas⟩ ⟨kcode, kab, ktr, some ⟨b2, o2, none⟩, kan, kac, kareas⟩ ⟨yp, yl, yh⟩ = [(abroad ++ kcode) ++ yp, trunk ++ yp]) := by
                    show _ = _
                    unfold baseF
                    simp only
                    rw [if_pos hcc]
                  have hcb : (kcode == code) = true := by simpa using hcc
                  clear hcc
                  as_aux_lemma =>
                    go_wp2_with (first | (at_builtin; refine wpList_append_own _ rfl (.tmp 32) (.tmp 41) 46 rfl w.heap.size 9 i0 (.string ⟨#[]⟩) 1 16 Tryz.underlying46 hi hz0 hz1 hz2 rfl (by decide) _ out2.length _ rfl HOA.out ⟨wr.heap.size + 1, 0, none⟩ 1 1 [.string ((⟨abroad.toArray⟩ ++ ⟨kcode.toArray⟩ : ByteArray) ++ ⟨yp.toArray⟩)] rfl rfl (news_one (by go_simp)) (by simp [Value.oneCell']) (by simp only [maxLen]; omega) (by omega) (by have := HBR.out.size; simp; omega) ?_; intro v6 w6 hown6 hgr6 _; have HC6 := Lib.hid (grown_block hgr6 (heap_two HCZ.out) HRC.out); have HK6 := Lib.hid (grown_block hgr6 (heap_two HKZ.out) HRK.out); have HY6 := Lib.hid (grown_block hgr6 (heap_mid wr (.cells #[.string ⟨yp.toArray⟩, .int .i64 yl, .int .i64 yh] 72) _) HRY.out); have HB6 : Hid (Below w.heap.size w w6) := (HBA.out.trans (upto_grown hgr6 HBA.out.size HRB.out)); have HO6 : Hid (w6.ownsRow w.heap.size 9 1 v6 (out2 ++ [(abroad ++ kcode) ++ yp]).length ((out2 ++ [(abroad ++ kcode) ++ yp]).map encS)) := (by rw [HMAP.out] at hown6; rw [List.length_append]; exact hown6); clear hown6 hgr6 c0 c1 c2 m0 hCl hKl; have c0 := block_cell HC6.out 0; have c2 := block_cell HC6.out 2; have m0 := block_cell HK6.out 0; have y0 := block_cell HY6.out 0; have hCl : C < w6.heap.size := (Array.getElem?_eq_some_iff.1 HC6.out).1; have hKl : K < w6.heap.size := (Array.getElem?_eq_some_iff.1 HK6.out).1; have hYl : wr.heap.size < w6.heap.size := (Array.getElem?_eq_some_iff.1 HY6.out).1; simp only [List.getElem?_toArray, List.getElem?_cons_zero, List.getElem?_cons_succ] at c0 c2 m0 y0) | (at_builtin; refine wpList_append_own _ rfl (.tmp 48) (.tmp 54) 46 rfl w.heap.size 9 i0 (.string ⟨#[]⟩) 1 16 Tryz.underlying46 hi hz0 hz1 hz2 rfl (by decide) _ (out2 ++ [(abroad ++ kcode) ++ yp]).length _ rfl (HO6.out.alloc (.cells #[.string (⟨trunk.toArray⟩ ++ ⟨yp.toArray⟩ : ByteArray)] 9)) ⟨w6.heap.size, 0, none⟩ 1 1 [.string (⟨trunk.toArray⟩ ++ ⟨yp.toArray⟩ : ByteArray)] rfl rfl (news_one (by go_simp)) (by simp [Value.oneCell']) (by simp only [maxLen, List.length_append, List.length_cons, List.length_nil]; omega) (by simp only [List.length_append, List.length_cons, List.length_nil]; omega) (by have := HB6.out.size; simp; omega) ?_; intro v9 w9 hown9 hgr9 _; have HC9 := Lib.hid (grown_block hgr9 (heap_one HC6.out) (own_other HO6.out HC6.out (by decide))); have HK9 := Lib.hid (grown_block hgr9 (heap_one HK6.out) (own_other HO6.out HK6.out (by decide))); have HB9 : Hid (Below w.heap.size w w9) := (HB6.out.trans (upto_grown hgr9 HB6.out.size (fun b e => (HO6.out.lt b e).1))); have HO9 : Hid (w9.ownsRow w.heap.size 9 1 v9 (out2 ++ [(abroad ++ kcode) ++ yp, trunk ++ yp]).length ((out2 ++ [(abroad ++ kcode) ++ yp, trunk ++ yp]).map encS)) := (by rw [HMAP2.out] at hown9; simp only [List.length_append, List.length_cons, List.length_nil] at hown9 ⊢; exact hown9); clear hown9 hgr9))
                    go_roundw
                    case rel => exact ⟨z + 1, out2 ++ [(abroad ++ kcode) ++ yp, trunk ++ yp], by omega, by go_num, by simp only [List.length_append, List.length_cons, List.length_nil]; omega, by show _ = _; rw [HFZ.out, HF.out, HGZ.out, List.append_assoc], HO9, HC9, HK9, HB9⟩
                    case measure => simp [intOf]; omega
                · have HF : Hid (baseF ⟨code, abroad, trunk, aa, an, ac, areas⟩ ⟨kcode, kab, ktr, some ⟨b2, o2, none⟩, kan, kac, kareas⟩ ⟨yp, yl, yh⟩ = [(abroad ++ kcode) ++ yp]) := by
                    show _ = _
                    unfold baseF
                    simp only
                    rw [if_neg hcc]
                  have hcb : (kcode == code) = false := by simpa using hcc
                  clear hcc
                  as_aux_lemma =>
                    go_wp2_with (at_builtin; refine wpList_append_own _ rfl (.tmp 32) (.tmp 41) 46 rfl w.heap.size 9 i0 (.string ⟨#[]⟩) 1 16 Tryz.underlying46 hi hz0 hz1 hz2 rfl (by decide) _ out2.length _ rfl HOA.out ⟨wr.heap.size + 1, 0, none⟩ 1 1 [.string ((⟨abroad.toArray⟩ ++ ⟨kcode.toArray⟩ : ByteArray) ++ ⟨yp.toArray⟩)] rfl rfl (news_one (by go_simp)) (by simp [Value.oneCell']) (by simp only [maxLen]; omega) (by omega) (by have := HBR.out.size; simp; omega) ?_; intro v6 w6 hown6 hgr6 _; have HC6 := Lib.hid (grown_block hgr6 (heap_two HCZ.out) HRC.out); have HK6 := Lib.hid (grown_block hgr6 (heap_two HKZ.out) HRK.out); have HY6 := Lib.hid (grown_block hgr6 (heap_mid wr (.cells #[.string ⟨yp.toArray⟩, .int .i64 yl, .int .i64 yh] 72) _) HRY.out); have HB6 : Hid (Below w.heap.size w w6) := (HBA.out.trans (upto_grown hgr6 HBA.out.size HRB.out)); have HO6 : Hid (w6.ownsRow w.heap.size 9 1 v6 (out2 ++ [(abroad ++ kcode) ++ yp]).length ((out2 ++ [(abroad ++ kcode) ++ yp]).map encS)) := (by rw [HMAP.out] at hown6; rw [List.length_append]; exact hown6); clear hown6 hgr6 c0 c1 c2 m0 hCl hKl; have c0 := block_cell HC6.out 0; have c2 := block_cell HC6.out 2; have m0 := block_cell HK6.out 0; have y0 := block_cell HY6.out 0; have hCl : C < w6.heap.size := (Array.getElem?_eq_some_iff.1 HC6.out).1; have hKl : K < w6.heap.size := (Array.getElem?_eq_some_iff.1 HK6.out).1; have hYl : wr.heap.size < w6.heap.size := (Array.getElem?_eq_some_iff.1 HY6.out).1; simp only [List.getElem?_toArray, List.getElem?_cons_zero, List.getElem?_cons_succ] at c0 c2 m0 y0)
                    go_roundw
                    case rel => exact ⟨z + 1, out2 ++ [(abroad ++ kcode) ++ yp], by omega, by go_num, by simp only [List.length_append, List.length_cons, List.length_nil]; omega, by show _ = _; rw [HFZ.out, HF.out, HGZ.out, List.append_assoc], HO6, HC6, HK6, HB6⟩
                    case measure => simp [intOf]; omega
              · obtain rfl : z = kan := by omega
                have HG2 : Hid (out2 = [] :: (l.take (k + 1)).flatMap fun o => o.areas.flatMap (baseF ⟨code, abroad, trunk, aa, an, ac, areas⟩ o)) := by
                  show _ = _
                  rw [HFL.out, HGZ.out, HG.out, show kareas.take z = kareas from List.take_of_length_le (by rw [← HKL.out]; exact Nat.le_refl _)]
                  rfl
                as_aux_lemma =>
                  go_wp2_with fail
                  go_roundw
                  case rel => exact ⟨k + 1, out2, by omega, by go_num, by omega, HG2, HOZ, HCZ, HBR⟩
                  case measure => simp [intOf]; omega
        · obtain rfl : k = n := by omega
          have HF : Hid (BL = out) := by
            show _ = _
            rw [HBD.out, HG.out, List.take_of_length_le (by rw [← HLEN.out]; exact Nat.le_refl _)]
          as_aux_lemma =>
            go_wp2_with fail
            go_ret
            exact ⟨_, rfl, by rw [HF.out]; exact HOU.out, HB.out⟩
end Go.Proofs.YthajppcmmmkfcaaGreatDoor

set_option linter.unusedVariables false
set_option linter.unusedSimpArgs false
namespace Go.Proofs.YthajppcmmmkfcaaGreatDoor
open Go.RowKit

set_option maxRecDepth 100000 in
set_option maxHeartbeats 8000000 in
theorem longer_any (w : World) (a : Option Addr) (n cap : Nat) (l : List Ctry) (hr : CtryRow w a n l) (hne : 1 ≤ n) (c : Ctry) (hin : ∃ k, k < l.length ∧ l.getD k noCtry = c) (x : Area) (d : List UInt8) (hd : d.length ≤ 1000) (hx : AreaFine x) :
    Calls Tryz.prog 51 #[.slice a n cap, .agg c.cells.toArray, .agg x.cells.toArray, .string ⟨d.toArray⟩] w fun e w' => e = .returned (.bool (longerP l c x d)) ∧ Below w.heap.size w w' := by
  have hfew := hr.few
  have HLEN := Lib.hid hr.len
  have HR := Lib.hid hr
  have HIN := Lib.hid hin
  have HLOC := Lib.hid (fun W h1 h2 => local_any c x d W hd hx h1 h2)
  have hcl : c.code.length ≤ 100 ∧ c.abroad.length ≤ 100 ∧ c.trunk.length ≤ 100 := by
    obtain ⟨k, hk, rfl⟩ := hin
    exact ⟨(hr.each k hk).code, (hr.each k hk).abroad, (hr.each k hk).trunk⟩
  have HCR : Hid (∀ W, Below w.heap.size w W → AreaRow W c.aa c.an c.areas ∧ (∀ z, z < c.areas.length → AreaFine (c.areas.getD z noArea)) ∧ c.an ≤ 1000) := fun W hW => by
    obtain ⟨k, hk, rfl⟩ := hin
    have := (hr.below hW).each k hk
    exact ⟨this.row, this.each, this.many⟩
  have HD : Hid (longerP l c x d = (longer1 l c d || (longer2 c d || longer3 c x d))) := rfl
  generalize longerP l c x d = r at HD ⊢
  obtain ⟨b, off, rfl, hb, hcell⟩ := ctry_at hr hne
  have HCELL := Lib.hid hcell
  clear hr hin hx hcell
  obtain ⟨code, abroad, trunk, aa, an, ac, areas⟩ := c
  obtain ⟨xp, xl, xh⟩ := x
  obtain ⟨q1, q2, q3⟩ := hcl
  simp only [Ctry.cells, Area.cells] at q1 q2 q3 HLOC ⊢
  go_enter Tryz.func51, Tryz.ntmps51
  go_wp2_with fail
  have HW0 : Hid (Below w.heap.size w ((w.alloc (.cells #[.string ⟨code.toArray⟩, .string ⟨abroad.toArray⟩, .string ⟨trunk.toArray⟩, .slice aa an ac] 68)).alloc (.cells #[.string ⟨xp.toArray⟩, .int .i64 xl, .int .i64 xh] 72))) := (by (try show Below _ _ _); repeat (with_reducible first | exact Below.refl _ _ | assumption | exact Hid.out (by assumption) | refine ext_alloc ?_ | refine ext_drewN ?_ | refine ext_drew ?_ | refine ext_setCell ?_ (Nat.le_refl _) | refine ext_setCell ?_ (Nat.le_succ _) | refine ext_trans ?_ (by assumption) | (refine ext_setCell ?_ (by simp)) | (refine ext_setCell ?_ (by simp at *; omega))))
  have HC0 : Hid (∀ W, Below ((w.alloc (.cells #[.string ⟨code.toArray⟩, .string ⟨abroad.toArray⟩, .string ⟨trunk.toArray⟩, .slice aa an ac] 68)).alloc (.cells #[.string ⟨xp.toArray⟩, .int .i64 xl, .int .i64 xh] 72)).heap.size ((w.alloc (.cells #[.string ⟨code.toArray⟩, .string ⟨abroad.toArray⟩, .string ⟨trunk.toArray⟩, .slice aa an ac] 68)).alloc (.cells #[.string ⟨xp.toArray⟩, .int .i64 xl, .int .i64 xh] 72)) W → ((W.cell? ⟨w.heap.size, 0, none⟩ = some (.string ⟨code.toArray⟩) ∧ W.cell? ⟨w.heap.size, 1, none⟩ = some (.string ⟨abroad.toArray⟩) ∧ W.cell? ⟨w.heap.size, 2, none⟩ = some (.string ⟨trunk.toArray⟩) ∧ W.cell? ⟨w.heap.size, 3, none⟩ = some (.slice aa an ac)) ∧ (W.cell? ⟨w.heap.size + 1, 0, none⟩ = some (.string ⟨xp.toArray⟩) ∧ W.cell? ⟨w.heap.size + 1, 1, none⟩ = some (.int .i64 xl) ∧ W.cell? ⟨w.heap.size + 1, 2, none⟩ = some (.int .i64 xh))) ∧ w.heap.size < W.heap.size ∧ w.heap.size + 1 < W.heap.size) := fun W hb => by
    have hz := hb.size
    simp at hz
    exact ⟨⟨⟨(hb.cell (p := ⟨w.heap.size, 0, none⟩) (by simp; omega)).trans (by go_simp), (hb.cell (p := ⟨w.heap.size, 1, none⟩) (by simp; omega)).trans (by go_simp), (hb.cell (p := ⟨w.heap.size, 2, none⟩) (by simp; omega)).trans (by go_simp), (hb.cell (p := ⟨w.heap.size, 3, none⟩) (by simp; omega)).trans (by go_simp)⟩, (hb.cell (p := ⟨w.heap.size + 1, 0, none⟩) (by simp)).trans (by go_simp), (hb.cell (p := ⟨w.heap.size + 1, 1, none⟩) (by simp)).trans (by go_simp), (hb.cell (p := ⟨w.heap.size + 1, 2, none⟩) (by simp)).trans (by go_simp)⟩, by omega, by omega⟩
  generalize (World.alloc (w.alloc _) _) = W0 at HW0 HC0 ⊢
  generalize w.heap.size + 1 = B1 at HC0 ⊢
  obtain ⟨B0, hB0⟩ : ∃ B0, B0 = w.heap.size := ⟨_, rfl⟩
  rw [← hB0] at HC0 ⊢
  have HB0 := Lib.hid hB0
  clear hB0
  have HL1 : Hid (longer1 l ⟨code, abroad, trunk, aa, an, ac, areas⟩ d = l.any fun x => x.areas.any fun y => areaP d ((abroad ++ x.code) ++ y.pre) y) := rfl
  have HL2 : Hid (longer2 ⟨code, abroad, trunk, aa, an, ac, areas⟩ d = areas.any fun y => areaP d (trunk ++ y.pre) y) := rfl
  go_loopw [17] (fun i wr => ∃ k : Nat, k ≤ n ∧ i = .int .i64 k ∧ Hid (∀ j, j < k → ((l.getD j noCtry).areas.any fun y => areaP d ((abroad ++ (l.getD j noCtry).code) ++ y.pre) y) = false) ∧ Hid (Below W0.heap.size W0 wr)) (fun i _ => n - (intOf i).toNat)
  case atStart => exact ⟨0, Nat.zero_le _, rfl, fun j hj => absurd hj (Nat.not_lt_zero j), Below.refl _ _⟩
  case round =>
    obtain ⟨k, hk, rfl, HG, HB⟩ := hrel
    by_cases hlt : k < n
    · have hkl : k < l.length := by rw [← HLEN.out]; exact hlt
      have HBW : Hid (Below w.heap.size w wr) := HW0.out.trans (HB.out.mono HW0.out.size)
      have hrw := HR.out.below HBW.out
      obtain ⟨b9, off9, ha9, hb9, hc9⟩ := ctry_at hrw hne
      injection ha9 with ha9
      injection ha9 with e1 e2
      subst e1 e2
      have k0 := hc9 k hlt 0 (by omega)
      have k1 := hc9 k hlt 1 (by omega)
      have k2 := hc9 k hlt 2 (by omega)
      have k3 := hc9 k hlt 3 (by omega)
      have HFI := Lib.hid (hrw.each k hkl)
      have HYES : Hid (((l.getD k noCtry).areas.any fun y => areaP d ((abroad ++ (l.getD k noCtry).code) ++ y.pre) y) = true → r = true) := fun h => by
        rw [HD.out, HL1.out, any_yes (f := fun x : Ctry => x.areas.any fun y => areaP d ((abroad ++ x.code) ++ y.pre) y) noCtry hkl h]
        rfl
      have HNO : Hid (((l.getD k noCtry).areas.any fun y => areaP d ((abroad ++ (l.getD k noCtry).code) ++ y.pre) y) = false → ∀ j, j < k + 1 → ((l.getD j noCtry).areas.any fun y => areaP d ((abroad ++ (l.getD j noCtry).code) ++ y.pre) y) = false) := fun h j hj => by
        rcases Nat.lt_or_ge j k with h2 | h2
        · exact HG.out j h2
        · obtain rfl : j = k := by omega
          exact h
      clear hc9 hrw HG
      generalize l.getD k noCtry = ck at k0 k1 k2 k3 HFI HYES HNO
      obtain ⟨kcode, kab, ktr, kaa, kan, kac, kareas⟩ := ck
      simp only [Ctry.cells, List.getElem?_cons_zero, List.getElem?_cons_succ, Nat.add_zero] at k0 k1 k2 k3
      have hkc : kcode.length ≤ 100 := HFI.out.code
      have hkan : kan ≤ 1000 := HFI.out.many
      have HKL : Hid (kan = kareas.length) := HFI.out.row.len
      obtain ⟨⟨⟨p0, p1, p2, p3⟩, p4, p5, p6⟩, l0, l1⟩ := HC0.out wr HB.out
      have hbw : b < wr.heap.size := hb9
      as_aux_lemma =>
        go_wp2_with fail
        have HIN1 : Hid (∀ W, Below (wr.alloc (.cells #[.string ⟨kcode.toArray⟩, .string ⟨kab.toArray⟩, .string ⟨ktr.toArray⟩, .slice kaa kan kac] 68)).heap.size (wr.alloc (.cells #[.string ⟨kcode.toArray⟩, .string ⟨kab.toArray⟩, .string ⟨ktr.toArray⟩, .slice kaa kan kac] 68)) W → ((W.cell? ⟨wr.heap.size, 0, none⟩ = some (.string ⟨kcode.toArray⟩) ∧ W.cell? ⟨B0, 1, none⟩ = some (.string ⟨abroad.toArray⟩)) ∧ wr.heap.size < W.heap.size ∧ B0 < W.heap.size) ∧ AreaRow W kaa kan kareas) := fun W hW => by
          have hz := hW.size
          simp at hz
          have hu : Below wr.heap.size wr W := (ext_alloc (Below.refl _ _)).trans (hW.mono (by simp))
          exact ⟨⟨⟨(hW.cell (p := ⟨wr.heap.size, 0, none⟩) (by simp)).trans (by go_simp), (hu.cell (p := ⟨B0, 1, none⟩) l0).trans p1⟩, by omega, by omega⟩, HFI.out.row.below hu⟩
        have HB1 : Hid (Below W0.heap.size W0 (wr.alloc (.cells #[.string ⟨kcode.toArray⟩, .string ⟨kab.toArray⟩, .string ⟨ktr.toArray⟩, .slice kaa kan kac] 68))) := HB.out.trans (ext_alloc (Below.refl _ _) |>.mono HB.out.size)
        generalize (World.alloc wr _) = W1 at HIN1 HB1 ⊢
        generalize wr.heap.size = K at HIN1 ⊢
        clear p0 p1 p2 p3 p4 p5 p6 l0 l1 k0 k1 k2 k3 hbw HBW HB
        go_loopw [24] (fun i wr => ∃ z : Nat, z ≤ kan ∧ i = .int .i64 z ∧ Hid (∀ j, j < z → areaP d ((abroad ++ kcode) ++ (kareas.getD j noArea).pre) (kareas.getD j noArea) = false) ∧ Hid (Below W1.heap.size W1 wr)) (fun i _ => kan - (intOf i).toNat)
        case atStart => exact ⟨0, Nat.zero_le _, rfl, fun j hj => absurd hj (Nat.not_lt_zero j), Below.refl _ _⟩
        case round =>
          obtain ⟨z, hz, rfl, HGZ, HBZ⟩ := hrel
          have HBZ0 : Hid (Below W0.heap.size W0 wr) := HB1.out.trans (HBZ.out.mono HB1.out.size)
          by_cases hzl : z < kan
          · obtain ⟨⟨⟨m0, m1⟩, m2, m3⟩, har⟩ := HIN1.out wr HBZ.out
            obtain ⟨b2, o2, rfl, hb2, x0, x1, x2⟩ := area_at2 har hzl
            have hfx := HFI.out.each z (by rw [← HKL.out]; exact hzl)
            have HY2 : Hid (areaP d ((abroad ++ kcode) ++ (kareas.getD z noArea).pre) (kareas.getD z noArea) = true → r = true) := fun h => HYES.out (any_yes (f := fun y : Area => areaP d ((abroad ++ kcode) ++ y.pre) y) noArea (by rw [← HKL.out]; exact hzl) h)
            have HN2 : Hid (areaP d ((abroad ++ kcode) ++ (kareas.getD z noArea).pre) (kareas.getD z noArea) = false → ∀ j, j < z + 1 → areaP d ((abroad ++ kcode) ++ (kareas.getD j noArea).pre) (kareas.getD j noArea) = false) := fun h j hj => by
              rcases Nat.lt_or_ge j z with h2 | h2
              · exact HGZ.out j h2
              · obtain rfl : j = z := by omega
                exact h
            clear har HGZ
            generalize kareas.getD z noArea = y at x0 x1 x2 hfx HY2 HN2
            obtain ⟨yp, yl, yh⟩ := y
            obtain ⟨f0, f1, f2, f3, f4⟩ := hfx
            simp only at f0 f1 f2 f3 f4 x0 x1 x2
            have HGO := Lib.hid (fun W => goesOn_any d ((abroad ++ kcode) ++ yp) (yl - (yp.length : Int)) (yh - (yp.length : Int)) W hd (by simp only [List.length_append]; omega) (by omega) (by omega) (by omega) (by omega))
            have HGE : Hid (areaP d ((abroad ++ kcode) ++ yp) ⟨yp, yl, yh⟩ = goesP d ((abroad ++ kcode) ++ yp) (yl - (yp.length : Int)) (yh - (yp.length : Int))) := rfl
            simp only at HY2 HN2
            rw [HGE.out] at HY2 HN2
            generalize goesP d ((abroad ++ kcode) ++ yp) (yl - (yp.length : Int)) (yh - (yp.length : Int)) = g at HGO HY2 HN2
            clear HGE
            as_aux_lemma =>
              go_wp2_with fail
              rw [cat_str, cat_str]
              refine (HGO.out _).mono ?_
              rintro e w3 ⟨rfl, hb3⟩
              have HB3 : Hid (Below W1.heap.size W1 w3) := HBZ.out.trans ((ext_trans (ext_alloc (Below.refl _ _)) hb3).mono HBZ.out.size)
              have HB30 : Hid (Below w.heap.size w w3) := HW0.out.trans ((HB1.out.trans (HB3.out.mono HB1.out.size)).mono HW0.out.size)
              clear hb3
              cases g
              · go_wp2_with fail
                go_roundw
                case rel => exact ⟨z + 1, by omega, by go_num, HN2.out trivial, HB3⟩
                case measure => simp [intOf]; omega
              · have HF : Hid (r = true) := HY2.out rfl
                go_wp2_with fail
                go_ret
                exact ⟨by rw [HF.out]; rfl, HB30.out⟩
          · obtain rfl : z = kan := by omega
            have HN3 := Lib.hid (HNO.out (any_no noArea (fun j hj => HGZ.out j (by rw [HKL.out]; exact hj))))
            as_aux_lemma =>
              go_wp2_with fail
              go_roundw
              case rel => exact ⟨k + 1, by omega, by go_num, HN3.out, HBZ0⟩
              case measure => simp [intOf]; omega
    · obtain rfl : k = n := by omega
      have HN1 : Hid (longer1 l ⟨code, abroad, trunk, aa, an, ac, areas⟩ d = false) := by
        show _ = _
        rw [HL1.out]
        exact any_no noCtry (fun j hj => HG.out j (by rw [HLEN.out]; exact hj))
      obtain ⟨⟨⟨p0, p1, p2, p3⟩, p4, p5, p6⟩, l0, l1⟩ := HC0.out wr HB.out
      as_aux_lemma =>
        go_wp2_with fail
        have HBW : Hid (Below w.heap.size w wr) := HW0.out.trans (HB.out.mono HW0.out.size)
        obtain ⟨hrow0, hfine0, hman0⟩ := HCR.out w (Below.refl _ _)
        have HFI := Lib.hid hfine0
        have HKL : Hid (an = areas.length) := hrow0.len
        have hman : an ≤ 1000 := hman0
        have HYES : Hid ((areas.any fun y => areaP d (trunk ++ y.pre) y) = true → r = true) := fun h => by
          rw [HD.out, HN1.out, HL2.out, h]
          rfl
        have HNO : Hid ((areas.any fun y => areaP d (trunk ++ y.pre) y) = false → r = longer3 ⟨code, abroad, trunk, aa, an, ac, areas⟩ ⟨xp, xl, xh⟩ d) := fun h => by
          rw [HD.out, HN1.out, HL2.out, h]
          rfl
        obtain ⟨wo, rfl⟩ : ∃ wo : World, wo = wr := ⟨_, rfl⟩
        clear hrow0 hfine0 hman0 p0 p1 p2 p3 p4 p5 p6 l0 l1 HG HD HN1 HL1 HL2
        go_loopw [55] (fun i wr => ∃ z : Nat, z ≤ an ∧ i = .int .i64 z ∧ Hid (∀ j, j < z → areaP d (trunk ++ (areas.getD j noArea).pre) (areas.getD j noArea) = false) ∧ Hid (Below wo.heap.size wo wr)) (fun i _ => an - (intOf i).toNat)
        case atStart => exact ⟨0, Nat.zero_le _, rfl, fun j hj => absurd hj (Nat.not_lt_zero j), Below.refl _ _⟩
        case round =>
          obtain ⟨z, hz, rfl, HGZ, HBZ⟩ := hrel
          have HBZ0 : Hid (Below W0.heap.size W0 wr) := HB.out.trans (HBZ.out.mono HB.out.size)
          have HBZW : Hid (Below w.heap.size w wr) := HW0.out.trans (HBZ0.out.mono HW0.out.size)
          obtain ⟨⟨⟨p0, p1, p2, p3⟩, p4, p5, p6⟩, l0, l1⟩ := HC0.out wr HBZ0.out
          by_cases hzl : z < an
          · obtain ⟨b2, o2, rfl, hb2, x0, x1, x2⟩ := area_at2 (HCR.out wr HBZW.out).1 hzl
            have hfx := HFI.out z (by rw [← HKL.out]; exact hzl)
            have HY2 : Hid (areaP d (trunk ++ (areas.getD z noArea).pre) (areas.getD z noArea) = true → r = true) := fun h => HYES.out (any_yes (f := fun y : Area => areaP d (trunk ++ y.pre) y) noArea (by rw [← HKL.out]; exact hzl) h)
            have HN2 : Hid (areaP d (trunk ++ (areas.getD z noArea).pre) (areas.getD z noArea) = false → ∀ j, j < z + 1 → areaP d (trunk ++ (areas.getD j noArea).pre) (areas.getD j noArea) = false) := fun h j hj => by
              rcases Nat.lt_or_ge j z with h2 | h2
              · exact HGZ.out j h2
              · obtain rfl : j = z := by omega
                exact h
            clear HGZ p0 p1 p3 p4 p5 p6
            generalize areas.getD z noArea = y at x0 x1 x2 hfx HY2 HN2
            obtain ⟨yp, yl, yh⟩ := y
            obtain ⟨f0, f1, f2, f3, f4⟩ := hfx
            simp only at f0 f1 f2 f3 f4 x0 x1 x2
            have HGO := Lib.hid (fun W => goesOn_any d (trunk ++ yp) (yl - (yp.length : Int)) (yh - (yp.length : Int)) W hd (by simp only [List.length_append]; omega) (by omega) (by omega) (by omega) (by omega))
            have HGE : Hid (areaP d (trunk ++ yp) ⟨yp, yl, yh⟩ = goesP d (trunk ++ yp) (yl - (yp.length : Int)) (yh - (yp.length : Int))) := rfl
            simp only at HY2 HN2
            rw [HGE.out] at HY2 HN2
            generalize goesP d (trunk ++ yp) (yl - (yp.length : Int)) (yh - (yp.length : Int)) = g at HGO HY2 HN2
            clear HGE
            as_aux_lemma =>
              go_wp2_with fail
              rw [cat_str]
              refine (HGO.out _).mono ?_
              rintro e w3 ⟨rfl, hb3⟩
              have HB3 : Hid (Below wo.heap.size wo w3) := HBZ.out.trans ((ext_trans (ext_alloc (Below.refl _ _)) hb3).mono HBZ.out.size)
              have HB30 : Hid (Below w.heap.size w w3) := HBW.out.trans (HB3.out.mono HBW.out.size)
              clear hb3
              cases g
              · go_wp2_with fail
                go_roundw
                case rel => exact ⟨z + 1, by omega, by go_num, HN2.out trivial, HB3⟩
                case measure => simp [intOf]; omega
              · have HF : Hid (r = true) := HY2.out rfl
                go_wp2_with fail
                go_ret
                exact ⟨by rw [HF.out]; rfl, HB30.out⟩
          · obtain rfl : z = an := by omega
            have HN3 := Lib.hid (HNO.out (any_no noArea (fun j hj => HGZ.out j (by rw [HKL.out]; exact hj))))
            have HLC := Lib.hid (fun W => HLOC.out W q2 q3)
            as_aux_lemma =>
              go_wp2_with fail
              refine (HLC.out _).mono ?_
              rintro e w3 ⟨rfl, hb3⟩
              have HB30 : Hid (Below w.heap.size w w3) := HBZW.out.trans (hb3.mono HBZW.out.size)
              clear hb3
              rw [← HN3.out]
              go_wp2_with fail
              go_ret
              exact ⟨rfl, HB30.out⟩
end Go.Proofs.YthajppcmmmkfcaaGreatDoor

set_option linter.unusedVariables false
set_option linter.unusedSimpArgs false
namespace Go.Proofs.YthajppcmmmkfcaaGreatDoor
open Go.RowKit

def progN (is more : Bool) : Int := if (is && more) = true then 2 else if is = true then 3 else if more = true then 1 else 0
def progTop (l : List Ctry) (code area d : List UInt8) : Int × Int :=
  if planErr l ≠ 0 then (planErr l, 0) else match homeC l code area with
    | none => (8, 0)
    | some c => if digitsB d 0 30 = false then (3, 0) else (0, progN (decide ((reachP l c area d).1 = 0)) (longerP l c (homeX c area) d))
def ProgPost (r : Int × Int) (w : World) (e : Ending) (w' : World) : Prop := e = .returned (.tuple #[.int .i64 r.2, .int .i64 r.1]) ∧ Below w.heap.size w w'

theorem homeX_fine {w : World} {a : Option Addr} {n : Nat} {l : List Ctry} (hr : CtryRow w a n l) {p : Ctry → Bool} {c : Ctry} (h : l.find? p = some c) (area : List UInt8) : AreaFine (homeX c area) := by
  obtain ⟨i, hi, rfl⟩ := List.getElem_of_mem (List.mem_of_find?_eq_some h)
  have hz : AreaFine noArea := ⟨by simp [noArea], by simp [noArea], by simp [noArea], by simp [noArea], by simp [noArea]⟩
  unfold homeX
  split
  · exact hz
  · cases hf : l[i].areas.find? fun a => a.pre == area with
    | none => exact hz
    | some x =>
      obtain ⟨j, hj, rfl⟩ := List.getElem_of_mem (List.mem_of_find?_eq_some hf)
      have := (hr.each i hi).each j (by simpa [hi] using hj)
      simpa [hi, hj] using this
theorem find_in {l : List Ctry} {p : Ctry → Bool} {c : Ctry} (h : l.find? p = some c) : ∃ k, k < l.length ∧ l.getD k noCtry = c := by
  obtain ⟨i, hi, rfl⟩ := List.getElem_of_mem (List.mem_of_find?_eq_some h)
  exact ⟨i, hi, by simp [hi]⟩

set_option maxRecDepth 100000 in
set_option maxHeartbeats 4000000 in
theorem progress_any (w : World) (a : Option Addr) (n cap : Nat) (l : List Ctry) (hr : CtryRow w a n l) (hcap : n ≤ cap) (hne : 1 ≤ n) (hna : ∀ i, i < l.length → 1 ≤ (l.getD i noCtry).an) (code0 area s : List UInt8) (ha : area.length ≤ 100) (hs : s.length ≤ 1000) :
    Calls Tryz.prog 10 #[.slice a n cap, .agg #[.string ⟨code0.toArray⟩, .string ⟨area.toArray⟩], .string ⟨s.toArray⟩] w (ProgPost (progTop l code0 area s) w) := by
  have HR := Lib.hid hr
  have HNA := Lib.hid hna
  have HDEF : Hid (progTop l code0 area s = if planErr l ≠ 0 then (planErr l, (0 : Int)) else match homeC l code0 area with | none => (8, 0) | some c => if digitsB s 0 30 = false then (3, 0) else (0, progN (decide ((reachP l c area s).1 = 0)) (longerP l c (homeX c area) s))) := rfl
  generalize progTop l code0 area s = R at HDEF ⊢
  clear hr hna
  go_enter Tryz.func10, Tryz.ntmps10
  go_wp2_with fail
  refine (open_any _ a n cap l (HR.out.below (ext_alloc (Below.refl _ _))) hcap hne code0 area).mono ?_
  rintro e w1 ⟨hcase, hb1⟩
  have HB1 : Hid (Below w.heap.size w w1) := ext_trans (ext_alloc (Below.refl _ _)) hb1
  have h0 : w1.cell? ⟨w.heap.size, 0, none⟩ = some (.string ⟨code0.toArray⟩) := (hb1.cell (p := ⟨w.heap.size, 0, none⟩) (by simp)).trans (by go_simp)
  have h1 : w1.cell? ⟨w.heap.size, 1, none⟩ = some (.string ⟨area.toArray⟩) := (hb1.cell (p := ⟨w.heap.size, 1, none⟩) (by simp)).trans (by go_simp)
  have hz1' : w.heap.size < w1.heap.size := by have := hb1.size; simp at this; omega
  clear hb1
  rcases hcase with ⟨c, hpe, hhc, rfl⟩ | ⟨er, her, hcase, rfl⟩
  · have hcl := ctry_len HR.out (p := homeP code0 area) hhc
    have HD2 : Hid (R = if digitsB s 0 30 = false then (3, 0) else (0, progN (decide ((reachP l c area s).1 = 0)) (longerP l c (homeX c area) s))) := by
      show _ = _
      rw [HDEF.out, if_neg (by simp [hpe]), hhc]
    have HRE := Lib.hid (fun (W : World) (hB : Below w.heap.size w W) => reached_any W a n cap l (HR.out.below hB) hne HNA.out c hcl.1 hcl.2.1 hcl.2.2 code0 area s ha hs)
    have HLO := Lib.hid (fun (W : World) (hB : Below w.heap.size w W) => longer_any W a n cap l (HR.out.below hB) hne c (find_in hhc) (homeX c area) s hs (homeX_fine HR.out (p := homeP code0 area) hhc area))
    have HDG := Lib.hid (fun W => digitsOf_l s 0 30 W (by omega))
    clear HDEF hpe hhc
    generalize reachP l c area s = RR at HD2 HRE
    obtain ⟨rr, ry⟩ := RR
    generalize longerP l c (homeX c area) s = lg at HD2 HLO
    generalize digitsB s 0 30 = dg at HD2 HDG
    generalize homeX c area = x at HLO ⊢
    obtain ⟨xp, xl, xh⟩ := x
    obtain ⟨code, abroad, trunk, aa, an, ac, areas⟩ := c
    simp only [Ctry.cells, Area.cells] at HRE HLO HD2 ⊢
    as_aux_lemma =>
      go_wp2_with fail
      refine (HDG.out _).mono ?_
      rintro e w2 ⟨rfl, hb2⟩
      cases dg
      · have HF : Hid (R = (3, 0)) := HD2.out
        have HB2 : Hid (Below w.heap.size w w2) := ext_trans (by (try show Below _ _ _); repeat (with_reducible first | exact Below.refl _ _ | assumption | exact Hid.out (by assumption) | refine ext_alloc ?_ | refine ext_drewN ?_ | refine ext_drew ?_ | refine ext_setCell ?_ (Nat.le_refl _) | refine ext_setCell ?_ (Nat.le_succ _) | refine ext_trans ?_ (by assumption) | (refine ext_setCell ?_ (by simp)) | (refine ext_setCell ?_ (by simp at *; omega)))) hb2
        clear hb2
        as_aux_lemma =>
          go_wp2_with fail
          go_ret2
          exact ⟨by rw [HF.out]; rfl, HB2.out⟩
      · have HF : Hid (R = (0, progN (decide (rr = 0)) lg)) := HD2.out
        have HB2 : Hid (Below w.heap.size w w2) := ext_trans (by (try show Below _ _ _); repeat (with_reducible first | exact Below.refl _ _ | assumption | exact Hid.out (by assumption) | refine ext_alloc ?_ | refine ext_drewN ?_ | refine ext_drew ?_ | refine ext_setCell ?_ (Nat.le_refl _) | refine ext_setCell ?_ (Nat.le_succ _) | refine ext_trans ?_ (by assumption) | (refine ext_setCell ?_ (by simp)) | (refine ext_setCell ?_ (by simp at *; omega)))) hb2
        have hHC : Hid (∀ W, Below w2.heap.size w2 W → (W.cell? ⟨w.heap.size, 0, none⟩ = some (.string ⟨code0.toArray⟩) ∧ W.cell? ⟨w.heap.size, 1, none⟩ = some (.string ⟨area.toArray⟩)) ∧ (W.cell? ⟨w1.heap.size, 0, none⟩ = some (.string ⟨code.toArray⟩) ∧ W.cell? ⟨w1.heap.size, 1, none⟩ = some (.string ⟨abroad.toArray⟩) ∧ W.cell? ⟨w1.heap.size, 2, none⟩ = some (.string ⟨trunk.toArray⟩) ∧ W.cell? ⟨w1.heap.size, 3, none⟩ = some (.slice aa an ac)) ∧ (W.cell? ⟨w1.heap.size + 1, 0, none⟩ = some (.string ⟨xp.toArray⟩) ∧ W.cell? ⟨w1.heap.size + 1, 1, none⟩ = some (.int .i64 xl) ∧ W.cell? ⟨w1.heap.size + 1, 2, none⟩ = some (.int .i64 xh)) ∧ w.heap.size < W.heap.size ∧ w1.heap.size < W.heap.size ∧ w1.heap.size + 1 < W.heap.size) := fun W hW => by
          have hu := ext_trans hb2 hW
          have hz := hu.size
          simp at hz
          exact ⟨⟨(hu.cell (p := ⟨w.heap.size, 0, none⟩) (by simp; omega)).trans (by go_simp), (hu.cell (p := ⟨w.heap.size, 1, none⟩) (by simp; omega)).trans (by go_simp)⟩, ⟨(hu.cell (p := ⟨w1.heap.size, 0, none⟩) (by simp; omega)).trans (by go_simp), (hu.cell (p := ⟨w1.heap.size, 1, none⟩) (by simp; omega)).trans (by go_simp), (hu.cell (p := ⟨w1.heap.size, 2, none⟩) (by simp; omega)).trans (by go_simp), (hu.cell (p := ⟨w1.heap.size, 3, none⟩) (by simp; omega)).trans (by go_simp)⟩, ⟨(hu.cell (p := ⟨w1.heap.size + 1, 0, none⟩) (by simp)).trans (by go_simp), (hu.cell (p := ⟨w1.heap.size + 1, 1, none⟩) (by simp)).trans (by go_simp), (hu.cell (p := ⟨w1.heap.size + 1, 2, none⟩) (by simp)).trans (by go_simp)⟩, by omega, by omega, by omega⟩
        clear hb2 h0 h1 hz1'
        generalize w1.heap.size + 1 = A9 at hHC ⊢
        generalize w1.heap.size = G at hHC ⊢
        obtain ⟨⟨m0, m1⟩, ⟨m2, m3, m4, m5⟩, ⟨m6, m7, m8⟩, l0, l1, l2⟩ := hHC.out w2 (Below.refl _ _)
        as_aux_lemma =>
          go_wp2_with fail
          refine (HRE.out _ HB2.out).mono ?_
          rintro e w3 ⟨rfl, hb3⟩
          clear m0 m1 m2 m3 m4 m5 m6 m7 m8 l0 l1 l2
          obtain ⟨⟨m0, m1⟩, ⟨m2, m3, m4, m5⟩, ⟨m6, m7, m8⟩, l0, l1, l2⟩ := hHC.out w3 hb3
          have HB3 := Lib.hid (ext_trans HB2.out hb3)
          clear hb3 m0 m1
          simp only
          as_aux_lemma =>
            go_wp2_with fail
            refine (HLO.out _ HB3.out).mono ?_
            rintro e w4 ⟨rfl, hb4⟩
            have HB4 := Lib.hid (ext_trans HB3.out hb4)
            clear hb4 m2 m3 m4 m5 m6 m7 m8 l0 l1 l2
            by_cases hrr : rr = 0
            · subst hrr
              cases lg
              · have HF2 : Hid (R = (0, 3)) := HF.out
                as_aux_lemma =>
                  go_wp2_with fail
                  go_ret2
                  exact ⟨by rw [HF2.out]; rfl, HB4.out⟩
              · have HF2 : Hid (R = (0, 2)) := HF.out
                as_aux_lemma =>
                  go_wp2_with fail
                  go_ret2
                  exact ⟨by rw [HF2.out]; rfl, HB4.out⟩
            · have hrb : (rr == 0) = false := by simpa using hrr
              cases lg
              · have HF2 : Hid (R = (0, 0)) := by show _ = _; rw [HF.out, decide_eq_false hrr]; rfl
                clear hrr
                as_aux_lemma =>
                  go_wp2_with fail
                  go_ret2
                  exact ⟨by rw [HF2.out]; rfl, HB4.out⟩
              · have HF2 : Hid (R = (0, 1)) := by show _ = _; rw [HF.out, decide_eq_false hrr]; rfl
                clear hrr
                as_aux_lemma =>
                  go_wp2_with fail
                  go_ret2
                  exact ⟨by rw [HF2.out]; rfl, HB4.out⟩
  · have HF : Hid (R = (er, 0)) := by
      show _ = _
      rcases hcase with h | ⟨h, rfl, h2⟩
      · rw [HDEF.out, if_pos (by rw [h]; exact her), h]
      · rw [HDEF.out, if_neg (by simp [h]), h2]
    clear HDEF hcase
    simp only [Ctry.cells, Area.cells, noCtry, noArea]
    as_aux_lemma =>
      go_wp2_with fail
      go_ret2
      exact ⟨by rw [HF.out]; rfl, (by (try show Below _ _ _); repeat (with_reducible first | exact Below.refl _ _ | assumption | exact Hid.out (by assumption) | refine ext_alloc ?_ | refine ext_drewN ?_ | refine ext_drew ?_ | refine ext_setCell ?_ (Nat.le_refl _) | refine ext_setCell ?_ (Nat.le_succ _) | refine ext_trans ?_ (by assumption) | (refine ext_setCell ?_ (by simp)) | (refine ext_setCell ?_ (by simp at *; omega))))⟩
end Go.Proofs.YthajppcmmmkfcaaGreatDoor

set_option linter.unusedVariables false
set_option linter.unusedSimpArgs false
namespace Go.Proofs.YthajppcmmmkfcaaGreatDoor
open Go.RowKit

/-- A slot holds a bool of which something holds. -/
def BoolIs (v : Value) (P : Bool → Prop) : Prop := ∃ b, v = .bool b ∧ Hid (P b)
theorem rep_one (y : UInt8) : ∀ m, Lib.repeatL [y] m = List.replicate m y
  | 0 => rfl
  | m + 1 => by rw [Lib.repeatL, rep_one y m]; rfl
theorem dig_cut (x : Nat) (hx : x < 10) : (⟨#[48, 49, 50, 51, 52, 53, 54, 55, 56, 57]⟩ : ByteArray).extract x (x + 1) = ⟨#[UInt8.ofNat (48 + x)]⟩ := by
  match x, hx with
  | 0, _ | 1, _ | 2, _ | 3, _ | 4, _ | 5, _ | 6, _ | 7, _ | 8, _ | 9, _ => decide +kernel
theorem base_len {w : World} {a : Option Addr} {n : Nat} {l : List Ctry} (hr : CtryRow w a n l) {c : Ctry} (h1 : c.abroad.length ≤ 100) (h2 : c.trunk.length ≤ 100) : ∀ x ∈ basesL l c, x.length ≤ 300 := by
  intro x hx
  unfold basesL at hx
  rcases List.mem_cons.1 hx with rfl | hx
  · simp
  · obtain ⟨o, ho, hx⟩ := List.mem_flatMap.1 hx
    obtain ⟨y, hy, hx⟩ := List.mem_flatMap.1 hx
    obtain ⟨i, hi, rfl⟩ := List.getElem_of_mem ho
    obtain ⟨j, hj, rfl⟩ := List.getElem_of_mem hy
    have hfi := hr.each i hi
    rw [show l.getD i noCtry = l[i] by simp [hi]] at hfi
    have hfj := hfi.each j hj
    rw [show l[i].areas.getD j noArea = l[i].areas[j] by simp [hj]] at hfj
    have e1 := hfi.code
    have e2 := hfj.pre
    unfold baseF at hx
    rcases List.mem_cons.1 hx with rfl | hx
    · simp only [List.length_append]; omega
    · split at hx
      · rcases List.mem_cons.1 hx with rfl | hx
        · simp only [List.length_append]; omega
        · cases hx
      · cases hx
theorem triesX_succ (l : List Ctry) (c : Ctry) (area d s : List UInt8) (x m : Nat) : triesX l c area d s x (m + 1) = (triesX l c area d s x m || okR l c area d s x m) := by
  unfold triesX
  rw [List.range_succ, List.any_append]
  simp
theorem triesR_succ (l : List Ctry) (c : Ctry) (area d s : List UInt8) (x : Nat) : triesR l c area d s (x + 1) = (triesR l c area d s x || triesX l c area d s x (31 - s.length)) := by
  unfold triesR
  rw [List.range_succ, List.any_append]
  simp

set_option maxRecDepth 100000 in
set_option maxHeartbeats 8000000 in
theorem progressFrom_any (w : World) (a : Option Addr) (n cap : Nat) (l : List Ctry) (hr : CtryRow w a n l) (hcap : n ≤ cap) (hne : 1 ≤ n) (hE : planErr l = 0) (c : Ctry) (code0 area d : List UInt8) (hfc : (l.find? fun c => c.code == code0) = some c) (ha : area.length ≤ 100) (hd : d.length ≤ 30) :
    Calls Tryz.prog 17 #[.slice a n cap, .agg #[.string ⟨code0.toArray⟩, .string ⟨area.toArray⟩], .string ⟨d.toArray⟩] w fun e w' => e = .returned (.int .i64 (progN (decide ((reachP l c area d).1 = 0)) (refLonger l c area d))) ∧ Below w.heap.size w w' := by
  have HR := Lib.hid hr
  have hcl := ctry_len hr hfc
  have HBL := Lib.hid (base_len hr hcl.2.1 hcl.2.2)
  have HRE := Lib.hid (fun (W : World) (hB : Below w.heap.size w W) (t : List UInt8) (ht : t.length ≤ 1000) => reachedFrom_any W a n cap l (hr.below hB) hcap hne hE c code0 area t hfc ha ht)
  have HBA := Lib.hid (fun (W : World) (hB : Below w.heap.size w W) => bases_any W a n cap l (hr.below hB) hcap hne c code0 area hfc)
  have HRL : Hid (refLonger l c area d = (basesL l c).any (baseR l c area d)) := rfl
  generalize refLonger l c area d = RL at HRL ⊢
  generalize hBB : basesL l c = BB at HBL HBA HRL
  have hB1 : ∃ q, BB.length = q + 1 := ⟨BB.length - 1, by rw [← hBB]; unfold basesL; simp⟩
  clear hBB
  obtain ⟨q, hq⟩ := hB1
  have HQ := Lib.hid hq
  clear hr hE hfc hcl hq
  have HR0 := Lib.hid (HRE.out w (Below.refl _ _) d (by omega))
  have HRD : Hid (∀ X, reachP l c area d = X → reachP l c area d = X) := fun _ h => h
  generalize hRX : reachP l c area d = RX
  have HRX := Lib.hid (HRD.out RX hRX)
  clear hRX HRD HR0
  obtain ⟨re, ry⟩ := RX
  simp only
  go_enter Tryz.func17, Tryz.ntmps17
  go_wp2_with fail
  refine (HRE.out _ (by (try show Below _ _ _); repeat (with_reducible first | exact Below.refl _ _ | assumption | exact Hid.out (by assumption) | refine ext_alloc ?_ | refine ext_drewN ?_ | refine ext_drew ?_ | refine ext_setCell ?_ (Nat.le_refl _) | refine ext_setCell ?_ (Nat.le_succ _) | refine ext_trans ?_ (by assumption) | (refine ext_setCell ?_ (by simp)) | (refine ext_setCell ?_ (by simp at *; omega)))) d (by omega)).mono ?_
  rintro e w1 ⟨rfl, hb1⟩
  rw [HRX.out]
  have HB1 : Hid (Below w.heap.size w w1) := ext_trans (ext_alloc (Below.refl _ _)) hb1
  have HH1 : Hid (∀ W, Below w1.heap.size w1 W → (W.cell? ⟨w.heap.size, 0, none⟩ = some (.string ⟨code0.toArray⟩) ∧ W.cell? ⟨w.heap.size, 1, none⟩ = some (.string ⟨area.toArray⟩)) ∧ w.heap.size < W.heap.size) := fun W hW => by
    have hu := ext_trans hb1 hW
    have hz := hu.size
    simp at hz
    exact ⟨⟨(hu.cell (p := ⟨w.heap.size, 0, none⟩) (by simp)).trans (by go_simp), (hu.cell (p := ⟨w.heap.size, 1, none⟩) (by simp)).trans (by go_simp)⟩, by omega⟩
  clear hb1
  obtain ⟨⟨h0, h1⟩, hz1⟩ := HH1.out w1 (Below.refl _ _)
  as_aux_lemma =>
    go_wp2_with fail
    refine (HBA.out _ HB1.out).mono ?_
    rintro e w2 ⟨v2, rfl, ho2, hb2⟩
    have HB2 : Hid (Below w1.heap.size w1 w2) := hb2
    rw [HQ.out] at ho2
    obtain ⟨g, cg, rfl, hg1, hg2⟩ := own_row1 ho2
    have HCT : Hid (∀ W, Below w2.heap.size w2 W → ∀ k, k < q + 1 → W.cell? ⟨g, k, none⟩ = some (.string ⟨(BB.getD k []).toArray⟩)) := fun W hW k hk => by
      rw [hW.cell (p := ⟨g, k, none⟩) hg2, ho2.cellAt k (by omega)]
      have : k < BB.length := by rw [HQ.out]; exact hk
      simp [encS, this]
    have HGL := Lib.hid hg2
    have hqm : q + 1 ≤ 9223372036854775807 := by
      rcases ho2.2 with ⟨h, _⟩ | ⟨g9, cap9, cur9, h, _, _, h2, h3, _⟩
      · cases h
      · simp only [maxLen] at h3
        omega
    clear ho2 hb2 hg1 hg2 h0 h1 hz1
    as_aux_lemma =>
      go_wp2_with fail
      go_loopw [10, 31] (fun v i wr => ∃ k : Nat, k ≤ q + 1 ∧ i = .int .i64 k ∧ BoolIs v (fun b => b = (BB.take k).any (baseR l c area d)) ∧ Hid (Below w2.heap.size w2 wr)) (fun _ i _ => q + 1 - (intOf i).toNat)
      case atStart => exact ⟨0, Nat.zero_le _, rfl, ⟨false, rfl, by show _ = _; simp⟩, Below.refl _ _⟩
      case round =>
        obtain ⟨k, hk, rfl, ⟨b, rfl, HG⟩, HB⟩ := hrel
        by_cases hlt : k < q + 1
        · have ck := HCT.out wr HB.out k hlt
          have hgw : g < wr.heap.size := Nat.lt_of_lt_of_le HGL.out HB.out.size
          have hkl : k < BB.length := by rw [HQ.out]; exact hlt
          have HTK : Hid ((BB.take (k + 1)).any (baseR l c area d) = (b || baseR l c area d (BB.getD k []))) := by
            show _ = _
            rw [List.take_add_one, List.getElem?_eq_getElem hkl, List.any_append, ← HG.out, show BB.getD k [] = BB[k] by simp [hkl]]
            simp
          have hsl : (BB.getD k []).length ≤ 300 := by
            rw [show BB.getD k [] = BB[k] by simp [hkl]]
            exact HBL.out _ (List.getElem_mem hkl)
          clear HG hkl
          generalize BB.getD k [] = s at ck HTK hsl
          have HP1 := Lib.hid (fun w => hasPrefix_l s d w)
          have HP2 := Lib.hid (fun w => hasPrefix_l d s w)
          have HBR : Hid (baseR l c area d s = ((Lib.hasPrefix s d || Lib.hasPrefix d s) && triesR l c area d (longOf s d) 10)) := rfl
          generalize Lib.hasPrefix s d = p1 at HP1 HBR
          generalize Lib.hasPrefix d s = p2 at HP2 HBR
          as_aux_lemma =>
            go_upto_region 6 with (fail)
            go_cut [44] (fun v wx => v = .bool (!(p1 || p2)) ∧ wx = wr)
            case first =>
              cases p1
              · cases p2
                · go_wp2_with (first | (refine (HP1.out _).mono ?_; rintro e w' ⟨rfl, rfl⟩) | (refine (HP2.out _).mono ?_; rintro e w' ⟨rfl, rfl⟩))
                  go_meet
                  exact ⟨rfl, rfl⟩
                · go_wp2_with (first | (refine (HP1.out _).mono ?_; rintro e w' ⟨rfl, rfl⟩) | (refine (HP2.out _).mono ?_; rintro e w' ⟨rfl, rfl⟩))
                  go_meet
                  exact ⟨rfl, rfl⟩
              · go_wp2_with (first | (refine (HP1.out _).mono ?_; rintro e w' ⟨rfl, rfl⟩) | (refine (HP2.out _).mono ?_; rintro e w' ⟨rfl, rfl⟩))
                go_meet
                exact ⟨rfl, rfl⟩
            case rest =>
              obtain ⟨rfl, rfl⟩ := hcut
              clear HP1 HP2 ck hgw
              cases hpp : (p1 || p2) with
              | false =>
                have HTK2 : Hid (b = (BB.take (k + 1)).any (baseR l c area d)) := by show _ = _; rw [HTK.out, HBR.out, hpp]; simp
                clear hpp
                as_aux_lemma =>
                  go_wp2_with fail
                  go_roundw
                  case rel => exact ⟨k + 1, by omega, by go_num, ⟨b, rfl, HTK2⟩, HB⟩
                  case measure => simp [intOf]; omega
              | true =>
                have HTK2 : Hid ((BB.take (k + 1)).any (baseR l c area d) = (b || triesR l c area d (longOf s d) 10)) := by show _ = _; rw [HTK.out, HBR.out, hpp]; simp
                clear HTK HBR hpp
                have HLO : Hid (longOf s d = if s.length < d.length then d else s) := rfl
                have hll : (longOf s d).length ≤ 300 := by rw [HLO.out]; split <;> omega
                generalize longOf s d = s2 at HTK2 HLO hll
                as_aux_lemma =>
                  go_upto_if 49 with (fail)
                  go_cut [12] (fun v wx => v = .string ⟨s2.toArray⟩ ∧ wx = wc)
                  case first =>
                    by_cases hsd : s.length < d.length
                    · have HE1 : Hid (s2 = d) := by show _ = _; rw [HLO.out, if_pos hsd]
                      go_wp2_with fail
                      go_meet
                      exact ⟨by rw [HE1.out], rfl⟩
                    · have HE1 : Hid (s2 = s) := by show _ = _; rw [HLO.out, if_neg hsd]
                      go_wp2_with fail
                      go_meet
                      exact ⟨by rw [HE1.out], rfl⟩
                  case rest =>
                    obtain ⟨rfl, rfl⟩ := hcut
                    clear HLO hsl
                    as_aux_lemma =>
                      go_wp2_with fail
                      go_loopw [10, 51] (fun v i wr => ∃ x : Nat, x ≤ 10 ∧ i = .int .i64 x ∧ BoolIs v (fun b2 => b2 = (b || triesR l c area d s2 x)) ∧ Hid (Below w2.heap.size w2 wr)) (fun _ i _ => 10 - (intOf i).toNat)
                      case atStart => exact ⟨0, Nat.zero_le _, rfl, ⟨b, rfl, by show _ = _; simp [triesR]⟩, HB⟩
                      case round =>
                        obtain ⟨x, hx, rfl, ⟨b2, rfl, HG2⟩, HBX⟩ := hrel
                        clear HB
                        by_cases hxl : x < 10
                        · skip
                          as_aux_lemma =>
                            go_wp2_with fail
                            go_loopw [10, 57] (fun v i wr => ∃ m : Nat, m ≤ 31 - s2.length ∧ i = .int .i64 m ∧ BoolIs v (fun b3 => b3 = (b2 || triesX l c area d s2 x m)) ∧ Hid (Below w2.heap.size w2 wr)) (fun _ i _ => 31 - s2.length - (intOf i).toNat)
                            case atStart => exact ⟨0, Nat.zero_le _, rfl, ⟨b2, rfl, by show _ = _; simp [triesX]⟩, HBX⟩
                            case round =>
                              obtain ⟨m, hm, rfl, ⟨b3, rfl, HG3⟩, HBM⟩ := hrel
                              clear HBX
                              by_cases hml : m < 31 - s2.length
                              · have hmI : (m : Int) < 31 - (s2.length : Int) := by omega
                                have HDC := Lib.hid (dig_cut x hxl)
                                have HBW1 : Hid (Below w1.heap.size w1 wr) := HB2.out.trans (HBM.out.mono HB2.out.size)
                                have HOK : Hid (okR l c area d s2 x m = (decide ((reachP l c area (s2 ++ List.replicate m (UInt8.ofNat (48 + x)))).1 = 0) && decide (d.length < s2.length + m))) := rfl
                                have HSX := Lib.hid (triesX_succ l c area d s2 x m)
                                have hrp : Lib.repeatL (⟨#[UInt8.ofNat (48 + x)]⟩ : ByteArray).data.toList m = List.replicate m (UInt8.ofNat (48 + x)) := rep_one _ m
                                have HRP := Lib.hid (fun W => Tryz.strings_Repeat ⟨#[UInt8.ofNat (48 + x)]⟩ m W (by omega) (by show 1 * m ≤ _; omega))
                                rw [hrp] at HRP
                                have hrl : (List.replicate m (UInt8.ofNat (48 + x))).length ≤ 31 := by rw [List.length_replicate]; omega
                                have HRLE : Hid ((List.replicate m (UInt8.ofNat (48 + x))).length = m) := by show _ = _; simp
                                clear hrp
                                generalize List.replicate m (UInt8.ofNat (48 + x)) = rep at HRP hrl HRLE HOK
                                generalize UInt8.ofNat (48 + x) = y at HDC HRP
                                generalize okR l c area d s2 x m = ok at HOK HSX
                                as_aux_lemma =>
                                  go_wp2_with fail
                                  rw [HDC.out]
                                  refine (HRP.out _).mono ?_
                                  rintro e w7 ⟨rfl, hb7⟩
                                  have HB7 : Hid (Below w1.heap.size w1 w7) := HBW1.out.trans (hb7.mono HBW1.out.size)
                                  have HB72 : Hid (Below w2.heap.size w2 w7) := HBM.out.trans (hb7.mono HBM.out.size)
                                  obtain ⟨⟨h0, h1⟩, hz1⟩ := HH1.out w7 HB7.out
                                  clear hb7 HRP HDC
                                  as_aux_lemma =>
                                    go_wp2_with fail
                                    rw [cat_str]
                                    refine (HRE.out _ (HB1.out.trans (HB7.out.mono HB1.out.size)) (s2 ++ rep) (by rw [List.length_append]; omega)).mono ?_
                                    rintro e w8 ⟨rfl, hb8⟩
                                    have HB8 : Hid (Below w2.heap.size w2 w8) := HB72.out.trans (hb8.mono HB72.out.size)
                                    clear hb8 h0 h1 hz1
                                    generalize reachP l c area (s2 ++ rep) = XX at HOK ⊢
                                    obtain ⟨er, yy⟩ := XX
                                    simp only at HOK ⊢
                                    by_cases her : er = 0
                                    · subst her
                                      by_cases hln : d.length < s2.length + rep.length
                                      · have HT : Hid (true = (b2 || triesX l c area d s2 x (m + 1))) := by
                                          show _ = _
                                          rw [HSX.out, HOK.out, ← HRLE.out, decide_eq_true hln]
                                          simp
                                        have hlnI : (d.length : Int) < (s2.length : Int) + (rep.length : Int) := by omega
                                        as_aux_lemma =>
                                          go_wp2_with fail
                                          go_roundw
                                          case rel => exact ⟨m + 1, by omega, by go_num, ⟨true, rfl, HT⟩, HB8⟩
                                          case measure => simp [intOf]; omega
                                      · have HT : Hid (b3 = (b2 || triesX l c area d s2 x (m + 1))) := by
                                          show _ = _
                                          rw [HSX.out, HOK.out, ← HRLE.out, decide_eq_false hln, HRLE.out, HG3.out]
                                          simp
                                        have hlnI : ¬ ((d.length : Int) < (s2.length : Int) + (rep.length : Int)) := by omega
                                        as_aux_lemma =>
                                          go_wp2_with fail
                                          go_roundw
                                          case rel => exact ⟨m + 1, by omega, by go_num, ⟨b3, rfl, HT⟩, HB8⟩
                                          case measure => simp [intOf]; omega
                                    · have HT : Hid (b3 = (b2 || triesX l c area d s2 x (m + 1))) := by
                                        show _ = _
                                        rw [HSX.out, HOK.out, decide_eq_false her, HG3.out]
                                        simp
                                      have heb : (er == 0) = false := by simpa using her
                                      as_aux_lemma =>
                                        go_wp2_with fail
                                        go_roundw
                                        case rel => exact ⟨m + 1, by omega, by go_num, ⟨b3, rfl, HT⟩, HB8⟩
                                        case measure => simp [intOf]; omega
                              · have hmI : ¬ ((m : Int) < 31 - (s2.length : Int)) := by omega
                                have hme : m = 31 - s2.length := by omega
                                have HT : Hid (b3 = (b || triesR l c area d s2 (x + 1))) := by
                                  show _ = _
                                  rw [triesR_succ, HG3.out, hme, HG2.out, Bool.or_assoc]
                                clear hme
                                as_aux_lemma =>
                                  go_wp2_with fail
                                  go_roundw
                                  case rel => exact ⟨x + 1, by omega, by go_num, ⟨b3, rfl, HT⟩, HBM⟩
                                  case measure => simp [intOf]; omega
                        · obtain rfl : x = 10 := by omega
                          have HT : Hid (b2 = (BB.take (k + 1)).any (baseR l c area d)) := by show _ = _; rw [HTK2.out, HG2.out]
                          as_aux_lemma =>
                            go_wp2_with fail
                            go_roundw
                            case rel => exact ⟨k + 1, by omega, by go_num, ⟨b2, rfl, HT⟩, HBX⟩
                            case measure => simp [intOf]; omega
        · obtain rfl : k = q + 1 := by omega
          have HF : Hid (RL = b) := by
            show _ = _
            rw [HRL.out, HG.out, List.take_of_length_le (by rw [HQ.out]; exact Nat.le_refl _)]
          have HEND : Hid (Below w.heap.size w wr) := HB1.out.trans ((HB2.out.trans (HB.out.mono HB2.out.size)).mono HB1.out.size)
          by_cases hre : re = 0
          · subst hre
            cases b
            · skip
              as_aux_lemma =>
                go_wp2_with fail
                go_ret
                exact ⟨by rw [HF.out]; rfl, HEND.out⟩
            · skip
              as_aux_lemma =>
                go_wp2_with fail
                go_ret
                exact ⟨by rw [HF.out]; rfl, HEND.out⟩
          · have hrb : (re == 0) = false := by simpa using hre
            have HDF : Hid (decide (re = 0) = false) := decide_eq_false hre
            cases b
            · skip
              as_aux_lemma =>
                go_wp2_with fail
                go_ret
                exact ⟨by rw [HF.out]; rfl, HEND.out⟩
            · skip
              as_aux_lemma =>
                go_wp2_with fail
                go_ret
                exact ⟨by rw [HF.out]; rfl, HEND.out⟩
end Go.Proofs.YthajppcmmmkfcaaGreatDoor

set_option linter.unusedVariables false
set_option linter.unusedSimpArgs false
namespace Go.Proofs.YthajppcmmmkfcaaGreatDoor
open Go.RowKit

theorem enc_size (r : Int) : (Utf8.encode r).size ≤ 4 := by
  unfold Utf8.encode
  simp only
  repeat' split
  all_goals (show Array.size _ ≤ 4; simp)
theorem bytes_back (b : ByteArray) : b = (⟨b.data.toList.toArray⟩ : ByteArray) := by simp
theorem enc_bound (a b e : ByteArray) (n : Nat) (h : a.size + e.size + b.size ≤ n) : ((a ++ e) ++ b).data.toList.length ≤ n := by
  show _ ≤ n
  simp only [ByteArray.data_append, Array.toList_append, List.length_append]
  exact h

set_option maxRecDepth 100000 in
set_option maxHeartbeats 4000000 in
theorem changed_any (S k : Nat) (w : World) (t wi : List UInt8) (h : StreamOk w S k) (hk : k ≤ 10000000) (ht : t.length ≤ 100000) (hw : wi.length ≤ 100000) :
    Calls Tryz.prog 46 #[.pointer (some ⟨S, 0, none⟩), .string ⟨t.toArray⟩, .string ⟨wi.toArray⟩] w (SomePost S (k + 3) (fun s => s.length ≤ t.length + wi.length + 4) w) := by
  have HS := Lib.hid h
  clear h
  cases t with
  | nil =>
    go_enter Tryz.func46, Tryz.ntmps46
    go_wp2_with fail
    go_ret
    exact ⟨wi, rfl, by show wi.length ≤ 0 + wi.length + 4; omega, HS.out.mono (by omega), Keeps.refl _ _⟩
  | cons x m =>
  cases wi with
  | nil =>
    go_enter Tryz.func46, Tryz.ntmps46
    go_wp2_with fail
    go_ret
    exact ⟨[], rfl, by simp, HS.out.mono (by omega), Keeps.refl _ _⟩
  | cons y n =>
    simp only [List.length_cons] at ht hw
    go_enter Tryz.func46, Tryz.ntmps46
    go_wp2_with fail
    refine (next_any S k ((m.length : Int) + 1) _ HS.out (by omega) (by omega) (by omega)).mono ?_
    rintro e w1 ⟨r, rfl, r0, r1, hst1, hk1⟩
    have HS1 := Lib.hid hst1
    have HK1 := Lib.hid hk1
    obtain ⟨i, rfl⟩ := Int.eq_ofNat_of_zero_le r0
    have hi : i < m.length + 1 := by omega
    clear hst1 hk1 r0 r1
    as_aux_lemma =>
      go_wp2_with fail
      refine (next_any S (k + 1) ((n.length : Int) + 1) _ HS1.out (by omega) (by omega) (by omega)).mono ?_
      rintro e w2 ⟨r, rfl, r0, r1, hst2, hk2⟩
      have HS2 := Lib.hid hst2
      have HK2 := Lib.hid (HK1.out.trans hk2)
      obtain ⟨j, rfl⟩ := Int.eq_ofNat_of_zero_le r0
      have hj : j < n.length + 1 := by omega
      clear hst2 hk2 r0 r1 HS1 HK1
      as_aux_lemma =>
        go_wp2_with fail
        refine (next_any S (k + 2) 3 _ HS2.out (by omega) (by omega) (by omega)).mono ?_
        rintro e w3 ⟨r, rfl, r0, r1, hst3, hk3⟩
        have HS3 := Lib.hid hst3
        have HK3 := Lib.hid (HK2.out.trans hk3)
        have hr : r = 0 ∨ r = 1 ∨ r = 2 := by omega
        clear hst3 hk3 r0 r1 HS2 HK2
        have hq256 : ((⟨(y :: n).toArray⟩ : ByteArray)[j]'(by show j < n.length + 1; omega)).toNat < 256 := UInt8.toNat_lt _
        generalize ((⟨(y :: n).toArray⟩ : ByteArray)[j]'(by show j < n.length + 1; omega)).toNat = q at hq256
        have hwq : IntKind.i32.wrap (q : Int) = (q : Int) := IntWalk.i32_in _ (by omega)
        have hes := enc_size (q : Int)
        obtain ⟨el, hel⟩ : ∃ el : List UInt8, Utf8.encode (q : Int) = ⟨el.toArray⟩ := ⟨_, bytes_back _⟩
        rw [hel] at hes
        have hell : el.length ≤ 4 := hes
        clear hes
        have hwi : IntKind.i64.wrap ((i : Int) + 1) = (i : Int) + 1 := IntWalk.i64_in _ (by omega)
        have hwn : ((i : Int) + 1).toNat = i + 1 := by omega
        have hw0 : (0 : Int) ≤ (i : Int) + 1 := by omega
        have hiI : (i : Int) ≤ (m.length : Int) + 1 := by omega
        have hiJ : (i : Int) + 1 ≤ (m.length : Int) + 1 := by omega
        have HEX : Hid (∀ k, (⟨(x :: m).toArray⟩ : ByteArray).extract k (m.length + 1) = ⟨((x :: m).drop k).toArray⟩) := fun k => extract_drop (x :: m) k
        rcases hr with rfl | rfl | rfl
        · skip
          as_aux_lemma =>
            go_wp2_with fail
            go_quiet (fail)
            rw [ext_take, HEX.out, cat_str, cat_str]
            go_wp2_with fail
            go_ret
            exact ⟨_, rfl, by simp; omega, HS3.out.below (by (try show Below _ _ _); repeat (with_reducible first | exact Below.refl _ _ | assumption | exact Hid.out (by assumption) | refine ext_alloc ?_ | refine ext_drewN ?_ | refine ext_drew ?_ | refine ext_setCell ?_ (Nat.le_refl _) | refine ext_setCell ?_ (Nat.le_succ _) | refine ext_trans ?_ (by assumption) | (refine ext_setCell ?_ (by simp)) | (refine ext_setCell ?_ (by simp at *; omega)))), HK3.out.trans (Keeps.of_below (by (try show Below _ _ _); repeat (with_reducible first | exact Below.refl _ _ | assumption | exact Hid.out (by assumption) | refine ext_alloc ?_ | refine ext_drewN ?_ | refine ext_drew ?_ | refine ext_setCell ?_ (Nat.le_refl _) | refine ext_setCell ?_ (Nat.le_succ _) | refine ext_trans ?_ (by assumption) | (refine ext_setCell ?_ (by simp)) | (refine ext_setCell ?_ (by simp at *; omega)))))⟩
        · skip
          as_aux_lemma =>
            go_wp2_with fail
            go_quiet (fail)
            rw [ext_take, HEX.out, cat_str, cat_str]
            go_wp2_with fail
            go_ret
            exact ⟨_, rfl, by simp; omega, HS3.out.below (by (try show Below _ _ _); repeat (with_reducible first | exact Below.refl _ _ | assumption | exact Hid.out (by assumption) | refine ext_alloc ?_ | refine ext_drewN ?_ | refine ext_drew ?_ | refine ext_setCell ?_ (Nat.le_refl _) | refine ext_setCell ?_ (Nat.le_succ _) | refine ext_trans ?_ (by assumption) | (refine ext_setCell ?_ (by simp)) | (refine ext_setCell ?_ (by simp at *; omega)))), HK3.out.trans (Keeps.of_below (by (try show Below _ _ _); repeat (with_reducible first | exact Below.refl _ _ | assumption | exact Hid.out (by assumption) | refine ext_alloc ?_ | refine ext_drewN ?_ | refine ext_drew ?_ | refine ext_setCell ?_ (Nat.le_refl _) | refine ext_setCell ?_ (Nat.le_succ _) | refine ext_trans ?_ (by assumption) | (refine ext_setCell ?_ (by simp)) | (refine ext_setCell ?_ (by simp at *; omega)))))⟩
        · skip
          as_aux_lemma =>
            go_wp2_with fail
            go_quiet (fail)
            rw [ext_take, HEX.out, cat_str]
            go_wp2_with fail
            go_ret
            exact ⟨_, rfl, by simp; omega, HS3.out.below (by (try show Below _ _ _); repeat (with_reducible first | exact Below.refl _ _ | assumption | exact Hid.out (by assumption) | refine ext_alloc ?_ | refine ext_drewN ?_ | refine ext_drew ?_ | refine ext_setCell ?_ (Nat.le_refl _) | refine ext_setCell ?_ (Nat.le_succ _) | refine ext_trans ?_ (by assumption) | (refine ext_setCell ?_ (by simp)) | (refine ext_setCell ?_ (by simp at *; omega)))), HK3.out.trans (Keeps.of_below (by (try show Below _ _ _); repeat (with_reducible first | exact Below.refl _ _ | assumption | exact Hid.out (by assumption) | refine ext_alloc ?_ | refine ext_drewN ?_ | refine ext_drew ?_ | refine ext_setCell ?_ (Nat.le_refl _) | refine ext_setCell ?_ (Nat.le_succ _) | refine ext_trans ?_ (by assumption) | (refine ext_setCell ?_ (by simp)) | (refine ext_setCell ?_ (by simp at *; omega)))))⟩
end Go.Proofs.YthajppcmmmkfcaaGreatDoor

set_option linter.unusedVariables false
set_option linter.unusedSimpArgs false
namespace Go.Proofs.YthajppcmmmkfcaaGreatDoor
open Go.RowKit

set_option maxRecDepth 100000 in
theorem countryAt_idx (w : World) (a : Option Addr) (n cap : Nat) (l : List Ctry) (hr : CtryRow w a n l) (hne : 1 ≤ n) (code : List UInt8) : Calls Tryz.prog 56 #[.slice a n cap, .string ⟨code.toArray⟩] w fun e w' => e = .returned (.int .i64 (Lib.idxBy (fun _ y => y.code == code) l default)) ∧ Below w.heap.size w w' := by
  rcases hr.row with h0 | ⟨b, off, rfl, hb, hcl⟩
  · omega
  have HLEN := Lib.hid hr.len
  have hfew := hr.few
  have HENC := Lib.hid (ctry_enc hr.len hcl)
  clear hr hcl
  go_enter Tryz.func56, Tryz.ntmps56
  go_wp2_with fail
  refine (Tryz.slices_idxC Ctry.cells (fun x => rfl) (fun x => x.code == code) 95 #[.pointer (some ⟨w.heap.size, 0, none⟩)] (fun args w => rfl) b off n cap l _ (codeAt_pred code w.heap.size _ (by simp) (by go_simp)) (by have := HLEN.out; omega) (by omega) (by simp; omega) (fun j hj i v hv => (World.cell?_alloc_lt _ _ _ (by show b < _; omega)).trans (HENC.out j hj i v hv))).mono ?_
  rintro e w1 ⟨rfl, hb1⟩
  have HB1 : Hid (Below w.heap.size w w1) := ext_trans (ext_alloc (Below.refl _ _)) hb1
  rw [List.take_of_length_le (by have := HLEN.out; omega)]
  clear hb1
  generalize hq : Lib.idxBy (fun _ y => y.code == code) l default = r
  have HQ := Lib.hid hq
  clear hq
  go_wp2_with fail
  go_ret
  exact ⟨by rw [HQ.out]; rfl, HB1.out⟩

set_option maxRecDepth 100000 in
set_option maxHeartbeats 4000000 in
theorem formFrom_any (w : World) (a : Option Addr) (n cap : Nat) (l : List Ctry) (hr : CtryRow w a n l) (hcap : n ≤ cap) (hne : 1 ≤ n) (hE : planErr l = 0) (c : Ctry) (code0 area s : List UInt8) (hfc : (l.find? fun c => c.code == code0) = some c) (hs : s.length ≤ 1000) :
    Calls Tryz.prog 32 #[.slice a n cap, .agg #[.string ⟨code0.toArray⟩, .string ⟨area.toArray⟩], .string ⟨s.toArray⟩] w fun e w' => e = .returned (.string ⟨(formP c (splitP l s)).toArray⟩) ∧ Below w.heap.size w w' := by
  have HR := Lib.hid hr
  have HLEN := Lib.hid hr.len
  have hfew := hr.few
  have HFC := Lib.hid hfc
  have HCC : Hid (c.code = code0) := by
    have := List.find?_some hfc
    show _ = _
    simpa using this
  have HSS := Lib.hid (split_same s hE)
  obtain ⟨g1, g2, g3⟩ := ctry_len hr hfc
  obtain ⟨z1, z2, z3⟩ := spl_len hr s
  rcases hr.row with h0 | ⟨b, off, rfl, hb, _⟩
  · omega
  have HSP := Lib.hid (fun w9 (h9 : CtryRow w9 (some ⟨b, off, none⟩) n l) => splitOf_any w9 (some ⟨b, off, none⟩) n cap l h9 hcap s hs)
  rw [HSS.out] at HSP
  generalize splitP l s = X at z1 z2 z3 HSP ⊢
  obtain ⟨er, x1, x2, x3⟩ := X
  simp only at z1 z2 z3
  have HGR := Lib.hid (fun w => groups_any x3 (by omega) w)
  have hgl : (groupsB x3).length ≤ 2000 := Nat.le_trans (groups_len _ x3 (Nat.le_refl _)) (by omega)
  have HDEF : Hid (formP c ⟨er, x1, x2, x3⟩ = formPre c ⟨er, x1, x2, x3⟩ ++ groupsB x3) := rfl
  generalize formP c ⟨er, x1, x2, x3⟩ = R at HDEF ⊢
  generalize groupsB x3 = gs at HGR hgl HDEF
  clear hr hE hfc HSS
  go_enter Tryz.func32, Tryz.ntmps32
  go_wp2_with fail
  refine (HSP.out _ (HR.out.below (ext_alloc (Below.refl _ _)))).mono ?_
  rintro e w1 ⟨rfl, hb1⟩
  have e0 : w1.cell? ⟨w.heap.size, 0, none⟩ = some (.string ⟨code0.toArray⟩) := (hb1.cell (p := ⟨w.heap.size, 0, none⟩) (by simp)).trans (by go_simp)
  have HB1 : Hid (Below w.heap.size w w1) := ext_trans (ext_alloc (Below.refl _ _)) hb1
  have hz1 : w.heap.size < w1.heap.size := by have := hb1.size; simp at this; omega
  clear hb1
  simp only
  by_cases hcode : x1 = code0
  · obtain rfl : code0 = x1 := hcode.symm
    obtain ⟨k, hk, hck, hat⟩ : ∃ k : Nat, k < n ∧ l.getD k noCtry = c ∧ ∀ W : World, Below w1.heap.size w1 W → Calls Tryz.prog 56 #[.slice (some ⟨b, off, none⟩) n cap, .string ⟨code0.toArray⟩] W fun e w' => e = .returned (.int .i64 k) ∧ Below W.heap.size W w' := by
      have hidx := idx_find (fun x : Ctry => x.code == code0) l
      rcases hidx with ⟨_, hn⟩ | ⟨k, hk, hi, hs2, _⟩
      · rw [HFC.out] at hn; cases hn
      · refine ⟨k, by rw [HLEN.out]; exact hk, by rw [HFC.out] at hs2; injection hs2 with h; rw [h]; simp [hk], fun W hW => ?_⟩
        refine (countryAt_idx W _ n cap l (HR.out.below (ext_trans HB1.out hW)) hne code0).mono ?_
        rintro e w' ⟨rfl, hb⟩
        exact ⟨by rw [hi], hb⟩
    obtain ⟨code, abroad, trunk, aa, an, ac, areas⟩ := c
    have htr : trunk.length ≤ 100 := g3
    have hz2 : w1.heap.size < (w1.alloc (.cells #[.string ⟨code0.toArray⟩, .string ⟨x2.toArray⟩, .string ⟨x3.toArray⟩] 50)).heap.size := by simp
    have k2 : w1.cell? ⟨b, off + k * 4 + 2, none⟩ = some (.string ⟨trunk.toArray⟩) := by
      have hrw := HR.out.below HB1.out
      rcases hrw.row with h0 | ⟨b9, off9, ha9, hb9, hcl⟩
      · omega
      · injection ha9 with ha9
        injection ha9 with y1 y2
        subst y1 y2
        have := hcl k hk 2 (by omega)
        rw [hck] at this
        exact this
    have hbw : b < w1.heap.size := Nat.lt_of_lt_of_le hb HB1.out.size
    have hS0 : (fun W => W.cell? ⟨w.heap.size, 0, none⟩ = some (.string ⟨code0.toArray⟩) ∧ W.cell? ⟨w1.heap.size, 1, none⟩ = some (.string ⟨x2.toArray⟩) ∧ W.cell? ⟨w1.heap.size, 2, none⟩ = some (.string ⟨x3.toArray⟩) ∧ W.cell? ⟨b, off + k * 4 + 2, none⟩ = some (.string ⟨trunk.toArray⟩)) ((w1.alloc (.cells #[.string ⟨code0.toArray⟩, .string ⟨x2.toArray⟩, .string ⟨x3.toArray⟩] 50)).drew) := ⟨by go_simp, by go_simp, by go_simp, by go_simp⟩
    have HCAT : Hid (Calls Tryz.prog 56 #[.slice (some ⟨b, off, none⟩) n cap, .string ⟨code0.toArray⟩] ((w1.alloc (.cells #[.string ⟨code0.toArray⟩, .string ⟨x2.toArray⟩, .string ⟨x3.toArray⟩] 50)).drew) fun e w' => e = .returned (.int .i64 k) ∧ (fun W => W.cell? ⟨w.heap.size, 0, none⟩ = some (.string ⟨code0.toArray⟩) ∧ W.cell? ⟨w1.heap.size, 1, none⟩ = some (.string ⟨x2.toArray⟩) ∧ W.cell? ⟨w1.heap.size, 2, none⟩ = some (.string ⟨x3.toArray⟩) ∧ W.cell? ⟨b, off + k * 4 + 2, none⟩ = some (.string ⟨trunk.toArray⟩)) w' ∧ Below ((w1.alloc (.cells #[.string ⟨code0.toArray⟩, .string ⟨x2.toArray⟩, .string ⟨x3.toArray⟩] 50)).drew).heap.size ((w1.alloc (.cells #[.string ⟨code0.toArray⟩, .string ⟨x2.toArray⟩, .string ⟨x3.toArray⟩] 50)).drew) w') := by
      refine (hat _ (ext_drew (ext_alloc (Below.refl _ _)))).mono ?_
      rintro e w' ⟨rfl, hb9⟩
      obtain ⟨m0, m1, m2, m3⟩ := hS0
      exact ⟨rfl, ⟨(hb9.cell (p := ⟨w.heap.size, 0, none⟩) (by simp; omega)).trans m0, (hb9.cell (p := ⟨w1.heap.size, 1, none⟩) (by simp)).trans m1, (hb9.cell (p := ⟨w1.heap.size, 2, none⟩) (by simp)).trans m2, (hb9.cell (p := ⟨b, off + k * 4 + 2, none⟩) (by simp; omega)).trans m3⟩, hb9⟩
    have HS0 := Lib.hid hS0
    have HF : Hid (R = ((((([40] : List UInt8) ++ trunk) ++ x2) ++ ([41, 32] : List UInt8)) ++ gs)) := by
      show _ = _
      rw [HDEF.out, formPre, if_pos (by rw [HCC.out])]
      simp
    have hk64 : k < n := hk
    clear hS0 hat k2 hck
    skip
    as_aux_lemma =>
      go_upto_region 4 with (fail)
      refine region_seqI (S := fun W => W.cell? ⟨w.heap.size, 0, none⟩ = some (.string ⟨code0.toArray⟩) ∧ W.cell? ⟨w1.heap.size, 1, none⟩ = some (.string ⟨x2.toArray⟩) ∧ W.cell? ⟨w1.heap.size, 2, none⟩ = some (.string ⟨x3.toArray⟩) ∧ W.cell? ⟨b, off + k * 4 + 2, none⟩ = some (.string ⟨trunk.toArray⟩)) [(true, 0), (true, 1), (true, 2), (true, 3), (true, 9), (true, 10), (true, 13), (true, 14), (false, 4), (true, 5), (true, 6), (true, 7), (true, 8), (true, 11), (true, 12), (false, 15), (true, 16), (true, 17)] (by kernel_rfl) (by kernel_rfl) rfl (by kernel_rfl) HS0.out ?_
      simp only [seqOps, List.getD_cons_zero, List.getD_cons_succ]
      refine seqI_take (v := .slice (some ⟨b, off, none⟩) n cap) rfl (fun W hW => by obtain ⟨m0, m1, m2, m3⟩ := hW; go_simp) (fun _ _ _ h => h) ?_
      simp only [Act.put, List.setIfInBounds_toArray, List.set_cons_zero, List.set_cons_succ]
      refine seqI_take (v := .slice (some ⟨b, off, none⟩) n cap) rfl (fun W hW => by obtain ⟨m0, m1, m2, m3⟩ := hW; go_simp) (fun _ _ _ h => h) ?_
      simp only [Act.put, List.setIfInBounds_toArray, List.set_cons_zero, List.set_cons_succ]
      refine seqI_take (v := .pointer (some ⟨w.heap.size, 0, none⟩)) rfl (fun W hW => by obtain ⟨m0, m1, m2, m3⟩ := hW; go_simp) (fun _ _ _ h => h) ?_
      simp only [Act.put, List.setIfInBounds_toArray, List.set_cons_zero, List.set_cons_succ]
      refine seqI_take (v := .string ⟨code0.toArray⟩) rfl (fun W hW => by obtain ⟨m0, m1, m2, m3⟩ := hW; go_simp) (fun _ _ _ h => h) ?_
      simp only [Act.put, List.setIfInBounds_toArray, List.set_cons_zero, List.set_cons_succ]
      refine seqI_take (v := .pointer (some ⟨w1.heap.size, 1, none⟩)) rfl (fun W hW => by obtain ⟨m0, m1, m2, m3⟩ := hW; go_simp) (fun _ _ _ h => h) ?_
      simp only [Act.put, List.setIfInBounds_toArray, List.set_cons_zero, List.set_cons_succ]
      refine seqI_take (v := .string ⟨x2.toArray⟩) rfl (fun W hW => by obtain ⟨m0, m1, m2, m3⟩ := hW; go_simp) (fun _ _ _ h => h) ?_
      simp only [Act.put, List.setIfInBounds_toArray, List.set_cons_zero, List.set_cons_succ]
      refine seqI_take (v := .pointer (some ⟨w1.heap.size, 2, none⟩)) rfl (fun W hW => by obtain ⟨m0, m1, m2, m3⟩ := hW; go_simp) (fun _ _ _ h => h) ?_
      simp only [Act.put, List.setIfInBounds_toArray, List.set_cons_zero, List.set_cons_succ]
      refine seqI_take (v := .string ⟨x3.toArray⟩) rfl (fun W hW => by obtain ⟨m0, m1, m2, m3⟩ := hW; go_simp) (fun _ _ _ h => h) ?_
      simp only [Act.put, List.setIfInBounds_toArray, List.set_cons_zero, List.set_cons_succ]
      refine seqI_call 56 #[.slice (some ⟨b, off, none⟩) n cap, .string ⟨code0.toArray⟩] rfl (by have m := HS0.out; obtain ⟨m0, m1, m2, m3⟩ := m; go_simp) (HCAT.out) ?_
      rintro e w9 ⟨rfl, hS9, hb9⟩
      refine ⟨_, rfl, hS9, ?_⟩
      have HS9 := Lib.hid hS9
      have HB9 := Lib.hid hb9
      clear hS9 hb9
      simp only [Act.put, List.setIfInBounds_toArray, List.set_cons_zero, List.set_cons_succ]
      refine seqI_take (v := .pointer (some ⟨b, off + k * 4, none⟩)) rfl (fun W hW => by obtain ⟨m0, m1, m2, m3⟩ := hW; go_simp) (fun _ _ _ h => h) ?_
      simp only [Act.put, List.setIfInBounds_toArray, List.set_cons_zero, List.set_cons_succ]
      refine seqI_take (v := .pointer (some ⟨b, off + k * 4 + 2, none⟩)) rfl (fun W hW => by obtain ⟨m0, m1, m2, m3⟩ := hW; go_simp) (fun _ _ _ h => h) ?_
      simp only [Act.put, List.setIfInBounds_toArray, List.set_cons_zero, List.set_cons_succ]
      refine seqI_take (v := .string ⟨trunk.toArray⟩) rfl (fun W hW => by obtain ⟨m0, m1, m2, m3⟩ := hW; go_simp) (fun _ _ _ h => h) ?_
      simp only [Act.put, List.setIfInBounds_toArray, List.set_cons_zero, List.set_cons_succ]
      refine seqI_take (v := .string ⟨(([40] : List UInt8) ++ trunk).toArray⟩) rfl (fun W hW => by obtain ⟨m0, m1, m2, m3⟩ := hW; rw [← cat_str ([40] : List UInt8) trunk]; go_simp <;> (try simp only [List.length_append, List.length_cons, List.length_nil]) <;> omega) (fun _ _ _ h => h) ?_
      simp only [Act.put, List.setIfInBounds_toArray, List.set_cons_zero, List.set_cons_succ]
      refine seqI_take (v := .string ⟨((([40] : List UInt8) ++ trunk) ++ x2).toArray⟩) rfl (fun W hW => by obtain ⟨m0, m1, m2, m3⟩ := hW; rw [← cat_str (([40] : List UInt8) ++ trunk) x2]; go_simp <;> (try simp only [List.length_append, List.length_cons, List.length_nil]) <;> omega) (fun _ _ _ h => h) ?_
      simp only [Act.put, List.setIfInBounds_toArray, List.set_cons_zero, List.set_cons_succ]
      refine seqI_take (v := .string ⟨(((([40] : List UInt8) ++ trunk) ++ x2) ++ ([41, 32] : List UInt8)).toArray⟩) rfl (fun W hW => by obtain ⟨m0, m1, m2, m3⟩ := hW; rw [← cat_str ((([40] : List UInt8) ++ trunk) ++ x2) ([41, 32] : List UInt8)]; go_simp <;> (try simp only [List.length_append, List.length_cons, List.length_nil]) <;> omega) (fun _ _ _ h => h) ?_
      simp only [Act.put, List.setIfInBounds_toArray, List.set_cons_zero, List.set_cons_succ]
      refine seqI_call 77 #[.string ⟨x3.toArray⟩] rfl (by have m := HS9.out; obtain ⟨m0, m1, m2, m3⟩ := m; go_simp) (HGR.out _) ?_
      rintro e w10 ⟨rfl, rfl⟩
      refine ⟨_, rfl, HS9.out, ?_⟩
      simp only [Act.put, List.setIfInBounds_toArray, List.set_cons_zero, List.set_cons_succ]
      refine seqI_take (v := .string ⟨((((([40] : List UInt8) ++ trunk) ++ x2) ++ ([41, 32] : List UInt8)) ++ gs).toArray⟩) rfl (fun W hW => by obtain ⟨m0, m1, m2, m3⟩ := hW; rw [← cat_str (((([40] : List UInt8) ++ trunk) ++ x2) ++ ([41, 32] : List UInt8)) gs]; go_simp <;> (try simp only [List.length_append, List.length_cons, List.length_nil]) <;> omega) (fun _ _ _ h => h) ?_
      simp only [Act.put, List.setIfInBounds_toArray, List.set_cons_zero, List.set_cons_succ]
      refine seqI_take (v := .string ⟨((((([40] : List UInt8) ++ trunk) ++ x2) ++ ([41, 32] : List UInt8)) ++ gs).toArray⟩) rfl (fun W hW => by obtain ⟨m0, m1, m2, m3⟩ := hW; go_simp) (fun _ _ _ h => h) ?_
      simp only [Act.put, List.setIfInBounds_toArray, List.set_cons_zero, List.set_cons_succ]
      refine seqI_nil ?_
      clear HS0 HCAT HGR
      go_wp2_with fail
      go_ret
      exact ⟨by rw [HF.out]; exact congrArg (fun l : List UInt8 => Ending.returned (.string ⟨l.toArray⟩)) (show (40 :: (trunk ++ (x2 ++ 41 :: 32 :: gs))) = _ by simp), ext_trans (ext_drew (ext_alloc HB1.out)) HB9.out⟩
  · have hne2 : (x1 == code0) = false := by simpa using hcode
    have HF : Hid (R = ((((([43] : List UInt8) ++ x1) ++ ([32] : List UInt8)) ++ x2) ++ ([32] : List UInt8)) ++ gs) := by
      show _ = _
      rw [HDEF.out, formPre, if_neg (by rw [HCC.out]; exact hcode)]
      simp
    have hne3 : ¬ (x1 = code0) := hcode
    as_aux_lemma =>
      go_upto_region 3 with (fail)
      go_quiet (first | (go_at_call 77; refine Calls.quiet_of_same (v := .string ⟨gs.toArray⟩) ((HGR.out _).mono ?_); rintro e w' ⟨rfl, rfl⟩; exact ⟨rfl, rfl⟩))
      all_goals
        go_wp2_with fail
        go_ret
        exact ⟨by rw [HF.out]; simp only [cat_str]; rfl, (by (try show Below _ _ _); repeat (with_reducible first | exact Below.refl _ _ | assumption | exact Hid.out (by assumption) | refine ext_alloc ?_ | refine ext_drewN ?_ | refine ext_drew ?_ | refine ext_setCell ?_ (Nat.le_refl _) | refine ext_setCell ?_ (Nat.le_succ _) | refine ext_trans ?_ (by assumption) | (refine ext_setCell ?_ (by simp)) | (refine ext_setCell ?_ (by simp at *; omega))))⟩
end Go.Proofs.YthajppcmmmkfcaaGreatDoor

set_option linter.unusedVariables false
set_option linter.unusedSimpArgs false
namespace Go.Proofs.YthajppcmmmkfcaaGreatDoor
open Go.RowKit

theorem home_none {l : List Ctry} {code : List UInt8} (area : List UInt8) (h : (l.find? fun c => c.code == code) = none) : homeErr l code area = 8 := by unfold homeErr homeR; rw [h]; rfl
theorem home_empty {l : List Ctry} {code : List UInt8} {c : Ctry} (h : (l.find? fun c => c.code == code) = some c) : homeErr l code [] = 0 := by unfold homeErr homeR; rw [h]; rfl
theorem home_area {l : List Ctry} {code area : List UInt8} {c : Ctry} (ha : area ≠ []) (h : (l.find? fun c => c.code == code) = some c) : homeErr l code area = if (c.areas.any fun a => a.pre == area) = true then 0 else 8 := by
  unfold homeErr homeR
  rw [h]
  have : (area == []) = false := by cases area with
    | nil => exact absurd rfl ha
    | cons _ _ => rfl
  simp only [Option.bind_some, this, Bool.false_or]
  split <;> rfl

set_option maxRecDepth 100000 in
set_option maxHeartbeats 2000000 in
theorem homeFault_any (w : World) (a : Option Addr) (n cap : Nat) (l : List Ctry) (hr : CtryRow w a n l) (hcap : n ≤ cap) (hne : 1 ≤ n) (hna : ∀ i, i < l.length → 1 ≤ (l.getD i noCtry).an) (code area : List UInt8) : Calls Tryz.prog 13 #[.slice a n cap, .agg #[.string ⟨code.toArray⟩, .string ⟨area.toArray⟩]] w (ErrPost (homeErr l code area) w) := by
  have HR := Lib.hid hr
  have HNA := Lib.hid hna
  have HLEN := Lib.hid hr.len
  have hfew := hr.few
  have HN := Lib.hid (fun h => home_none (l := l) (code := code) area h)
  have HE0 := Lib.hid (fun (c : Ctry) h => home_empty (l := l) (code := code) (c := c) h)
  have HE1 := Lib.hid (fun (c : Ctry) (ha : area ≠ []) h => home_area (l := l) (code := code) (c := c) ha h)
  have HEE : Hid (area = [] → homeErr l code area = homeErr l code []) := fun h => by rw [h]
  generalize homeErr l code area = R at HN HE1 HEE ⊢
  clear hr hna
  go_enter Tryz.func13, Tryz.ntmps13
  go_wp2_with fail
  refine (countryAt_any _ a n cap l (HR.out.below (ext_alloc (Below.refl _ _))) hne code).mono ?_
  rintro e w1 ⟨r, rfl, hcase, hb1⟩
  have c0 : w1.cell? ⟨w.heap.size, 0, none⟩ = some (.string ⟨code.toArray⟩) := (hb1.cell (p := ⟨w.heap.size, 0, none⟩) (by simp)).trans (by go_simp)
  have c1 : w1.cell? ⟨w.heap.size, 1, none⟩ = some (.string ⟨area.toArray⟩) := (hb1.cell (p := ⟨w.heap.size, 1, none⟩) (by simp)).trans (by go_simp)
  have hz1 : w.heap.size < w1.heap.size := by have := hb1.size; simp at this; omega
  have HB1 : Hid (Below w.heap.size w w1) := ext_trans (ext_alloc (Below.refl _ _)) hb1
  have HR1 := Lib.hid (HR.out.below HB1.out)
  clear hb1
  rcases hcase with ⟨rfl, hnone⟩ | ⟨k, rfl, hk, hsome⟩
  · have HF := Lib.hid (HN.out hnone)
    clear hnone
    as_aux_lemma =>
      go_wp2_with fail
      go_ret
      exact ⟨by rw [HF.out]; rfl, HB1.out⟩
  · rcases HR1.out.row with h0 | ⟨b, off, rfl, hb, hcl⟩
    · omega
    have k3 := hcl k (by have := HLEN.out; omega) 3 (by omega)
    have HFI := Lib.hid (HR1.out.each k hk)
    have hsm := HNA.out k hk
    have hkn : k < n := by have := HLEN.out; omega
    have HS := Lib.hid hsome
    clear hcl hsome HN hk
    generalize l.getD k noCtry = c at k3 HFI hsm HS
    obtain ⟨code2, abroad, trunk, aa, an, ac, areas⟩ := c
    simp only [Ctry.cells, List.getElem?_cons_zero, List.getElem?_cons_succ] at k3
    simp only at hsm
    by_cases harea : area = []
    · have HF : Hid (R = 0) := by show _ = _; rw [HEE.out harea, HE0.out _ HS.out]
      subst harea
      as_aux_lemma =>
        go_wp2_with fail
        go_ret
        exact ⟨by rw [HF.out]; rfl, HB1.out⟩
    · have HF := Lib.hid (HE1.out _ harea HS.out)
      have hrow := HFI.out.row
      rcases hrow.row with h0 | ⟨ab, ao, haa, hab, hac⟩
      · have h9 : an = 0 := h0
        omega
      have haa : aa = some ⟨ab, ao, none⟩ := haa
      subst haa
      have hman : an ≤ 1000 := HFI.out.many
      have hl2 : an = areas.length := hrow.len
      have HCA : Hid (Calls Tryz.prog 57 #[.slice (some ⟨ab, ao, none⟩) an ac, .func (.func 58) #[] #[.pointer (some ⟨w.heap.size, 0, none⟩)]] w1 fun e w' => e = .returned (.bool (areas.any fun x => x.pre == area)) ∧ Below w1.heap.size w1 w') := by
        have hh := Tryz.slices_hasA Area.cells (fun x => rfl) (fun x => x.pre == area) 58 #[.pointer (some ⟨w.heap.size, 0, none⟩)] (fun args w => rfl) ab ao an ac areas w1 (areaAt_pred area w.heap.size w1 hz1 c1) (by rw [← hl2]; exact Nat.le_refl _) (by omega) hab (fun j hj i v hv => by
          have hi : i < 3 := by have := (List.getElem?_eq_some_iff.1 hv).1; simpa [Area.cells] using this
          rw [hac j (by rw [hl2]; exact hj) i hi, show areas.getD j noArea = areas[j]! by simp [hj]]
          exact hv)
        rw [List.take_of_length_le (by omega)] at hh
        exact hh
      have hne2 : area.isEmpty = false := by
        cases area with
        | nil => exact absurd rfl harea
        | cons x xs => rfl
      generalize (areas.any fun x => x.pre == area) = bb at HF HCA
      clear hac hl2 hrow
      as_aux_lemma =>
        go_wp2_with fail
        refine HCA.out.mono ?_
        rintro e w2 ⟨rfl, hb2⟩
        have HB2 : Hid (Below w.heap.size w w2) := ext_trans HB1.out hb2
        clear hb2
        cases bb
        · have HF2 : Hid (R = 8) := HF.out
          go_wp2_with fail
          go_ret
          exact ⟨by rw [HF2.out]; rfl, HB2.out⟩
        · have HF2 : Hid (R = 0) := HF.out
          go_wp2_with fail
          go_ret
          exact ⟨by rw [HF2.out]; rfl, HB2.out⟩
end Go.Proofs.YthajppcmmmkfcaaGreatDoor

set_option linter.unusedVariables false
set_option linter.unusedSimpArgs false
namespace Go.Proofs.YthajppcmmmkfcaaGreatDoor
open Go.RowKit

theorem bs_home8 (e : Operand → Value) (he : ∀ v, e (.const v) = v) (o : Oper) (w : World) (i0 : Nat) (i1 : Nat) (i2 : Nat) (i3 : Nat) (i4 : Nat) (i5 : Nat) (i6 : Nat) (i7 : Nat) (p0_0 : ByteArray) (p0_1 : ByteArray) (p1_0 : ByteArray) (p1_1 : ByteArray) (p2_0 : ByteArray) (p2_1 : ByteArray) (p3_0 : ByteArray) (p3_1 : ByteArray) (p4_0 : ByteArray) (p4_1 : ByteArray) (p5_0 : ByteArray) (p5_1 : ByteArray) (p6_0 : ByteArray) (p6_1 : ByteArray) (p7_0 : ByteArray) (p7_1 : ByteArray) (ho : o.op = .buildSlice 75 8 #[(0, .tmp i0), (1, .tmp i1), (2, .tmp i2), (3, .tmp i3), (4, .tmp i4), (5, .tmp i5), (6, .tmp i6), (7, .tmp i7)]) (h0 : e (.tmp i0) = .agg #[.string p0_0, .string p0_1]) (h1 : e (.tmp i1) = .agg #[.string p1_0, .string p1_1]) (h2 : e (.tmp i2) = .agg #[.string p2_0, .string p2_1]) (h3 : e (.tmp i3) = .agg #[.string p3_0, .string p3_1]) (h4 : e (.tmp i4) = .agg #[.string p4_0, .string p4_1]) (h5 : e (.tmp i5) = .agg #[.string p5_0, .string p5_1]) (h6 : e (.tmp i6) = .agg #[.string p6_0, .string p6_1]) (h7 : e (.tmp i7) = .agg #[.string p7_0, .string p7_1]) :
   (execOp e o).run Tryz.prog w = .ok (.value (.slice (some ⟨w.heap.size, 0, none⟩) 8 8)) (w.alloc (.cells #[.string p0_0, .string p0_1, .string p1_0, .string p1_1, .string p2_0, .string p2_1, .string p3_0, .string p3_1, .string p4_0, .string p4_1, .string p5_0, .string p5_1, .string p6_0, .string p6_1, .string p7_0, .string p7_1] 29)) := by
  unfold execOp
  rw [ho]
  simp only [List.map_toArray, List.map_cons, List.map_nil, h0, h1, h2, h3, h4, h5, h6, h7]
  kernel_rfl
/-- A home is handed out. -/
def HomeDPost (S k : Nat) (w : World) (e : Ending) (w' : World) : Prop :=
  ∃ code area : List UInt8, e = .returned (.agg #[.string ⟨code.toArray⟩, .string ⟨area.toArray⟩]) ∧ code.length ≤ 100 ∧ area.length ≤ 100 ∧ StreamOk w' S k ∧ Keeps S w w'

def homes8 : List (List UInt8 × List UInt8) := [([52, 57], [51, 48]), ([52, 57], [51, 48]), ([52, 57], [52]), ([52, 57], []), ([49], [50, 48]), ([49], []), ([53, 53], [49]), ([53, 53], [])]

set_option maxRecDepth 100000 in
set_option maxHeartbeats 4000000 in
theorem home_drawn (S k : Nat) (w : World) (h : StreamOk w S k) (hk : k ≤ 10000000) :
    Calls Tryz.prog 8 #[.pointer (some ⟨S, 0, none⟩)] w (HomeDPost S (k + 3) w) := by
  have HS := Lib.hid h
  have hlt := h.lt
  clear h
  go_enter Tryz.func8, Tryz.ntmps8
  go_wp2_with fail
  refine (flip_any S k 20 _ (HS.out.below (ext_alloc (Below.refl _ _))) (by omega) (by decide) (by decide)).mono ?_
  rintro e w1 ⟨fl, rfl, hst1, hk1⟩
  have HK1 := Lib.hid (((Keeps.refl S w).alloc _).trans hk1)
  have HS1 := Lib.hid hst1
  have hne : w.heap.size ≠ S := by omega
  have a0 : w1.cell? ⟨w.heap.size, 0, none⟩ = some (.string ⟨#[]⟩) := (hk1.cell (p := ⟨w.heap.size, 0, none⟩) (by simp) hne).trans (by go_simp)
  have a1 : w1.cell? ⟨w.heap.size, 1, none⟩ = some (.string ⟨#[]⟩) := (hk1.cell (p := ⟨w.heap.size, 1, none⟩) (by simp) hne).trans (by go_simp)
  have af : ∀ j, w1.frozen? ⟨w.heap.size, j, none⟩ = false := fun j => (hk1.frozen (p := ⟨w.heap.size, j, none⟩) (by simp) hne).trans (by go_simp)
  have hz1 : w.heap.size < w1.heap.size := by have := hk1.size; simp at this; omega
  have hS1 : S < w1.heap.size := hst1.lt
  clear hst1 hk1
  cases fl
  · skip
    as_aux_lemma =>
      go_wp2_with (refine wpList_val rfl (bs_home8 _ (fun _ => rfl) _ _ _ _ _ _ _ _ _ _ _ _ _ _ _ _ _ _ _ _ _ _ _ _ _ _ rfl rfl rfl rfl rfl rfl rfl rfl rfl) ?_)
      refine (next_any S (k + 1) 8 _ (HS1.out.below (ext_alloc (Below.refl _ _))) (by omega) (by decide) (by decide)).mono ?_
      rintro e w3 ⟨r, rfl, r0, r1, hst3, hk3⟩
      obtain ⟨r, rfl⟩ := Int.eq_ofNat_of_zero_le r0
      have hr : r < 8 := by omega
      have HK3 := Lib.hid ((HK1.out.alloc _).trans hk3)
      have HS3 := Lib.hid hst3
      have b0 : w3.cell? ⟨w.heap.size, 0, none⟩ = some (.string ⟨#[]⟩) := (hk3.cell (p := ⟨w.heap.size, 0, none⟩) (by show w.heap.size < _; simp; omega) hne).trans (by go_simp)
      have b1 : w3.cell? ⟨w.heap.size, 1, none⟩ = some (.string ⟨#[]⟩) := (hk3.cell (p := ⟨w.heap.size, 1, none⟩) (by show w.heap.size < _; simp; omega) hne).trans (by go_simp)
      have bf : ∀ j, w3.frozen? ⟨w.heap.size, j, none⟩ = false := fun j => (hk3.frozen (p := ⟨w.heap.size, j, none⟩) (by show w.heap.size < _; simp; omega) hne).trans (by go_simp)
      obtain ⟨code, area, q0, q1, hc, ha⟩ : ∃ code area : List UInt8, w3.cell? ⟨w1.heap.size, r * 2, none⟩ = some (.string ⟨code.toArray⟩) ∧ w3.cell? ⟨w1.heap.size, r * 2 + 1, none⟩ = some (.string ⟨area.toArray⟩) ∧ code.length ≤ 100 ∧ area.length ≤ 100 := by
        refine ⟨(homes8.getD r ([], [])).1, (homes8.getD r ([], [])).2, ?_, ?_, ?_, ?_⟩
        · refine (hk3.cell (p := ⟨w1.heap.size, r * 2, none⟩) (by simp) (by show w1.heap.size ≠ S; omega)).trans ?_
          rw [new_cell]
          match r, hr with
          | 0, _ | 1, _ | 2, _ | 3, _ | 4, _ | 5, _ | 6, _ | 7, _ => rfl
        · refine (hk3.cell (p := ⟨w1.heap.size, r * 2 + 1, none⟩) (by simp) (by show w1.heap.size ≠ S; omega)).trans ?_
          rw [new_cell]
          match r, hr with
          | 0, _ | 1, _ | 2, _ | 3, _ | 4, _ | 5, _ | 6, _ | 7, _ => rfl
        · match r, hr with
          | 0, _ | 1, _ | 2, _ | 3, _ | 4, _ | 5, _ | 6, _ | 7, _ => decide
        · match r, hr with
          | 0, _ | 1, _ | 2, _ | 3, _ | 4, _ | 5, _ | 6, _ | 7, _ => decide
      have hz3 : w1.heap.size < w3.heap.size := by have := hk3.size; simp at this; omega
      have hSW : S < w.heap.size := hlt
      have hwz : w.heap.size < w3.heap.size := by omega
      have HF : Hid (HomeDPost S (k + 3) w (.returned (.agg #[.string ⟨code.toArray⟩, .string ⟨area.toArray⟩])) ((w3.setCell ⟨w.heap.size, 0, none⟩ (.string ⟨code.toArray⟩)).setCell ⟨w.heap.size, 1, none⟩ (.string ⟨area.toArray⟩))) := ⟨code, area, rfl, hc, ha, (HS3.out.upto (((Below.refl (S + 1) w3).setCell (by show S + 1 ≤ w.heap.size; omega) _).setCell (by show S + 1 ≤ w.heap.size; omega) _)).mono (by omega), (HK3.out.setCell_new (p := ⟨w.heap.size, 0, none⟩) (Nat.le_refl _) _).setCell_new (p := ⟨w.heap.size, 1, none⟩) (Nat.le_refl _) _⟩
      clear hst3 hk3 a0 a1 af HK1 HS1 HK3 HS3 HS hc ha
      as_aux_lemma =>
        go_wp2_with fail
        refine bodyPost_ret (?_ : _ = Result.ok (.agg #[.string ⟨code.toArray⟩, .string ⟨area.toArray⟩]) _) rfl HF.out
        exact results_cell1 (t := 2) (by rfl) _ _ _ Tryz.isAgg29 Tryz.sizeOf29 (by rfl) [.string ⟨code.toArray⟩, .string ⟨area.toArray⟩] rfl (fun j v hj => by
          match j, hj with
          | 0, hj => rw [← Option.some.inj hj]; exact (World.cell?_setCell_other _ _ _ _ (by simp)).trans (World.cell?_setCell_same _ _ _ b0)
          | 1, hj => rw [← Option.some.inj hj]; exact World.cell?_setCell_same _ _ _ ((World.cell?_setCell_other _ _ _ _ (by simp)).trans b1)
          | n + 2, hj => simp at hj)
  · skip
    as_aux_lemma =>
      go_wp2_with fail
      refine (some_any S (k + 1) w1.heap.size 3 3 [[52, 57], [57], []] (fun x => x.length ≤ 100) _ (HS1.out.below (ext_alloc (Below.refl _ _))) (by omega) (by simp) (by omega) (by omega) (by omega) (fun i hi => by match i, hi with | 0, _ | 1, _ | 2, _ => go_simp) (fun i hi => by match i, hi with | 0, _ | 1, _ | 2, _ => decide)).mono ?_
      rintro e w2 ⟨code, rfl, hc, hst2, hk2⟩
      have HK2 := Lib.hid ((HK1.out.alloc _).trans hk2)
      have HS2 := Lib.hid hst2
      have hz2 : w1.heap.size < w2.heap.size := by have := hk2.size; simp at this; omega
      have hS2 : S < w2.heap.size := hst2.lt
      have HU := Lib.hid (And.intro a0 (And.intro a1 af))
      have HV : Hid (∀ j v, w1.cell? ⟨w.heap.size, j, none⟩ = some v → w2.cell? ⟨w.heap.size, j, none⟩ = some v) := fun j v h => (hk2.cell (p := ⟨w.heap.size, j, none⟩) (by show w.heap.size < _; simp; omega) hne).trans ((World.cell?_alloc_lt _ _ _ hz1).trans h)
      have HW : Hid (∀ j, w2.frozen? ⟨w.heap.size, j, none⟩ = false) := fun j => (hk2.frozen (p := ⟨w.heap.size, j, none⟩) (by show w.heap.size < _; simp; omega) hne).trans (by go_simp)
      clear hst2 hk2 a0 a1 af HK1 HS1 HS
      as_aux_lemma =>
        go_wp2_with fail
        refine (some_any S (k + 2) w2.heap.size 3 3 [[50, 48], [51], [120]] (fun x => x.length ≤ 100) _ (HS2.out.below (ext_alloc (Below.refl _ _))) (by omega) (by simp) (by omega) (by omega) (by omega) (fun i hi => by match i, hi with | 0, _ | 1, _ | 2, _ => go_simp) (fun i hi => by match i, hi with | 0, _ | 1, _ | 2, _ => decide)).mono ?_
        rintro e w3 ⟨area, rfl, ha, hst3, hk3⟩
        have HK3 := Lib.hid ((HK2.out.alloc _).trans hk3)
        have HS3 := Lib.hid hst3
        have b0 : w3.cell? ⟨w.heap.size, 0, none⟩ = some (.string ⟨#[]⟩) := (hk3.cell (p := ⟨w.heap.size, 0, none⟩) (by show w.heap.size < _; simp; omega) hne).trans ((World.cell?_alloc_lt _ _ _ (by show w.heap.size < _; omega)).trans (HV.out 0 _ HU.out.1))
        have b1 : w3.cell? ⟨w.heap.size, 1, none⟩ = some (.string ⟨#[]⟩) := (hk3.cell (p := ⟨w.heap.size, 1, none⟩) (by show w.heap.size < _; simp; omega) hne).trans ((World.cell?_alloc_lt _ _ _ (by show w.heap.size < _; omega)).trans (HV.out 1 _ HU.out.2.1))
        have hwz2 : w.heap.size < w2.heap.size := by omega
        have bf : ∀ j, w3.frozen? ⟨w.heap.size, j, none⟩ = false := fun j => (hk3.frozen (p := ⟨w.heap.size, j, none⟩) (by show w.heap.size < _; simp; omega) hne).trans (by have := HW.out j; go_simp)
        have hz3 : w2.heap.size < w3.heap.size := by have := hk3.size; simp at this; omega
        have hwz : w.heap.size < w3.heap.size := by omega
        have HF : Hid (HomeDPost S (k + 3) w (.returned (.agg #[.string ⟨code.toArray⟩, .string ⟨area.toArray⟩])) ((w3.setCell ⟨w.heap.size, 0, none⟩ (.string ⟨code.toArray⟩)).setCell ⟨w.heap.size, 1, none⟩ (.string ⟨area.toArray⟩))) := ⟨code, area, rfl, hc, ha, (HS3.out.upto (((Below.refl (S + 1) w3).setCell (by show S + 1 ≤ w.heap.size; omega) _).setCell (by show S + 1 ≤ w.heap.size; omega) _)).mono (by omega), (HK3.out.setCell_new (p := ⟨w.heap.size, 0, none⟩) (Nat.le_refl _) _).setCell_new (p := ⟨w.heap.size, 1, none⟩) (Nat.le_refl _) _⟩
        clear hst3 hk3 HK3 HS3 hc ha HU HV HW HK2 HS2
        as_aux_lemma =>
          go_wp2_with fail
          refine bodyPost_ret (?_ : _ = Result.ok (.agg #[.string ⟨code.toArray⟩, .string ⟨area.toArray⟩]) _) rfl HF.out
          exact results_cell1 (t := 2) (by rfl) _ _ _ Tryz.isAgg29 Tryz.sizeOf29 (by rfl) [.string ⟨code.toArray⟩, .string ⟨area.toArray⟩] rfl (fun j v hj => by
            match j, hj with
            | 0, hj => rw [← Option.some.inj hj]; exact (World.cell?_setCell_other _ _ _ _ (by simp)).trans (World.cell?_setCell_same _ _ _ b0)
            | 1, hj => rw [← Option.some.inj hj]; exact World.cell?_setCell_same _ _ _ ((World.cell?_setCell_other _ _ _ _ (by simp)).trans b1)
            | n + 2, hj => simp at hj)
end Go.Proofs.YthajppcmmmkfcaaGreatDoor
