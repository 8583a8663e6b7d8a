/- What is proved here: lemmas and contracts for the statement, put together out of smaller texts (FormWalk, FormRef, HomeFlt, HomeDraw, FormString, WayMath, WayLaw, WaySort, WayRight, WayOwn, WayDel). No condition beyond those stated. -/
import Derived.Test.YthajppcmmmkfcaaGreatDoorNrPkD
import Derived.Test.YthajppcmmmkfcaaGreatDoorNrPkE
import Derived.Test.YthajppcmmmkfcaaGreatDoorNrPkA
import Derived.Test.YthajppcmmmkfcaaGreatDoorNrPkC
import Derived.Test.YthajppcmmmkfcaaGreatDoorShelfRep
import Derived.Test.YthajppcmmmkfcaaGreatDoorShelfWays
import Derived.Lib.OwnBridge
import Derived.Deep.AppendLies
import Derived.Lib.SliceRun
set_option linter.unusedVariables false
set_option linter.unusedSimpArgs false
namespace Go.Proofs.YthajppcmmmkfcaaGreatDoor
open Go.RowKit

theorem spl_len {w : World} {a : Option Addr} {n : Nat} {l : List Ctry} (hr : CtryRow w a n l) (s : List UInt8) : (splitP l s).code.length ≤ 100 ∧ (splitP l s).area.length ≤ 100 ∧ (splitP l s).rest.length ≤ s.length := by
  unfold splitP
  split
  · simp [noSpl]
  · unfold splitIn
    cases hf : l.find? (fun c => Lib.hasPrefix (s.drop 1) c.code) with
    | none => simp [noSpl]
    | some c =>
      obtain ⟨i, hi, rfl⟩ := List.getElem_of_mem (List.mem_of_find?_eq_some hf)
      have hfin := hr.each i hi
      rw [show l.getD i noCtry = l[i] by simp [hi]] at hfin
      simp only [Option.bind_some]
      unfold inAreas
      cases hg : l[i].areas.find? (fun a => Lib.hasPrefix (s.drop (1 + l[i].code.length)) a.pre) with
      | none => simp [noSpl]
      | some x =>
        obtain ⟨j, hj, rfl⟩ := List.getElem_of_mem (List.mem_of_find?_eq_some hg)
        have hx := hfin.each j hj
        rw [show l[i].areas.getD j noArea = l[i].areas[j] by simp [hj]] at hx
        simp only [Option.map_some, Option.getD_some]
        unfold inArea
        split
        · simp [noSpl]
        · exact ⟨hfin.code, hx.pre, by simp⟩
theorem ctry_len {w : World} {a : Option Addr} {n : Nat} {l : List Ctry} (hr : CtryRow w a n l) {p : Ctry → Bool} {c : Ctry} (h : l.find? p = some c) : c.code.length ≤ 100 ∧ c.abroad.length ≤ 100 ∧ c.trunk.length ≤ 100 := by
  obtain ⟨i, hi, rfl⟩ := List.getElem_of_mem (List.mem_of_find?_eq_some h)
  have := hr.each i hi
  rw [show l.getD i noCtry = l[i] by simp [hi]] at this
  exact ⟨this.code, this.abroad, this.trunk⟩

def formTop (l : List Ctry) (code area n : List UInt8) : Int × List UInt8 :=
  if planErr l ≠ 0 then (planErr l, []) else match homeC l code area with
    | none => (8, [])
    | some c => if (splitP l n).err ≠ 0 then ((splitP l n).err, []) else (0, formP c (splitP l n))

set_option maxRecDepth 100000 in
set_option maxHeartbeats 4000000 in
theorem form_any (w : World) (a : Option Addr) (n cap : Nat) (l : List Ctry) (hr : CtryRow w a n l) (hcap : n ≤ cap) (hne : 1 ≤ n) (hna : ∀ i, i < l.length → 1 ≤ (l.getD i noCtry).an) (code0 area s : List UInt8) (hs : s.length ≤ 1000) :
    Calls Tryz.prog 29 #[.slice a n cap, .agg #[.string ⟨code0.toArray⟩, .string ⟨area.toArray⟩], .string ⟨s.toArray⟩] w (StrPost (formTop l code0 area s) w) := by
  have HR := Lib.hid hr
  have HNA := Lib.hid hna
  have HDEF : Hid (formTop l code0 area s = if planErr l ≠ 0 then (planErr l, ([] : List UInt8)) else match homeC l code0 area with | none => (8, []) | some c => if (splitP l s).err ≠ 0 then ((splitP l s).err, []) else (0, formP c (splitP l s))) := rfl
  generalize formTop l code0 area s = R at HDEF ⊢
  clear hr hna
  go_enter Tryz.func29, Tryz.ntmps29
  go_wp2_with fail
  refine (open_any _ a n cap l (HR.out.below (ext_alloc (Below.refl _ _))) hcap hne code0 area).mono ?_
  rintro e w1 ⟨hcase, hb1⟩
  have HB1 : Hid (Below w.heap.size w w1) := ext_trans (ext_alloc (Below.refl _ _)) hb1
  clear hb1
  rcases hcase with ⟨c, hpe, hhc, rfl⟩ | ⟨er, her, hcase, rfl⟩
  · have hcl := ctry_len HR.out (p := homeP code0 area) hhc
    have HD2 : Hid (R = if (splitP l s).err ≠ 0 then ((splitP l s).err, ([] : List UInt8)) else (0, formP c (splitP l s))) := by
      show _ = _
      rw [HDEF.out, if_neg (by simp [hpe]), hhc]
    clear HDEF hpe hhc
    generalize homeX c area = x
    obtain ⟨xp, xl, xh⟩ := x
    obtain ⟨code, abroad, trunk, aa, an, ac, areas⟩ := c
    obtain ⟨h1, h2, h3⟩ := hcl
    simp only [Ctry.cells, Area.cells] at h1 h2 h3 ⊢
    as_aux_lemma =>
      go_wp2_with fail
      refine (split_any _ a n cap l (HR.out.below (by (try show Below _ _ _); repeat (with_reducible first | exact Below.refl _ _ | assumption | exact Hid.out (by assumption) | refine ext_alloc ?_ | refine ext_drewN ?_ | refine ext_drew ?_ | refine ext_setCell ?_ (Nat.le_refl _) | refine ext_setCell ?_ (Nat.le_succ _) | refine ext_trans ?_ (by assumption) | (refine ext_setCell ?_ (by simp)) | (refine ext_setCell ?_ (by simp at *; omega))))) hne HNA.out s hs).mono ?_
      rintro e w5 ⟨y0, y1, y2, ya, yn, yc, y4, y5, y6, rfl, hb5⟩
      have c0 : w5.cell? ⟨w1.heap.size, 0, none⟩ = some (.string ⟨code.toArray⟩) := (hb5.cell (p := ⟨w1.heap.size, 0, none⟩) (by simp; omega)).trans (by go_simp)
      have c2 : w5.cell? ⟨w1.heap.size, 2, none⟩ = some (.string ⟨trunk.toArray⟩) := (hb5.cell (p := ⟨w1.heap.size, 2, none⟩) (by simp; omega)).trans (by go_simp)
      have hz5 : w1.heap.size < w5.heap.size := by have := hb5.size; simp at this; omega
      have HB5 : Hid (Below w.heap.size w w5) := ext_trans (by (try show Below _ _ _); repeat (with_reducible first | exact Below.refl _ _ | assumption | exact Hid.out (by assumption) | refine ext_alloc ?_ | refine ext_drewN ?_ | refine ext_drew ?_ | refine ext_setCell ?_ (Nat.le_refl _) | refine ext_setCell ?_ (Nat.le_succ _) | refine ext_trans ?_ (by assumption) | (refine ext_setCell ?_ (by simp)) | (refine ext_setCell ?_ (by simp at *; omega)))) hb5
      obtain ⟨z1, z2, z3⟩ := spl_len HR.out s
      clear hb5
      generalize splitP l s = X at HD2 z1 z2 z3 ⊢
      obtain ⟨er, x1, x2, x3⟩ := X
      simp only at HD2 z1 z2 z3 ⊢
      generalize w1.heap.size = G at *
      by_cases he : er = 0
      · subst he
        have HD3 := HD2
        by_cases hcode : x1 = code
        · obtain rfl : code = x1 := hcode.symm
          have HP : Hid (formP ⟨code, abroad, trunk, aa, an, ac, areas⟩ ⟨0, code, x2, x3⟩ = (((([40] : List UInt8) ++ trunk) ++ x2) ++ ([41, 32] : List UInt8)) ++ groupsB x3) := by
            show _ = _
            unfold formP formPre
            simp only
            rw [if_pos trivial]
            simp
          as_aux_lemma =>
            go_wp2_with fail
            rw [cat_str, cat_str, cat_str]
            have hPl : (((([40] : List UInt8) ++ trunk) ++ x2) ++ ([41, 32] : List UInt8)).length ≤ 400 := by simp only [List.length_append, List.length_cons, List.length_nil]; omega
            generalize ((([40] : List UInt8) ++ trunk) ++ x2) ++ ([41, 32] : List UInt8) = p0 at *
            go_loopw [12, 13] (fun y x wr => ∃ o r : List UInt8, y = .string ⟨o.toArray⟩ ∧ x = .string ⟨r.toArray⟩ ∧ Hid (o ++ groupsB r = p0 ++ groupsB x3) ∧ o.length + 2 * r.length ≤ 3000 ∧ Hid (Below w.heap.size w wr)) (fun _ x _ => strSz x)
            case atStart => exact ⟨p0, x3, rfl, rfl, rfl, by omega, (by (try show Below _ _ _); repeat (with_reducible first | exact Below.refl _ _ | assumption | exact Hid.out (by assumption) | refine ext_alloc ?_ | refine ext_drewN ?_ | refine ext_drew ?_ | refine ext_setCell ?_ (Nat.le_refl _) | refine ext_setCell ?_ (Nat.le_succ _) | refine ext_trans ?_ (by assumption) | (refine ext_setCell ?_ (by simp)) | (refine ext_setCell ?_ (by simp at *; omega))))⟩
            case round =>
              obtain ⟨o, r, rfl, rfl, HG, hlen, HBR⟩ := hrel
              by_cases hlt : 4 < r.length
              · have h3' : 3 ≤ r.length := by omega
                have HG2 : Hid ((o ++ (r.take 3 ++ [45])) ++ groupsB (r.drop 3) = p0 ++ groupsB x3) := by
                  show _ = _
                  rw [← HG.out, groups_more hlt]
                  simp
                have htk : (r.take 3).length = 3 := by simp; omega
                go_wp2_with fail
                rw [ext_take, extract_drop, cat_str, cat_str]
                go_roundw
                case rel => exact ⟨_, _, rfl, rfl, HG2, by simp; omega, HBR⟩
                case measure => rw [strSz_l, strSz_l]; simp; omega
              · have HF : Hid (R = (0, o ++ r)) := by
                  show _ = _
                  rw [HD3.out, if_neg (by simp), HP.out, ← HG.out, groups_end hlt]
                have hol : o.length ≤ 3000 := by omega
                go_wp2_with fail
                rw [cat_str]
                go_ret2
                exact ⟨by rw [HF.out]; rfl, HBR.out⟩
        · have hne2 : (x1 == code) = false := by simpa using hcode
          have hne3 : ¬ (x1 = code) := hcode
          have HP : Hid (formP ⟨code, abroad, trunk, aa, an, ac, areas⟩ ⟨0, x1, x2, x3⟩ = ((((([43] : List UInt8) ++ x1) ++ ([32] : List UInt8)) ++ x2) ++ ([32] : List UInt8)) ++ groupsB x3) := by
            show _ = _
            unfold formP formPre
            simp only
            rw [if_neg hne3]
            simp
          as_aux_lemma =>
            go_wp2_with fail
            simp only [cat_str]
            have hPl : ((((([43] : List UInt8) ++ x1) ++ ([32] : List UInt8)) ++ x2) ++ ([32] : List UInt8)).length ≤ 400 := by simp only [List.length_append, List.length_cons, List.length_nil]; omega
            generalize (((([43] : List UInt8) ++ x1) ++ ([32] : List UInt8)) ++ x2) ++ ([32] : List UInt8) = p0 at *
            go_loopw [12, 13] (fun y x wr => ∃ o r : List UInt8, y = .string ⟨o.toArray⟩ ∧ x = .string ⟨r.toArray⟩ ∧ Hid (o ++ groupsB r = p0 ++ groupsB x3) ∧ o.length + 2 * r.length ≤ 3000 ∧ Hid (Below w.heap.size w wr)) (fun _ x _ => strSz x)
            case atStart => exact ⟨p0, x3, rfl, rfl, rfl, by omega, (by (try show Below _ _ _); repeat (with_reducible first | exact Below.refl _ _ | assumption | exact Hid.out (by assumption) | refine ext_alloc ?_ | refine ext_drewN ?_ | refine ext_drew ?_ | refine ext_setCell ?_ (Nat.le_refl _) | refine ext_setCell ?_ (Nat.le_succ _) | refine ext_trans ?_ (by assumption) | (refine ext_setCell ?_ (by simp)) | (refine ext_setCell ?_ (by simp at *; omega))))⟩
            case round =>
              obtain ⟨o, r, rfl, rfl, HG, hlen, HBR⟩ := hrel
              by_cases hlt : 4 < r.length
              · have h3' : 3 ≤ r.length := by omega
                have HG2 : Hid ((o ++ (r.take 3 ++ [45])) ++ groupsB (r.drop 3) = p0 ++ groupsB x3) := by
                  show _ = _
                  rw [← HG.out, groups_more hlt]
                  simp
                have htk : (r.take 3).length = 3 := by simp; omega
                go_wp2_with fail
                rw [ext_take, extract_drop, cat_str, cat_str]
                go_roundw
                case rel => exact ⟨_, _, rfl, rfl, HG2, by simp; omega, HBR⟩
                case measure => rw [strSz_l, strSz_l]; simp; omega
              · have HF : Hid (R = (0, o ++ r)) := by
                  show _ = _
                  rw [HD3.out, if_neg (by simp), HP.out, ← HG.out, groups_end hlt]
                have hol : o.length ≤ 3000 := by omega
                go_wp2_with fail
                rw [cat_str]
                go_ret2
                exact ⟨by rw [HF.out]; rfl, HBR.out⟩
      · have HF2 : Hid (R = (er, [])) := by show _ = _; rw [HD2.out, if_pos he]
        as_aux_lemma =>
          go_wp2_with fail
          go_ret2
          exact ⟨by rw [HF2.out]; rfl, ext_alloc HB5.out⟩
  · have HF : Hid (R = (er, [])) := by
      show _ = _
      rcases hcase with h | ⟨h, rfl, h2⟩
      · rw [HDEF.out, if_pos (by rw [h]; exact her), h]
      · rw [HDEF.out, if_neg (by simp [h]), h2]
    clear HDEF hcase
    simp only [Ctry.cells, Area.cells, noCtry, noArea]
    as_aux_lemma =>
      go_wp2_with fail
      go_ret2
      exact ⟨by rw [HF.out]; rfl, (by (try show Below _ _ _); repeat (with_reducible first | exact Below.refl _ _ | assumption | exact Hid.out (by assumption) | refine ext_alloc ?_ | refine ext_drewN ?_ | refine ext_drew ?_ | refine ext_setCell ?_ (Nat.le_refl _) | refine ext_setCell ?_ (Nat.le_succ _) | refine ext_trans ?_ (by assumption) | (refine ext_setCell ?_ (by simp)) | (refine ext_setCell ?_ (by simp at *; omega))))⟩
end Go.Proofs.YthajppcmmmkfcaaGreatDoor

set_option linter.unusedVariables false
set_option linter.unusedSimpArgs false
namespace Go.Proofs.YthajppcmmmkfcaaGreatDoor
open Go.RowKit

set_option maxRecDepth 100000 in
theorem countryAt_idx (w : World) (a : Option Addr) (n cap : Nat) (l : List Ctry) (hr : CtryRow w a n l) (hne : 1 ≤ n) (code : List UInt8) : Calls Tryz.prog 56 #[.slice a n cap, .string ⟨code.toArray⟩] w fun e w' => e = .returned (.int .i64 (Lib.idxBy (fun _ y => y.code == code) l default)) ∧ Below w.heap.size w w' := by
  rcases hr.row with h0 | ⟨b, off, rfl, hb, hcl⟩
  · omega
  have HLEN := Lib.hid hr.len
  have hfew := hr.few
  have HENC := Lib.hid (ctry_enc hr.len hcl)
  clear hr hcl
  go_enter Tryz.func56, Tryz.ntmps56
  go_wp2_with fail
  refine (Tryz.slices_idxC Ctry.cells (fun x => rfl) (fun x => x.code == code) 95 #[.pointer (some ⟨w.heap.size, 0, none⟩)] (fun args w => rfl) b off n cap l _ (codeAt_pred code w.heap.size _ (by simp) (by go_simp)) (by have := HLEN.out; omega) (by omega) (by simp; omega) (fun j hj i v hv => (World.cell?_alloc_lt _ _ _ (by show b < _; omega)).trans (HENC.out j hj i v hv))).mono ?_
  rintro e w1 ⟨rfl, hb1⟩
  have HB1 : Hid (Below w.heap.size w w1) := ext_trans (ext_alloc (Below.refl _ _)) hb1
  rw [List.take_of_length_le (by have := HLEN.out; omega)]
  clear hb1
  generalize hq : Lib.idxBy (fun _ y => y.code == code) l default = r
  have HQ := Lib.hid hq
  clear hq
  go_wp2_with fail
  go_ret
  exact ⟨by rw [HQ.out]; rfl, HB1.out⟩

set_option maxRecDepth 100000 in
set_option maxHeartbeats 4000000 in
theorem formFrom_any (w : World) (a : Option Addr) (n cap : Nat) (l : List Ctry) (hr : CtryRow w a n l) (hcap : n ≤ cap) (hne : 1 ≤ n) (hE : planErr l = 0) (c : Ctry) (code0 area s : List UInt8) (hfc : (l.find? fun c => c.code == code0) = some c) (hs : s.length ≤ 1000) :
    Calls Tryz.prog 32 #[.slice a n cap, .agg #[.string ⟨code0.toArray⟩, .string ⟨area.toArray⟩], .string ⟨s.toArray⟩] w fun e w' => e = .returned (.string ⟨(formP c (splitP l s)).toArray⟩) ∧ Below w.heap.size w w' := by
  have HR := Lib.hid hr
  have HLEN := Lib.hid hr.len
  have hfew := hr.few
  have HFC := Lib.hid hfc
  have HCC : Hid (c.code = code0) := by
    have := List.find?_some hfc
    show _ = _
    simpa using this
  have HSS := Lib.hid (split_same s hE)
  obtain ⟨g1, g2, g3⟩ := ctry_len hr hfc
  obtain ⟨z1, z2, z3⟩ := spl_len hr s
  rcases hr.row with h0 | ⟨b, off, rfl, hb, _⟩
  · omega
  have HSP := Lib.hid (fun w9 (h9 : CtryRow w9 (some ⟨b, off, none⟩) n l) => splitOf_any w9 (some ⟨b, off, none⟩) n cap l h9 hcap s hs)
  rw [HSS.out] at HSP
  generalize splitP l s = X at z1 z2 z3 HSP ⊢
  obtain ⟨er, x1, x2, x3⟩ := X
  simp only at z1 z2 z3
  have HGR := Lib.hid (fun w => groups_any x3 (by omega) w)
  have hgl : (groupsB x3).length ≤ 2000 := Nat.le_trans (groups_len _ x3 (Nat.le_refl _)) (by omega)
  have HDEF : Hid (formP c ⟨er, x1, x2, x3⟩ = formPre c ⟨er, x1, x2, x3⟩ ++ groupsB x3) := rfl
  generalize formP c ⟨er, x1, x2, x3⟩ = R at HDEF ⊢
  generalize groupsB x3 = gs at HGR hgl HDEF
  clear hr hE hfc HSS
  go_enter Tryz.func32, Tryz.ntmps32
  go_wp2_with fail
  refine (HSP.out _ (HR.out.below (ext_alloc (Below.refl _ _)))).mono ?_
  rintro e w1 ⟨rfl, hb1⟩
  have e0 : w1.cell? ⟨w.heap.size, 0, none⟩ = some (.string ⟨code0.toArray⟩) := (hb1.cell (p := ⟨w.heap.size, 0, none⟩) (by simp)).trans (by go_simp)
  have HB1 : Hid (Below w.heap.size w w1) := ext_trans (ext_alloc (Below.refl _ _)) hb1
  have hz1 : w.heap.size < w1.heap.size := by have := hb1.size; simp at this; omega
  clear hb1
  simp only
  by_cases hcode : x1 = code0
  · obtain rfl : code0 = x1 := hcode.symm
    obtain ⟨k, hk, hck, hat⟩ : ∃ k : Nat, k < n ∧ l.getD k noCtry = c ∧ ∀ W : World, Below w1.heap.size w1 W → Calls Tryz.prog 56 #[.slice (some ⟨b, off, none⟩) n cap, .string ⟨code0.toArray⟩] W fun e w' => e = .returned (.int .i64 k) ∧ Below W.heap.size W w' := by
      have hidx := idx_find (fun x : Ctry => x.code == code0) l
      rcases hidx with ⟨_, hn⟩ | ⟨k, hk, hi, hs2, _⟩
      · rw [HFC.out] at hn; cases hn
      · refine ⟨k, by rw [HLEN.out]; exact hk, by rw [HFC.out] at hs2; injection hs2 with h; rw [h]; simp [hk], fun W hW => ?_⟩
        refine (countryAt_idx W _ n cap l (HR.out.below (ext_trans HB1.out hW)) hne code0).mono ?_
        rintro e w' ⟨rfl, hb⟩
        exact ⟨by rw [hi], hb⟩
    obtain ⟨code, abroad, trunk, aa, an, ac, areas⟩ := c
    have htr : trunk.length ≤ 100 := g3
    have hz2 : w1.heap.size < (w1.alloc (.cells #[.string ⟨code0.toArray⟩, .string ⟨x2.toArray⟩, .string ⟨x3.toArray⟩] 50)).heap.size := by simp
    have k2 : w1.cell? ⟨b, off + k * 4 + 2, none⟩ = some (.string ⟨trunk.toArray⟩) := by
      have hrw := HR.out.below HB1.out
      rcases hrw.row with h0 | ⟨b9, off9, ha9, hb9, hcl⟩
      · omega
      · injection ha9 with ha9
        injection ha9 with y1 y2
        subst y1 y2
        have := hcl k hk 2 (by omega)
        rw [hck] at this
        exact this
    have hbw : b < w1.heap.size := Nat.lt_of_lt_of_le hb HB1.out.size
    have hS0 : (fun W => W.cell? ⟨w.heap.size, 0, none⟩ = some (.string ⟨code0.toArray⟩) ∧ W.cell? ⟨w1.heap.size, 1, none⟩ = some (.string ⟨x2.toArray⟩) ∧ W.cell? ⟨w1.heap.size, 2, none⟩ = some (.string ⟨x3.toArray⟩) ∧ W.cell? ⟨b, off + k * 4 + 2, none⟩ = some (.string ⟨trunk.toArray⟩)) ((w1.alloc (.cells #[.string ⟨code0.toArray⟩, .string ⟨x2.toArray⟩, .string ⟨x3.toArray⟩] 50)).drew) := ⟨by go_simp, by go_simp, by go_simp, by go_simp⟩
    have HCAT : Hid (Calls Tryz.prog 56 #[.slice (some ⟨b, off, none⟩) n cap, .string ⟨code0.toArray⟩] ((w1.alloc (.cells #[.string ⟨code0.toArray⟩, .string ⟨x2.toArray⟩, .string ⟨x3.toArray⟩] 50)).drew) fun e w' => e = .returned (.int .i64 k) ∧ (fun W => W.cell? ⟨w.heap.size, 0, none⟩ = some (.string ⟨code0.toArray⟩) ∧ W.cell? ⟨w1.heap.size, 1, none⟩ = some (.string ⟨x2.toArray⟩) ∧ W.cell? ⟨w1.heap.size, 2, none⟩ = some (.string ⟨x3.toArray⟩) ∧ W.cell? ⟨b, off + k * 4 + 2, none⟩ = some (.string ⟨trunk.toArray⟩)) w' ∧ Below ((w1.alloc (.cells #[.string ⟨code0.toArray⟩, .string ⟨x2.toArray⟩, .string ⟨x3.toArray⟩] 50)).drew).heap.size ((w1.alloc (.cells #[.string ⟨code0.toArray⟩, .string ⟨x2.toArray⟩, .string ⟨x3.toArray⟩] 50)).drew) w') := by
      refine (hat _ (ext_drew (ext_alloc (Below.refl _ _)))).mono ?_
      rintro e w' ⟨rfl, hb9⟩
      obtain ⟨m0, m1, m2, m3⟩ := hS0
      exact ⟨rfl, ⟨(hb9.cell (p := ⟨w.heap.size, 0, none⟩) (by simp; omega)).trans m0, (hb9.cell (p := ⟨w1.heap.size, 1, none⟩) (by simp)).trans m1, (hb9.cell (p := ⟨w1.heap.size, 2, none⟩) (by simp)).trans m2, (hb9.cell (p := ⟨b, off + k * 4 + 2, none⟩) (by simp; omega)).trans m3⟩, hb9⟩
    have HS0 := Lib.hid hS0
    have HF : Hid (R = ((((([40] : List UInt8) ++ trunk) ++ x2) ++ ([41, 32] : List UInt8)) ++ gs)) := by
      show _ = _
      rw [HDEF.out, formPre, if_pos (by rw [HCC.out])]
      simp
    have hk64 : k < n := hk
    clear hS0 hat k2 hck
    skip
    as_aux_lemma =>
      go_upto_region 4 with (fail)
      refine region_seqI (S := fun W => W.cell? ⟨w.heap.size, 0, none⟩ = some (.string ⟨code0.toArray⟩) ∧ W.cell? ⟨w1.heap.size, 1, none⟩ = some (.string ⟨x2.toArray⟩) ∧ W.cell? ⟨w1.heap.size, 2, none⟩ = some (.string ⟨x3.toArray⟩) ∧ W.cell? ⟨b, off + k * 4 + 2, none⟩ = some (.string ⟨trunk.toArray⟩)) [(true, 0), (true, 1), (true, 2), (true, 3), (true, 9), (true, 10), (true, 13), (true, 14), (false, 4), (true, 5), (true, 6), (true, 7), (true, 8), (true, 11), (true, 12), (false, 15), (true, 16), (true, 17)] (by kernel_rfl) (by kernel_rfl) rfl (by kernel_rfl) HS0.out ?_
      simp only [seqOps, List.getD_cons_zero, List.getD_cons_succ]
      refine seqI_take (v := .slice (some ⟨b, off, none⟩) n cap) rfl (fun W hW => by obtain ⟨m0, m1, m2, m3⟩ := hW; go_simp) (fun _ _ _ h => h) ?_
      simp only [Act.put, List.setIfInBounds_toArray, List.set_cons_zero, List.set_cons_succ]
      refine seqI_take (v := .slice (some ⟨b, off, none⟩) n cap) rfl (fun W hW => by obtain ⟨m0, m1, m2, m3⟩ := hW; go_simp) (fun _ _ _ h => h) ?_
      simp only [Act.put, List.setIfInBounds_toArray, List.set_cons_zero, List.set_cons_succ]
      refine seqI_take (v := .pointer (some ⟨w.heap.size, 0, none⟩)) rfl (fun W hW => by obtain ⟨m0, m1, m2, m3⟩ := hW; go_simp) (fun _ _ _ h => h) ?_
      simp only [Act.put, List.setIfInBounds_toArray, List.set_cons_zero, List.set_cons_succ]
      refine seqI_take (v := .string ⟨code0.toArray⟩) rfl (fun W hW => by obtain ⟨m0, m1, m2, m3⟩ := hW; go_simp) (fun _ _ _ h => h) ?_
      simp only [Act.put, List.setIfInBounds_toArray, List.set_cons_zero, List.set_cons_succ]
      refine seqI_take (v := .pointer (some ⟨w1.heap.size, 1, none⟩)) rfl (fun W hW => by obtain ⟨m0, m1, m2, m3⟩ := hW; go_simp) (fun _ _ _ h => h) ?_
      simp only [Act.put, List.setIfInBounds_toArray, List.set_cons_zero, List.set_cons_succ]
      refine seqI_take (v := .string ⟨x2.toArray⟩) rfl (fun W hW => by obtain ⟨m0, m1, m2, m3⟩ := hW; go_simp) (fun _ _ _ h => h) ?_
      simp only [Act.put, List.setIfInBounds_toArray, List.set_cons_zero, List.set_cons_succ]
      refine seqI_take (v := .pointer (some ⟨w1.heap.size, 2, none⟩)) rfl (fun W hW => by obtain ⟨m0, m1, m2, m3⟩ := hW; go_simp) (fun _ _ _ h => h) ?_
      simp only [Act.put, List.setIfInBounds_toArray, List.set_cons_zero, List.set_cons_succ]
      refine seqI_take (v := .string ⟨x3.toArray⟩) rfl (fun W hW => by obtain ⟨m0, m1, m2, m3⟩ := hW; go_simp) (fun _ _ _ h => h) ?_
      simp only [Act.put, List.setIfInBounds_toArray, List.set_cons_zero, List.set_cons_succ]
      refine seqI_call 56 #[.slice (some ⟨b, off, none⟩) n cap, .string ⟨code0.toArray⟩] rfl (by have m := HS0.out; obtain ⟨m0, m1, m2, m3⟩ := m; go_simp) (HCAT.out) ?_
      rintro e w9 ⟨rfl, hS9, hb9⟩
      refine ⟨_, rfl, hS9, ?_⟩
      have HS9 := Lib.hid hS9
      have HB9 := Lib.hid hb9
      clear hS9 hb9
      simp only [Act.put, List.setIfInBounds_toArray, List.set_cons_zero, List.set_cons_succ]
      refine seqI_take (v := .pointer (some ⟨b, off + k * 4, none⟩)) rfl (fun W hW => by obtain ⟨m0, m1, m2, m3⟩ := hW; go_simp) (fun _ _ _ h => h) ?_
      simp only [Act.put, List.setIfInBounds_toArray, List.set_cons_zero, List.set_cons_succ]
      refine seqI_take (v := .pointer (some ⟨b, off + k * 4 + 2, none⟩)) rfl (fun W hW => by obtain ⟨m0, m1, m2, m3⟩ := hW; go_simp) (fun _ _ _ h => h) ?_
      simp only [Act.put, List.setIfInBounds_toArray, List.set_cons_zero, List.set_cons_succ]
      refine seqI_take (v := .string ⟨trunk.toArray⟩) rfl (fun W hW => by obtain ⟨m0, m1, m2, m3⟩ := hW; go_simp) (fun _ _ _ h => h) ?_
      simp only [Act.put, List.setIfInBounds_toArray, List.set_cons_zero, List.set_cons_succ]
      refine seqI_take (v := .string ⟨(([40] : List UInt8) ++ trunk).toArray⟩) rfl (fun W hW => by obtain ⟨m0, m1, m2, m3⟩ := hW; rw [← cat_str ([40] : List UInt8) trunk]; go_simp <;> (try simp only [List.length_append, List.length_cons, List.length_nil]) <;> omega) (fun _ _ _ h => h) ?_
      simp only [Act.put, List.setIfInBounds_toArray, List.set_cons_zero, List.set_cons_succ]
      refine seqI_take (v := .string ⟨((([40] : List UInt8) ++ trunk) ++ x2).toArray⟩) rfl (fun W hW => by obtain ⟨m0, m1, m2, m3⟩ := hW; rw [← cat_str (([40] : List UInt8) ++ trunk) x2]; go_simp <;> (try simp only [List.length_append, List.length_cons, List.length_nil]) <;> omega) (fun _ _ _ h => h) ?_
      simp only [Act.put, List.setIfInBounds_toArray, List.set_cons_zero, List.set_cons_succ]
      refine seqI_take (v := .string ⟨(((([40] : List UInt8) ++ trunk) ++ x2) ++ ([41, 32] : List UInt8)).toArray⟩) rfl (fun W hW => by obtain ⟨m0, m1, m2, m3⟩ := hW; rw [← cat_str ((([40] : List UInt8) ++ trunk) ++ x2) ([41, 32] : List UInt8)]; go_simp <;> (try simp only [List.length_append, List.length_cons, List.length_nil]) <;> omega) (fun _ _ _ h => h) ?_
      simp only [Act.put, List.setIfInBounds_toArray, List.set_cons_zero, List.set_cons_succ]
      refine seqI_call 77 #[.string ⟨x3.toArray⟩] rfl (by have m := HS9.out; obtain ⟨m0, m1, m2, m3⟩ := m; go_simp) (HGR.out _) ?_
      rintro e w10 ⟨rfl, rfl⟩
      refine ⟨_, rfl, HS9.out, ?_⟩
      simp only [Act.put, List.setIfInBounds_toArray, List.set_cons_zero, List.set_cons_succ]
      refine seqI_take (v := .string ⟨((((([40] : List UInt8) ++ trunk) ++ x2) ++ ([41, 32] : List UInt8)) ++ gs).toArray⟩) rfl (fun W hW => by obtain ⟨m0, m1, m2, m3⟩ := hW; rw [← cat_str (((([40] : List UInt8) ++ trunk) ++ x2) ++ ([41, 32] : List UInt8)) gs]; go_simp <;> (try simp only [List.length_append, List.length_cons, List.length_nil]) <;> omega) (fun _ _ _ h => h) ?_
      simp only [Act.put, List.setIfInBounds_toArray, List.set_cons_zero, List.set_cons_succ]
      refine seqI_take (v := .string ⟨((((([40] : List UInt8) ++ trunk) ++ x2) ++ ([41, 32] : List UInt8)) ++ gs).toArray⟩) rfl (fun W hW => by obtain ⟨m0, m1, m2, m3⟩ := hW; go_simp) (fun _ _ _ h => h) ?_
      simp only [Act.put, List.setIfInBounds_toArray, List.set_cons_zero, List.set_cons_succ]
      refine seqI_nil ?_
      clear HS0 HCAT HGR
      go_wp2_with fail
      go_ret
      exact ⟨by rw [HF.out]; exact congrArg (fun l : List UInt8 => Ending.returned (.string ⟨l.toArray⟩)) (show (40 :: (trunk ++ (x2 ++ 41 :: 32 :: gs))) = _ by simp), ext_trans (ext_drew (ext_alloc HB1.out)) HB9.out⟩
  · have hne2 : (x1 == code0) = false := by simpa using hcode
    have HF : Hid (R = ((((([43] : List UInt8) ++ x1) ++ ([32] : List UInt8)) ++ x2) ++ ([32] : List UInt8)) ++ gs) := by
      show _ = _
      rw [HDEF.out, formPre, if_neg (by rw [HCC.out]; exact hcode)]
      simp
    have hne3 : ¬ (x1 = code0) := hcode
    as_aux_lemma =>
      go_upto_region 3 with (fail)
      go_quiet (first | (go_at_call 77; refine Calls.quiet_of_same (v := .string ⟨gs.toArray⟩) ((HGR.out _).mono ?_); rintro e w' ⟨rfl, rfl⟩; exact ⟨rfl, rfl⟩))
      all_goals
        go_wp2_with fail
        go_ret
        exact ⟨by rw [HF.out]; simp only [cat_str]; rfl, (by (try show Below _ _ _); repeat (with_reducible first | exact Below.refl _ _ | assumption | exact Hid.out (by assumption) | refine ext_alloc ?_ | refine ext_drewN ?_ | refine ext_drew ?_ | refine ext_setCell ?_ (Nat.le_refl _) | refine ext_setCell ?_ (Nat.le_succ _) | refine ext_trans ?_ (by assumption) | (refine ext_setCell ?_ (by simp)) | (refine ext_setCell ?_ (by simp at *; omega))))⟩
end Go.Proofs.YthajppcmmmkfcaaGreatDoor

set_option linter.unusedVariables false
set_option linter.unusedSimpArgs false
namespace Go.Proofs.YthajppcmmmkfcaaGreatDoor
open Go.RowKit

theorem home_none {l : List Ctry} {code : List UInt8} (area : List UInt8) (h : (l.find? fun c => c.code == code) = none) : homeErr l code area = 8 := by unfold homeErr homeR; rw [h]; rfl
theorem home_empty {l : List Ctry} {code : List UInt8} {c : Ctry} (h : (l.find? fun c => c.code == code) = some c) : homeErr l code [] = 0 := by unfold homeErr homeR; rw [h]; rfl
theorem home_area {l : List Ctry} {code area : List UInt8} {c : Ctry} (ha : area ≠ []) (h : (l.find? fun c => c.code == code) = some c) : homeErr l code area = if (c.areas.any fun a => a.pre == area) = true then 0 else 8 := by
  unfold homeErr homeR
  rw [h]
  have : (area == []) = false := by cases area with
    | nil => exact absurd rfl ha
    | cons _ _ => rfl
  simp only [Option.bind_some, this, Bool.false_or]
  split <;> rfl

set_option maxRecDepth 100000 in
set_option maxHeartbeats 2000000 in
theorem homeFault_any (w : World) (a : Option Addr) (n cap : Nat) (l : List Ctry) (hr : CtryRow w a n l) (hcap : n ≤ cap) (hne : 1 ≤ n) (hna : ∀ i, i < l.length → 1 ≤ (l.getD i noCtry).an) (code area : List UInt8) : Calls Tryz.prog 13 #[.slice a n cap, .agg #[.string ⟨code.toArray⟩, .string ⟨area.toArray⟩]] w (ErrPost (homeErr l code area) w) := by
  have HR := Lib.hid hr
  have HNA := Lib.hid hna
  have HLEN := Lib.hid hr.len
  have hfew := hr.few
  have HN := Lib.hid (fun h => home_none (l := l) (code := code) area h)
  have HE0 := Lib.hid (fun (c : Ctry) h => home_empty (l := l) (code := code) (c := c) h)
  have HE1 := Lib.hid (fun (c : Ctry) (ha : area ≠ []) h => home_area (l := l) (code := code) (c := c) ha h)
  have HEE : Hid (area = [] → homeErr l code area = homeErr l code []) := fun h => by rw [h]
  generalize homeErr l code area = R at HN HE1 HEE ⊢
  clear hr hna
  go_enter Tryz.func13, Tryz.ntmps13
  go_wp2_with fail
  refine (countryAt_any _ a n cap l (HR.out.below (ext_alloc (Below.refl _ _))) hne code).mono ?_
  rintro e w1 ⟨r, rfl, hcase, hb1⟩
  have c0 : w1.cell? ⟨w.heap.size, 0, none⟩ = some (.string ⟨code.toArray⟩) := (hb1.cell (p := ⟨w.heap.size, 0, none⟩) (by simp)).trans (by go_simp)
  have c1 : w1.cell? ⟨w.heap.size, 1, none⟩ = some (.string ⟨area.toArray⟩) := (hb1.cell (p := ⟨w.heap.size, 1, none⟩) (by simp)).trans (by go_simp)
  have hz1 : w.heap.size < w1.heap.size := by have := hb1.size; simp at this; omega
  have HB1 : Hid (Below w.heap.size w w1) := ext_trans (ext_alloc (Below.refl _ _)) hb1
  have HR1 := Lib.hid (HR.out.below HB1.out)
  clear hb1
  rcases hcase with ⟨rfl, hnone⟩ | ⟨k, rfl, hk, hsome⟩
  · have HF := Lib.hid (HN.out hnone)
    clear hnone
    as_aux_lemma =>
      go_wp2_with fail
      go_ret
      exact ⟨by rw [HF.out]; rfl, HB1.out⟩
  · rcases HR1.out.row with h0 | ⟨b, off, rfl, hb, hcl⟩
    · omega
    have k3 := hcl k (by have := HLEN.out; omega) 3 (by omega)
    have HFI := Lib.hid (HR1.out.each k hk)
    have hsm := HNA.out k hk
    have hkn : k < n := by have := HLEN.out; omega
    have HS := Lib.hid hsome
    clear hcl hsome HN hk
    generalize l.getD k noCtry = c at k3 HFI hsm HS
    obtain ⟨code2, abroad, trunk, aa, an, ac, areas⟩ := c
    simp only [Ctry.cells, List.getElem?_cons_zero, List.getElem?_cons_succ] at k3
    simp only at hsm
    by_cases harea : area = []
    · have HF : Hid (R = 0) := by show _ = _; rw [HEE.out harea, HE0.out _ HS.out]
      subst harea
      as_aux_lemma =>
        go_wp2_with fail
        go_ret
        exact ⟨by rw [HF.out]; rfl, HB1.out⟩
    · have HF := Lib.hid (HE1.out _ harea HS.out)
      have hrow := HFI.out.row
      rcases hrow.row with h0 | ⟨ab, ao, haa, hab, hac⟩
      · have h9 : an = 0 := h0
        omega
      have haa : aa = some ⟨ab, ao, none⟩ := haa
      subst haa
      have hman : an ≤ 1000 := HFI.out.many
      have hl2 : an = areas.length := hrow.len
      have HCA : Hid (Calls Tryz.prog 57 #[.slice (some ⟨ab, ao, none⟩) an ac, .func (.func 58) #[] #[.pointer (some ⟨w.heap.size, 0, none⟩)]] w1 fun e w' => e = .returned (.bool (areas.any fun x => x.pre == area)) ∧ Below w1.heap.size w1 w') := by
        have hh := Tryz.slices_hasA Area.cells (fun x => rfl) (fun x => x.pre == area) 58 #[.pointer (some ⟨w.heap.size, 0, none⟩)] (fun args w => rfl) ab ao an ac areas w1 (areaAt_pred area w.heap.size w1 hz1 c1) (by rw [← hl2]; exact Nat.le_refl _) (by omega) hab (fun j hj i v hv => by
          have hi : i < 3 := by have := (List.getElem?_eq_some_iff.1 hv).1; simpa [Area.cells] using this
          rw [hac j (by rw [hl2]; exact hj) i hi, show areas.getD j noArea = areas[j]! by simp [hj]]
          exact hv)
        rw [List.take_of_length_le (by omega)] at hh
        exact hh
      have hne2 : area.isEmpty = false := by
        cases area with
        | nil => exact absurd rfl harea
        | cons x xs => rfl
      generalize (areas.any fun x => x.pre == area) = bb at HF HCA
      clear hac hl2 hrow
      as_aux_lemma =>
        go_wp2_with fail
        refine HCA.out.mono ?_
        rintro e w2 ⟨rfl, hb2⟩
        have HB2 : Hid (Below w.heap.size w w2) := ext_trans HB1.out hb2
        clear hb2
        cases bb
        · have HF2 : Hid (R = 8) := HF.out
          go_wp2_with fail
          go_ret
          exact ⟨by rw [HF2.out]; rfl, HB2.out⟩
        · have HF2 : Hid (R = 0) := HF.out
          go_wp2_with fail
          go_ret
          exact ⟨by rw [HF2.out]; rfl, HB2.out⟩
end Go.Proofs.YthajppcmmmkfcaaGreatDoor

set_option linter.unusedVariables false
set_option linter.unusedSimpArgs false
namespace Go.Proofs.YthajppcmmmkfcaaGreatDoor
open Go.RowKit

theorem bs_home8 (e : Operand → Value) (he : ∀ v, e (.const v) = v) (o : Oper) (w : World) (i0 : Nat) (i1 : Nat) (i2 : Nat) (i3 : Nat) (i4 : Nat) (i5 : Nat) (i6 : Nat) (i7 : Nat) (p0_0 : ByteArray) (p0_1 : ByteArray) (p1_0 : ByteArray) (p1_1 : ByteArray) (p2_0 : ByteArray) (p2_1 : ByteArray) (p3_0 : ByteArray) (p3_1 : ByteArray) (p4_0 : ByteArray) (p4_1 : ByteArray) (p5_0 : ByteArray) (p5_1 : ByteArray) (p6_0 : ByteArray) (p6_1 : ByteArray) (p7_0 : ByteArray) (p7_1 : ByteArray) (ho : o.op = .buildSlice 75 8 #[(0, .tmp i0), (1, .tmp i1), (2, .tmp i2), (3, .tmp i3), (4, .tmp i4), (5, .tmp i5), (6, .tmp i6), (7, .tmp i7)]) (h0 : e (.tmp i0) = .agg #[.string p0_0, .string p0_1]) (h1 : e (.tmp i1) = .agg #[.string p1_0, .string p1_1]) (h2 : e (.tmp i2) = .agg #[.string p2_0, .string p2_1]) (h3 : e (.tmp i3) = .agg #[.string p3_0, .string p3_1]) (h4 : e (.tmp i4) = .agg #[.string p4_0, .string p4_1]) (h5 : e (.tmp i5) = .agg #[.string p5_0, .string p5_1]) (h6 : e (.tmp i6) = .agg #[.string p6_0, .string p6_1]) (h7 : e (.tmp i7) = .agg #[.string p7_0, .string p7_1]) :
   (execOp e o).run Tryz.prog w = .ok (.value (.slice (some ⟨w.heap.size, 0, none⟩) 8 8)) (w.alloc (.cells #[.string p0_0, .string p0_1, .string p1_0, .string p1_1, .string p2_0, .string p2_1, .string p3_0, .string p3_1, .string p4_0, .string p4_1, .string p5_0, .string p5_1, .string p6_0, .string p6_1, .string p7_0, .string p7_1] 29)) := by
  unfold execOp
  rw [ho]
  simp only [List.map_toArray, List.map_cons, List.map_nil, h0, h1, h2, h3, h4, h5, h6, h7]
  kernel_rfl
/-- A home is handed out. -/
def HomeDPost (S k : Nat) (w : World) (e : Ending) (w' : World) : Prop :=
  ∃ code area : List UInt8, e = .returned (.agg #[.string ⟨code.toArray⟩, .string ⟨area.toArray⟩]) ∧ code.length ≤ 100 ∧ area.length ≤ 100 ∧ StreamOk w' S k ∧ Keeps S w w'

def homes8 : List (List UInt8 × List UInt8) := [([52, 57], [51, 48]), ([52, 57], [51, 48]), ([52, 57], [52]), ([52, 57], []), ([49], [50, 48]), ([49], []), ([53, 53], [49]), ([53, 53], [])]

set_option maxRecDepth 100000 in
set_option maxHeartbeats 4000000 in
theorem home_drawn (S k : Nat) (w : World) (h : StreamOk w S k) (hk : k ≤ 10000000) :
    Calls Tryz.prog 8 #[.pointer (some ⟨S, 0, none⟩)] w (HomeDPost S (k + 3) w) := by
  have HS := Lib.hid h
  have hlt := h.lt
  clear h
  go_enter Tryz.func8, Tryz.ntmps8
  go_wp2_with fail
  refine (flip_any S k 20 _ (HS.out.below (ext_alloc (Below.refl _ _))) (by omega) (by decide) (by decide)).mono ?_
  rintro e w1 ⟨fl, rfl, hst1, hk1⟩
  have HK1 := Lib.hid (((Keeps.refl S w).alloc _).trans hk1)
  have HS1 := Lib.hid hst1
  have hne : w.heap.size ≠ S := by omega
  have a0 : w1.cell? ⟨w.heap.size, 0, none⟩ = some (.string ⟨#[]⟩) := (hk1.cell (p := ⟨w.heap.size, 0, none⟩) (by simp) hne).trans (by go_simp)
  have a1 : w1.cell? ⟨w.heap.size, 1, none⟩ = some (.string ⟨#[]⟩) := (hk1.cell (p := ⟨w.heap.size, 1, none⟩) (by simp) hne).trans (by go_simp)
  have af : ∀ j, w1.frozen? ⟨w.heap.size, j, none⟩ = false := fun j => (hk1.frozen (p := ⟨w.heap.size, j, none⟩) (by simp) hne).trans (by go_simp)
  have hz1 : w.heap.size < w1.heap.size := by have := hk1.size; simp at this; omega
  have hS1 : S < w1.heap.size := hst1.lt
  clear hst1 hk1
  cases fl
  · skip
    as_aux_lemma =>
      go_wp2_with (refine wpList_val rfl (bs_home8 _ (fun _ => rfl) _ _ _ _ _ _ _ _ _ _ _ _ _ _ _ _ _ _ _ _ _ _ _ _ _ _ rfl rfl rfl rfl rfl rfl rfl rfl rfl) ?_)
      refine (next_any S (k + 1) 8 _ (HS1.out.below (ext_alloc (Below.refl _ _))) (by omega) (by decide) (by decide)).mono ?_
      rintro e w3 ⟨r, rfl, r0, r1, hst3, hk3⟩
      obtain ⟨r, rfl⟩ := Int.eq_ofNat_of_zero_le r0
      have hr : r < 8 := by omega
      have HK3 := Lib.hid ((HK1.out.alloc _).trans hk3)
      have HS3 := Lib.hid hst3
      have b0 : w3.cell? ⟨w.heap.size, 0, none⟩ = some (.string ⟨#[]⟩) := (hk3.cell (p := ⟨w.heap.size, 0, none⟩) (by show w.heap.size < _; simp; omega) hne).trans (by go_simp)
      have b1 : w3.cell? ⟨w.heap.size, 1, none⟩ = some (.string ⟨#[]⟩) := (hk3.cell (p := ⟨w.heap.size, 1, none⟩) (by show w.heap.size < _; simp; omega) hne).trans (by go_simp)
      have bf : ∀ j, w3.frozen? ⟨w.heap.size, j, none⟩ = false := fun j => (hk3.frozen (p := ⟨w.heap.size, j, none⟩) (by show w.heap.size < _; simp; omega) hne).trans (by go_simp)
      obtain ⟨code, area, q0, q1, hc, ha⟩ : ∃ code area : List UInt8, w3.cell? ⟨w1.heap.size, r * 2, none⟩ = some (.string ⟨code.toArray⟩) ∧ w3.cell? ⟨w1.heap.size, r * 2 + 1, none⟩ = some (.string ⟨area.toArray⟩) ∧ code.length ≤ 100 ∧ area.length ≤ 100 := by
        refine ⟨(homes8.getD r ([], [])).1, (homes8.getD r ([], [])).2, ?_, ?_, ?_, ?_⟩
        · refine (hk3.cell (p := ⟨w1.heap.size, r * 2, none⟩) (by simp) (by show w1.heap.size ≠ S; omega)).trans ?_
          rw [new_cell]
          match r, hr with
          | 0, _ | 1, _ | 2, _ | 3, _ | 4, _ | 5, _ | 6, _ | 7, _ => rfl
        · refine (hk3.cell (p := ⟨w1.heap.size, r * 2 + 1, none⟩) (by simp) (by show w1.heap.size ≠ S; omega)).trans ?_
          rw [new_cell]
          match r, hr with
          | 0, _ | 1, _ | 2, _ | 3, _ | 4, _ | 5, _ | 6, _ | 7, _ => rfl
        · match r, hr with
          | 0, _ | 1, _ | 2, _ | 3, _ | 4, _ | 5, _ | 6, _ | 7, _ => decide
        · match r, hr with
          | 0, _ | 1, _ | 2, _ | 3, _ | 4, _ | 5, _ | 6, _ | 7, _ => decide
      have hz3 : w1.heap.size < w3.heap.size := by have := hk3.size; simp at this; omega
      have hSW : S < w.heap.size := hlt
      have hwz : w.heap.size < w3.heap.size := by omega
      have HF : Hid (HomeDPost S (k + 3) w (.returned (.agg #[.string ⟨code.toArray⟩, .string ⟨area.toArray⟩])) ((w3.setCell ⟨w.heap.size, 0, none⟩ (.string ⟨code.toArray⟩)).setCell ⟨w.heap.size, 1, none⟩ (.string ⟨area.toArray⟩))) := ⟨code, area, rfl, hc, ha, (HS3.out.upto (((Below.refl (S + 1) w3).setCell (by show S + 1 ≤ w.heap.size; omega) _).setCell (by show S + 1 ≤ w.heap.size; omega) _)).mono (by omega), (HK3.out.setCell_new (p := ⟨w.heap.size, 0, none⟩) (Nat.le_refl _) _).setCell_new (p := ⟨w.heap.size, 1, none⟩) (Nat.le_refl _) _⟩
      clear hst3 hk3 a0 a1 af HK1 HS1 HK3 HS3 HS hc ha
      as_aux_lemma =>
        go_wp2_with fail
        refine bodyPost_ret (?_ : _ = Result.ok (.agg #[.string ⟨code.toArray⟩, .string ⟨area.toArray⟩]) _) rfl HF.out
        exact results_cell1 (t := 2) (by rfl) _ _ _ Tryz.isAgg29 Tryz.sizeOf29 (by rfl) [.string ⟨code.toArray⟩, .string ⟨area.toArray⟩] rfl (fun j v hj => by
          match j, hj with
          | 0, hj => rw [← Option.some.inj hj]; exact (World.cell?_setCell_other _ _ _ _ (by simp)).trans (World.cell?_setCell_same _ _ _ b0)
          | 1, hj => rw [← Option.some.inj hj]; exact World.cell?_setCell_same _ _ _ ((World.cell?_setCell_other _ _ _ _ (by simp)).trans b1)
          | n + 2, hj => simp at hj)
  · skip
    as_aux_lemma =>
      go_wp2_with fail
      refine (some_any S (k + 1) w1.heap.size 3 3 [[52, 57], [57], []] (fun x => x.length ≤ 100) _ (HS1.out.below (ext_alloc (Below.refl _ _))) (by omega) (by simp) (by omega) (by omega) (by omega) (fun i hi => by match i, hi with | 0, _ | 1, _ | 2, _ => go_simp) (fun i hi => by match i, hi with | 0, _ | 1, _ | 2, _ => decide)).mono ?_
      rintro e w2 ⟨code, rfl, hc, hst2, hk2⟩
      have HK2 := Lib.hid ((HK1.out.alloc _).trans hk2)
      have HS2 := Lib.hid hst2
      have hz2 : w1.heap.size < w2.heap.size := by have := hk2.size; simp at this; omega
      have hS2 : S < w2.heap.size := hst2.lt
      have HU := Lib.hid (And.intro a0 (And.intro a1 af))
      have HV : Hid (∀ j v, w1.cell? ⟨w.heap.size, j, none⟩ = some v → w2.cell? ⟨w.heap.size, j, none⟩ = some v) := fun j v h => (hk2.cell (p := ⟨w.heap.size, j, none⟩) (by show w.heap.size < _; simp; omega) hne).trans ((World.cell?_alloc_lt _ _ _ hz1).trans h)
      have HW : Hid (∀ j, w2.frozen? ⟨w.heap.size, j, none⟩ = false) := fun j => (hk2.frozen (p := ⟨w.heap.size, j, none⟩) (by show w.heap.size < _; simp; omega) hne).trans (by go_simp)
      clear hst2 hk2 a0 a1 af HK1 HS1 HS
      as_aux_lemma =>
        go_wp2_with fail
        refine (some_any S (k + 2) w2.heap.size 3 3 [[50, 48], [51], [120]] (fun x => x.length ≤ 100) _ (HS2.out.below (ext_alloc (Below.refl _ _))) (by omega) (by simp) (by omega) (by omega) (by omega) (fun i hi => by match i, hi with | 0, _ | 1, _ | 2, _ => go_simp) (fun i hi => by match i, hi with | 0, _ | 1, _ | 2, _ => decide)).mono ?_
        rintro e w3 ⟨area, rfl, ha, hst3, hk3⟩
        have HK3 := Lib.hid ((HK2.out.alloc _).trans hk3)
        have HS3 := Lib.hid hst3
        have b0 : w3.cell? ⟨w.heap.size, 0, none⟩ = some (.string ⟨#[]⟩) := (hk3.cell (p := ⟨w.heap.size, 0, none⟩) (by show w.heap.size < _; simp; omega) hne).trans ((World.cell?_alloc_lt _ _ _ (by show w.heap.size < _; omega)).trans (HV.out 0 _ HU.out.1))
        have b1 : w3.cell? ⟨w.heap.size, 1, none⟩ = some (.string ⟨#[]⟩) := (hk3.cell (p := ⟨w.heap.size, 1, none⟩) (by show w.heap.size < _; simp; omega) hne).trans ((World.cell?_alloc_lt _ _ _ (by show w.heap.size < _; omega)).trans (HV.out 1 _ HU.out.2.1))
        have hwz2 : w.heap.size < w2.heap.size := by omega
        have bf : ∀ j, w3.frozen? ⟨w.heap.size, j, none⟩ = false := fun j => (hk3.frozen (p := ⟨w.heap.size, j, none⟩) (by show w.heap.size < _; simp; omega) hne).trans (by have := HW.out j; go_simp)
        have hz3 : w2.heap.size < w3.heap.size := by have := hk3.size; simp at this; omega
        have hwz : w.heap.size < w3.heap.size := by omega
        have HF : Hid (HomeDPost S (k + 3) w (.returned (.agg #[.string ⟨code.toArray⟩, .string ⟨area.toArray⟩])) ((w3.setCell ⟨w.heap.size, 0, none⟩ (.string ⟨code.toArray⟩)).setCell ⟨w.heap.size, 1, none⟩ (.string ⟨area.toArray⟩))) := ⟨code, area, rfl, hc, ha, (HS3.out.upto (((Below.refl (S + 1) w3).setCell (by show S + 1 ≤ w.heap.size; omega) _).setCell (by show S + 1 ≤ w.heap.size; omega) _)).mono (by omega), (HK3.out.setCell_new (p := ⟨w.heap.size, 0, none⟩) (Nat.le_refl _) _).setCell_new (p := ⟨w.heap.size, 1, none⟩) (Nat.le_refl _) _⟩
        clear hst3 hk3 HK3 HS3 hc ha HU HV HW HK2 HS2
        as_aux_lemma =>
          go_wp2_with fail
          refine bodyPost_ret (?_ : _ = Result.ok (.agg #[.string ⟨code.toArray⟩, .string ⟨area.toArray⟩]) _) rfl HF.out
          exact results_cell1 (t := 2) (by rfl) _ _ _ Tryz.isAgg29 Tryz.sizeOf29 (by rfl) [.string ⟨code.toArray⟩, .string ⟨area.toArray⟩] rfl (fun j v hj => by
            match j, hj with
            | 0, hj => rw [← Option.some.inj hj]; exact (World.cell?_setCell_other _ _ _ _ (by simp)).trans (World.cell?_setCell_same _ _ _ b0)
            | 1, hj => rw [← Option.some.inj hj]; exact World.cell?_setCell_same _ _ _ ((World.cell?_setCell_other _ _ _ _ (by simp)).trans b1)
            | n + 2, hj => simp at hj)
end Go.Proofs.YthajppcmmmkfcaaGreatDoor

set_option linter.unusedVariables false
set_option linter.unusedSimpArgs false
namespace Go.Proofs.YthajppcmmmkfcaaGreatDoor
open Go.RowKit

theorem bs_form14 (e : Operand → Value) (he : ∀ v, e (.const v) = v) (o : Oper) (w : World) (i10 : Nat) (i11 : Nat) (p0 : ByteArray) (p1 : ByteArray) (p2 : ByteArray) (p3 : ByteArray) (p4 : ByteArray) (p5 : ByteArray) (p6 : ByteArray) (p7 : ByteArray) (p8 : ByteArray) (p9 : ByteArray) (p10 : ByteArray) (p11 : ByteArray) (p12 : ByteArray) (p13 : ByteArray) (ho : o.op = .buildSlice 46 14 #[(0, .const (.string p0)), (1, .const (.string p1)), (2, .const (.string p2)), (3, .const (.string p3)), (4, .const (.string p4)), (5, .const (.string p5)), (6, .const (.string p6)), (7, .const (.string p7)), (8, .const (.string p8)), (9, .const (.string p9)), (10, .tmp i10), (11, .tmp i11), (12, .const (.string p12)), (13, .const (.string p13))]) (h10 : e (.tmp i10) = .string p10) (h11 : e (.tmp i11) = .string p11) :
   (execOp e o).run Tryz.prog w = .ok (.value (.slice (some ⟨w.heap.size, 0, none⟩) 14 14)) (w.alloc (.cells #[.string p0, .string p1, .string p2, .string p3, .string p4, .string p5, .string p6, .string p7, .string p8, .string p9, .string p10, .string p11, .string p12, .string p13] 9)) := by
  unfold execOp
  rw [ho]
  simp only [List.map_toArray, List.map_cons, List.map_nil, he, h10, h11]
  kernel_rfl
theorem form_len {w : World} {a : Option Addr} {n : Nat} {l : List Ctry} (hr : CtryRow w a n l) {p : Ctry → Bool} {c : Ctry} (h : l.find? p = some c) (s : List UInt8) (hs : s.length ≤ 300) : (formP c (splitP l s)).length ≤ 900 := by
  obtain ⟨g1, g2, g3⟩ := ctry_len hr h
  obtain ⟨z1, z2, z3⟩ := spl_len hr s
  have := groups_len _ (splitP l s).rest (Nat.le_refl _)
  unfold formP formPre
  split <;> simp only [List.length_append, List.length_cons, List.length_nil] <;> omega

theorem home_find {l : List Ctry} {code area : List UInt8} (h : homeErr l code area = 0) : ∃ c, (l.find? fun c => c.code == code) = some c := by
  unfold homeErr homeR at h
  cases hf : l.find? fun c => c.code == code with
  | none => rw [hf] at h; cases h
  | some c => exact ⟨c, rfl⟩

set_option maxRecDepth 100000 in
set_option maxHeartbeats 4000000 in
theorem formString_any (S k : Nat) (w : World) (a : Option Addr) (n cap : Nat) (l : List Ctry) (code area : List UInt8) (h : StreamOk w S k) (hk : k ≤ 1000000) (hrow : ∀ w9, Keeps S w w9 → CtryRow w9 a n l) (hcap : n ≤ cap) (h1 : 1 ≤ n) (hna : ∀ i, i < l.length → 1 ≤ (l.getD i noCtry).an) (hco : code.length ≤ 100) (har : area.length ≤ 100) :
    Calls Tryz.prog 26 #[.pointer (some ⟨S, 0, none⟩), .slice a n cap, .agg #[.string ⟨code.toArray⟩, .string ⟨area.toArray⟩]] w (SomePost S (k + 5000) (fun s => s.length ≤ 1000) w) := by
  have HS := Lib.hid h
  have HR := Lib.hid hrow
  have HNA := Lib.hid hna
  have hlt := h.lt
  clear h hrow hna
  have HTWO : ∀ (w1 : World) (K : Act → World → Prop), True := fun _ _ => trivial
  clear HTWO
  go_enter Tryz.func26, Tryz.ntmps26
  go_upto_region 1 with (fail)
  have HKB : Hid (Keeps S w (w.alloc (.cells #[.string ⟨code.toArray⟩, .string ⟨area.toArray⟩] 29))) := (Keeps.refl S w).alloc _
  have HSB : Hid (StreamOk (w.alloc (.cells #[.string ⟨code.toArray⟩, .string ⟨area.toArray⟩] 29)) S k) := HS.out.below (ext_alloc (Below.refl _ _))
  have HC0 : Hid (∀ w9, Keeps S (w.alloc (.cells #[.string ⟨code.toArray⟩, .string ⟨area.toArray⟩] 29)) w9 → w9.cell? ⟨w.heap.size, 0, none⟩ = some (.string ⟨code.toArray⟩) ∧ w9.cell? ⟨w.heap.size, 1, none⟩ = some (.string ⟨area.toArray⟩) ∧ w.heap.size < w9.heap.size) := fun w9 h9 => ⟨(h9.cell (p := ⟨w.heap.size, 0, none⟩) (by simp) (by show w.heap.size ≠ S; omega)).trans (by go_simp), (h9.cell (p := ⟨w.heap.size, 1, none⟩) (by simp) (by show w.heap.size ≠ S; omega)).trans (by go_simp), by have := h9.size; simp at this; omega⟩
  generalize World.alloc w _ = W0 at HKB HSB HC0 ⊢
  obtain ⟨c0, c1, hz0⟩ := HC0.out W0 (Keeps.refl _ _)
  go_cut [20] (fun v wx => ∃ b : Bool, v = .bool b ∧ Hid (b = false → planErr l = 0 ∧ homeErr l code area = 0) ∧ Hid (StreamOk wx S (k + 1)) ∧ Hid (Keeps S W0 wx))
  case first =>
    go_wp2_with fail
    refine (flip_any S k 3 _ HSB.out (by omega) (by decide) (by decide)).mono ?_
    rintro e w1 ⟨fl, rfl, hst1, hk1⟩
    have HK1 := Lib.hid hk1
    have HS1 := Lib.hid hst1
    clear hst1 hk1 c0 c1 hz0
    cases fl
    · skip
      as_aux_lemma =>
        go_wp2_with fail
        refine (planFault_any _ a n cap l (HR.out _ (HKB.out.trans HK1.out)) hcap).mono ?_
        rintro e w2 ⟨rfl, hb2⟩
        have HK2 := Lib.hid (HK1.out.trans (Keeps.of_below hb2))
        have HS2 := Lib.hid (HS1.out.below hb2)
        clear hb2
        have HEQ : Hid (∀ E, planErr l = E → planErr l = E) := fun E h => h
        generalize hE : planErr l = E
        have HEE := Lib.hid (HEQ.out E hE)
        clear hE HEQ
        by_cases he : E = 0
        · subst he
          obtain ⟨c0, c1, hz0⟩ := HC0.out w2 HK2.out
          as_aux_lemma =>
            go_wp2_with fail
            refine (homeFault_any _ a n cap l (HR.out _ (HKB.out.trans HK2.out)) hcap h1 HNA.out code area).mono ?_
            rintro e w3 ⟨rfl, hb3⟩
            have HK3 := Lib.hid (HK2.out.trans (Keeps.of_below hb3))
            have HS3 := Lib.hid (HS2.out.below hb3)
            clear hb3
            have HEQ : Hid (∀ E, homeErr l code area = E → homeErr l code area = E) := fun E h => h
            generalize hE : homeErr l code area = E
            have HHE := Lib.hid (HEQ.out E hE)
            clear hE HEQ
            by_cases he : E = 0
            · subst he
              go_wp2_with fail
              go_meet
              exact ⟨false, rfl, fun _ => ⟨HEE.out, HHE.out⟩, HS3, HK3⟩
            · have hne : (E == 0) = false := by simpa using he
              go_wp2_with fail
              go_meet
              exact ⟨true, by rw [show (E != 0) = true by simpa using he], (fun h => by cases h), HS3, HK3⟩
        · have hne : (E == 0) = false := by simpa using he
          as_aux_lemma =>
            go_wp2_with fail
            go_meet
            exact ⟨true, rfl, (fun h => by cases h), HS2, HK2⟩
    · skip
      as_aux_lemma =>
        go_wp2_with fail
        go_meet
        exact ⟨true, rfl, (fun h => by cases h), HS1, HK1⟩
  case rest =>
    obtain ⟨b, rfl, HB, HS1, HK1⟩ := hcut
    clear c0 c1 hz0
    cases b
    · skip
      obtain ⟨hE, hH⟩ := HB.out rfl
      obtain ⟨c, hfc⟩ := home_find hH
      have HFC := Lib.hid hfc
      have HEE := Lib.hid hE
      have hz := HC0.out
      have hS0 : (fun W => W.cell? ⟨w.heap.size, 0, none⟩ = some (.string ⟨code.toArray⟩) ∧ W.cell? ⟨w.heap.size, 1, none⟩ = some (.string ⟨area.toArray⟩) ∧ w.heap.size < W.heap.size) wc.drew := HC0.out _ (HK1.out.trans (Keeps.of_below (ext_drew (Below.refl _ _))))
      have HS0 := Lib.hid hS0
      have HKD : Hid (Keeps S W0 wc.drew) := HK1.out.trans (Keeps.of_below (ext_drew (Below.refl _ _)))
      have HSD : Hid (StreamOk wc.drew S (k + 1)) := HS1.out.below (ext_drew (Below.refl _ _))
      clear hE hH hfc hz hS0 HB HS1 HK1
      skip
      as_aux_lemma =>
        go_upto_region 3 with (fail)
        refine region_seqI (S := fun W => W.cell? ⟨w.heap.size, 0, none⟩ = some (.string ⟨code.toArray⟩) ∧ W.cell? ⟨w.heap.size, 1, none⟩ = some (.string ⟨area.toArray⟩) ∧ w.heap.size < W.heap.size) [(true, 0), (true, 1), (true, 2), (true, 3), (false, 4), (false, 5), (true, 6)] (by kernel_rfl) (by kernel_rfl) rfl (by kernel_rfl) HS0.out ?_
        simp only [seqOps, List.getD_cons_zero, List.getD_cons_succ]
        refine seqI_take (v := .slice a n cap) rfl (fun W hW => by obtain ⟨m0, m1, m2⟩ := hW; go_simp) (fun _ _ _ h => h) ?_
        simp only [Act.put, List.setIfInBounds_toArray, List.set_cons_zero, List.set_cons_succ]
        refine seqI_take (v := .agg #[.string ⟨code.toArray⟩, .string ⟨area.toArray⟩]) rfl (fun W hW => by obtain ⟨m0, m1, m2⟩ := hW; go_simp) (fun _ _ _ h => h) ?_
        simp only [Act.put, List.setIfInBounds_toArray, List.set_cons_zero, List.set_cons_succ]
        refine seqI_take (v := .pointer (some ⟨S, 0, none⟩)) rfl (fun W hW => by obtain ⟨m0, m1, m2⟩ := hW; go_simp) (fun _ _ _ h => h) ?_
        simp only [Act.put, List.setIfInBounds_toArray, List.set_cons_zero, List.set_cons_succ]
        refine seqI_take (v := .slice a n cap) rfl (fun W hW => by obtain ⟨m0, m1, m2⟩ := hW; go_simp) (fun _ _ _ h => h) ?_
        simp only [Act.put, List.setIfInBounds_toArray, List.set_cons_zero, List.set_cons_succ]
        refine seqI_call 44 #[.pointer (some ⟨S, 0, none⟩), .slice a n cap] rfl (by go_simp) (rightNumber_any S (k + 1) _ a n cap l HSD.out (by omega) (fun w9 h9 => HR.out w9 (HKB.out.trans (HKD.out.trans h9))) hcap h1 HNA.out HEE.out) ?_
        rintro e w9 ⟨s, rfl, ⟨_, hs⟩, hst9, hk9⟩
        refine ⟨_, rfl, HC0.out _ (HKD.out.trans hk9), ?_⟩
        have HS9 := Lib.hid hst9
        have HK9 := Lib.hid (HKD.out.trans hk9)
        clear hst9 hk9
        simp only [Act.put, List.setIfInBounds_toArray, List.set_cons_zero, List.set_cons_succ]
        refine seqI_call 32 #[.slice a n cap, .agg #[.string ⟨code.toArray⟩, .string ⟨area.toArray⟩], .string ⟨s.toArray⟩] rfl (by go_simp) (formFrom_any w9 a n cap l (HR.out _ (HKB.out.trans HK9.out)) hcap h1 HEE.out c code area s HFC.out (by omega)) ?_
        rintro e w10 ⟨rfl, hb10⟩
        have HK10 := Lib.hid (HK9.out.trans (Keeps.of_below hb10))
        have HS10 := Lib.hid (HS9.out.below hb10)
        have hfl := form_len (HR.out _ (HKB.out.trans HK9.out)) HFC.out s hs
        refine ⟨_, rfl, HC0.out _ HK10.out, ?_⟩
        clear hb10
        generalize formP c (splitP l s) = t at hfl
        simp only [Act.put, List.setIfInBounds_toArray, List.set_cons_zero, List.set_cons_succ]
        refine seqI_take (v := .string ⟨t.toArray⟩) rfl (fun W hW => by obtain ⟨m0, m1, m2⟩ := hW; go_simp) (fun _ _ _ h => h) ?_
        simp only [Act.put, List.setIfInBounds_toArray, List.set_cons_zero, List.set_cons_succ]
        refine seqI_nil ?_
        clear HS0 HSD HKD HS9 HK9
        go_wp2_with fail
        refine (pick_any S (k + 1 + 4000) w10.heap.size 3 3 [0, 0, 1] (fun x => 0 ≤ x ∧ x ≤ 1) _ (HS10.out.below (ext_alloc (Below.refl _ _))) (by omega) (by simp) (by have := HS10.out.lt; omega) (by omega) (by omega) (fun i hi => by match i, hi with | 0, _ | 1, _ | 2, _ => go_simp) (fun i hi => by match i, hi with | 0, _ | 1, _ | 2, _ => decide)).mono ?_
        rintro e w11 ⟨r, rfl, ⟨r0, r1⟩, hst11, hk11⟩
        have HK11 := Lib.hid ((HK10.out.alloc _).trans hk11)
        have HS11 := Lib.hid hst11
        clear hst11 hk11
        obtain ⟨r, rfl⟩ := Int.eq_ofNat_of_zero_le r0
        clear r0
        go_wp2_with fail
        go_loopw [7, 35] (fun v i wr => ∃ (j : Nat) (x : List UInt8), j ≤ r ∧ x.length ≤ 900 + 13 * j ∧ v = .string ⟨x.toArray⟩ ∧ i = .int .i64 j ∧ Hid (StreamOk wr S (k + 4002 + 3 * j)) ∧ Hid (Keeps S W0 wr)) (fun _ i _ => r - (intOf i).toNat)
        case atStart => exact ⟨0, t, Nat.zero_le _, by omega, rfl, rfl, HS11.out.mono (by omega), HK11⟩
        case round =>
          obtain ⟨j, x, hj, hx, rfl, rfl, HSr, HKr⟩ := hrel
          by_cases hlt : j < r
          · have hjr : (j : Int) < (r : Int) := by omega
            go_wp2_with fail
            refine (changed_any S (k + 4002 + 3 * j) wr x [48, 45, 46, 32, 40, 41, 43, 97, 90] HSr.out (by omega) (by omega) (by decide)).mono ?_
            rintro e w12 ⟨y, rfl, hy, hst12, hk12⟩
            have HK12 := Lib.hid (HKr.out.trans hk12)
            have HS12 := Lib.hid hst12
            have hy2 : y.length ≤ 900 + 13 * (j + 1) := by simp only [List.length_cons, List.length_nil] at hy; omega
            clear hst12 hk12 hy
            go_wp2_with fail
            go_roundw
            case rel => exact ⟨j + 1, y, by omega, hy2, rfl, by go_num, HS12.out.mono (by omega), HK12⟩
            case measure => simp [intOf]; omega
          · have hjr : ¬ ((j : Int) < (r : Int)) := by omega
            have hxl : x.length ≤ 1000 := by omega
            have HXL := Lib.hid hxl
            have HSF := Lib.hid (HSr.out.mono (show k + 4002 + 3 * j ≤ k + 5000 by omega))
            clear hxl
            go_wp2_with fail
            go_ret
            exact ⟨x, rfl, HXL.out, HSF.out, HKB.out.trans HKr.out⟩
    · skip
      as_aux_lemma =>
        go_wp2_with (first | (refine wpList_val rfl (bs_form14 _ (fun _ => rfl) _ _ _ _ _ _ _ _ _ _ _ _ _ _ _ _ _ _ rfl rfl rfl) ?_))
        refine (Tryz.strings_Repeat ⟨#[49]⟩ 60 _ (by decide) (by decide)).mono ?_
        rintro e w2 ⟨rfl, hb2⟩
        have hra : (Lib.repeatL (⟨#[49]⟩ : ByteArray).data.toList 60).length ≤ 100 := by rw [Lib.repeatL_length]; decide
        generalize Lib.repeatL (⟨#[49]⟩ : ByteArray).data.toList 60 = ra at hra
        have HK2 := Lib.hid (HK1.out.trans (Keeps.of_below hb2))
        have HS2 := Lib.hid (HS1.out.below hb2)
        clear hb2 HB
        as_aux_lemma =>
          go_wp2_with (first | (refine wpList_val rfl (bs_form14 _ (fun _ => rfl) _ _ _ _ _ _ _ _ _ _ _ _ _ _ _ _ _ _ rfl rfl rfl) ?_))
          refine (Tryz.strings_Repeat ⟨#[49]⟩ 61 _ (by decide) (by decide)).mono ?_
          rintro e w3 ⟨rfl, hb3⟩
          have hrb : (Lib.repeatL (⟨#[49]⟩ : ByteArray).data.toList 61).length ≤ 100 := by rw [Lib.repeatL_length]; decide
          generalize Lib.repeatL (⟨#[49]⟩ : ByteArray).data.toList 61 = rb at hrb
          have HK3 := Lib.hid (HK2.out.trans (Keeps.of_below hb3))
          have HS3 := Lib.hid (HS2.out.below hb3)
          clear hb3 HK2 HS2
          as_aux_lemma =>
            go_wp2_with (first | (refine wpList_val rfl (bs_form14 _ (fun _ => rfl) _ _ _ _ _ _ _ _ _ _ _ _ _ _ _ _ _ _ rfl rfl rfl) ?_))
            refine (some_any S (k + 1) w3.heap.size 14 14 [[], [43], [40, 48, 51, 48, 41, 32, 49, 50, 45, 51, 52, 53], [48, 51, 48, 47, 49, 50, 32, 51, 52, 53], [43, 52, 57, 32, 40, 51, 48, 41, 32, 49, 50, 51], [48, 32, 51, 48, 32, 65, 66, 67], [49, 45, 50, 48, 45, 65, 66, 67], [43, 49, 32, 50, 48, 32, 49, 43, 43], [48, 43, 51, 48, 49], [48, 46, 51, 46, 48, 46, 49], ra, rb, [195, 169], [48, 45, 90, 45, 122]] (fun x => x.length ≤ 100) _ (HS3.out.below (ext_alloc (Below.refl _ _))) (by omega) (by simp) (by have := HS3.out.lt; omega) (by omega) (by omega) (fun i hi => by rw [new_cell]; match i, hi with | 0, _ | 1, _ | 2, _ | 3, _ | 4, _ | 5, _ | 6, _ | 7, _ | 8, _ | 9, _ | 10, _ | 11, _ | 12, _ | 13, _ => rfl) (fun i hi => by match i, hi with | 0, _ | 1, _ | 2, _ | 3, _ | 4, _ | 5, _ | 6, _ | 7, _ | 8, _ | 9, _ | 12, _ | 13, _ => simp | 10, _ => exact hra | 11, _ => exact hrb)).mono ?_
            rintro e w5 ⟨x, rfl, hx, hst5, hkp5⟩
            have HK5 := Lib.hid ((HK3.out.alloc _).trans hkp5)
            have HS5 := Lib.hid hst5
            have HX := Lib.hid hx
            clear hst5 hkp5 hx
            go_wp2_with fail
            go_ret
            exact ⟨x, rfl, Nat.le_trans HX.out (by decide), HS5.out.mono (by omega), HKB.out.trans HK5.out⟩
end Go.Proofs.YthajppcmmmkfcaaGreatDoor

set_option linter.unusedVariables false
set_option linter.unusedSimpArgs false
namespace Go.Proofs.YthajppcmmmkfcaaGreatDoor
open Go.RowKit

theorem drop_nil (p : UInt8 → Bool) : ∀ l : List UInt8, l.dropWhile p = [] ↔ ∀ x ∈ l, p x = true
  | [] => by simp
  | a :: l => by
    rw [List.dropWhile_cons]
    cases h : p a with
    | false => simp [h]
    | true => simp [h, drop_nil p l]
theorem take_all (p : UInt8 → Bool) : ∀ (l : List UInt8) (x : UInt8), x ∈ l.takeWhile p → p x = true
  | [], x, h => by simp at h
  | a :: l, x, h => by
    rw [List.takeWhile_cons] at h
    cases hp : p a with
    | false => simp [hp] at h
    | true =>
      simp only [hp, if_true, List.mem_cons] at h
      rcases h with rfl | h
      · exact hp
      · exact take_all p l x h
theorem allIn_all (l cs : List UInt8) : allIn l cs = l.all (cs.contains ·) := by
  unfold allIn Lib.trimS Lib.trimRightS Lib.trimLeftS
  rw [Bool.eq_iff_iff, List.isEmpty_iff, drop_nil, List.all_eq_true]
  constructor
  · intro h x hx
    have hx2 : x ∈ l.reverse := by simpa using hx
    rw [← List.takeWhile_append_dropWhile (p := (cs.contains ·)) (l := l.reverse), List.mem_append] at hx2
    rcases hx2 with h1 | h1
    · exact take_all _ _ _ h1
    · exact h x (by simpa using h1)
  · intro h x hx
    exact h x (by simpa using (List.dropWhile_sublist (cs.contains ·)).mem (List.mem_reverse.1 hx))
theorem allIn_app (a b cs : List UInt8) : allIn (a ++ b) cs = (allIn a cs && allIn b cs) := by simp [allIn_all, List.all_append]
theorem digs_in (l : List UInt8) : allIn l digitSet = digs l := by
  rw [allIn_all]
  unfold digs
  congr 1
  funext c
  have := all_bytes (p := fun c => (digitSet.contains c) == (decide (48 ≤ c.toNat) && decide (c.toNat ≤ 57))) (by decide +kernel) c
  simpa using this
theorem digitsB_iff (l : List UInt8) (lo hi : Int) : digitsB l lo hi = true ↔ lo ≤ l.length ∧ (l.length : Int) ≤ hi ∧ digs l = true := by
  unfold digitsB
  rw [digs_in]
  simp only [Bool.and_eq_true, decide_eq_true_eq]

theorem ctry_form {l : List Ctry} {i : Nat} (h : ctryErr l i = 0) : digitsB (l.getD i noCtry).code 1 3 = true ∧ ((l.getD i noCtry).code.headD 0 == 48) = false ∧ digitsB (l.getD i noCtry).abroad 1 4 = true ∧ digitsB (l.getD i noCtry).trunk 0 2 = true ∧ Lib.hasPrefix (l.getD i noCtry).trunk (l.getD i noCtry).abroad = false := by
  unfold ctryErr ctryErrOf at h
  generalize l.getD i noCtry = c at h ⊢
  generalize l.getD (i - 1) noCtry = p at h ⊢
  split at h
  · cases h
  rename_i h1
  split at h
  · cases h
  rename_i h2
  split at h
  · cases h
  split at h
  · cases h
  split at h
  · cases h
  rename_i h5
  split at h
  · cases h
  rename_i h6
  split at h
  · cases h
  rename_i h7
  exact ⟨by simpa using h1, by simpa using h2, by simpa using h5, by simpa using h6, by simpa using h7⟩

/-! ### Prefixes -/
theorem pre_iff (a p : List UInt8) : Lib.hasPrefix a p = true ↔ p <+: a := by unfold Lib.hasPrefix; exact List.isPrefixOf_iff_prefix
theorem pre_append (p t : List UInt8) : Lib.hasPrefix (p ++ t) p = true := (pre_iff _ _).2 (List.prefix_append _ _)
theorem pre_or {a t p : List UInt8} (h : Lib.hasPrefix (a ++ t) p = true) : Lib.hasPrefix a p = true ∨ Lib.hasPrefix p a = true := by
  rcases List.prefix_or_prefix_of_prefix ((pre_iff _ _).1 h) (List.prefix_append a t) with h1 | h1
  · exact Or.inl ((pre_iff _ _).2 h1)
  · exact Or.inr ((pre_iff _ _).2 h1)
theorem less_between : ∀ {p x s : List UInt8}, Op.bytesLess p x = true → Op.bytesLess x (p ++ s) = true → Lib.hasPrefix x p = true
  | [], x, s, _, _ => by cases x <;> rfl
  | a :: p, [], s, h, _ => by rw [less_nil] at h; cases h
  | a :: p, b :: x, s, h, k => by
    rw [List.cons_append] at k
    rw [less_cons] at h k
    simp only [Bool.or_eq_true, decide_eq_true_eq, Bool.and_eq_true, beq_iff_eq] at h k
    have hab : a = b := by
      rcases h with h | ⟨rfl, _⟩
      · rcases k with k | ⟨rfl, _⟩
        · exact absurd (UInt8.lt_trans h k) (UInt8.lt_irrefl _)
        · exact absurd h (UInt8.lt_irrefl _)
      · rfl
    subst hab
    have h2 : Op.bytesLess p x = true := by
      rcases h with h | h
      · exact absurd h (UInt8.lt_irrefl _)
      · exact h.2
    have k2 : Op.bytesLess x (p ++ s) = true := by
      rcases k with k | k
      · exact absurd k (UInt8.lt_irrefl _)
      · exact k.2
    have := less_between h2 k2
    rw [pre_iff] at this ⊢
    exact List.cons_prefix_cons.2 ⟨rfl, this⟩
theorem area_next {c : Ctry} {z : Nat} (h : areaErr c (z + 1) = 0) : Op.bytesLess (c.areas.getD z noArea).pre (c.areas.getD (z + 1) noArea).pre = true ∧ Lib.hasPrefix (c.areas.getD (z + 1) noArea).pre (c.areas.getD z noArea).pre = false := by
  unfold areaErr areaErrOf prevArea at h
  simp only [Nat.add_sub_cancel] at h
  generalize c.areas.getD (z + 1) noArea = a at h ⊢
  generalize c.areas.getD z noArea = p at h ⊢
  split at h
  · cases h
  split at h
  · cases h
  rename_i h2
  split at h
  · cases h
  rename_i h3
  simp at h2 h3
  exact ⟨less_of_leS h2, h3.1⟩
/-- Areas of a right country: in order, and none begins with another. -/
theorem areas_order {c : Ctry} (h : ∀ z, z < c.areas.length → areaErr c z = 0) : ∀ i d, i + 1 + d < c.areas.length → Op.bytesLess (c.areas.getD i noArea).pre (c.areas.getD (i + 1 + d) noArea).pre = true := by
  intro i d
  induction d with
  | zero => intro hj; exact (area_next (h _ hj)).1
  | succ d ih =>
    intro hj
    exact less_trans (ih (by omega)) (area_next (h _ hj)).1
theorem areas_apart {c : Ctry} (h : ∀ z, z < c.areas.length → areaErr c z = 0) {i j : Nat} (hi : i < c.areas.length) (hj : j < c.areas.length) (hp : Lib.hasPrefix (c.areas.getD j noArea).pre (c.areas.getD i noArea).pre = true) : i = j := by
  rcases Nat.lt_trichotomy i j with hlt | rfl | hlt
  · exfalso
    obtain ⟨d, rfl⟩ : ∃ d, j = i + 1 + d := ⟨j - (i + 1), by omega⟩
    have h1 := area_next (h (i + 1) (by omega))
    cases d with
    | zero => rw [Nat.add_zero] at hp; rw [h1.2] at hp; cases hp
    | succ d =>
      have h2 := areas_order h (i + 1) d (by omega)
      rw [show i + 1 + 1 + d = i + 1 + (d + 1) by omega] at h2
      obtain ⟨t, ht⟩ := (pre_iff _ _).1 hp
      rw [← ht] at h2
      rw [less_between h1.1 h2] at h1
      cases h1.2
  · rfl
  · exfalso
    obtain ⟨d, rfl⟩ : ∃ d, i = j + 1 + d := ⟨i - (j + 1), by omega⟩
    have h2 := areas_order h j d (by omega)
    obtain ⟨t, ht⟩ := (pre_iff _ _).1 hp
    rw [← ht, less_app] at h2
    cases h2

/-! ### A number that is split -/
structure SplitOk (l : List Ctry) (n : List UInt8) (i j : Nat) : Prop where
  li : i < l.length
  lj : j < (l.getD i noCtry).areas.length
  form : n = 43 :: ((l.getD i noCtry).code ++ (((l.getD i noCtry).areas.getD j noArea).pre ++ (splitP l n).rest))
  code : (splitP l n).code = (l.getD i noCtry).code
  area : (splitP l n).area = ((l.getD i noCtry).areas.getD j noArea).pre
  low : ((l.getD i noCtry).areas.getD j noArea).low ≤ (((l.getD i noCtry).areas.getD j noArea).pre.length : Int) + (splitP l n).rest.length
  high : (((l.getD i noCtry).areas.getD j noArea).pre.length : Int) + (splitP l n).rest.length ≤ ((l.getD i noCtry).areas.getD j noArea).high
  digits : digitsB (n.drop 1) 4 15 = true
theorem split_ok {l : List Ctry} {n : List UInt8} (h : (splitP l n).err = 0) : ∃ i j, SplitOk l n i j := by
  have h0 := h
  unfold splitP at h
  split at h
  · cases h
  rename_i hn
  have hn : isNumB n = true := by simpa using hn
  obtain ⟨d, hd, hdig⟩ := plus_head hn
  have hX : splitP l n = splitIn l n := by unfold splitP; rw [if_neg (by simp [hn])]
  unfold splitIn at h hX
  cases hf : l.find? fun c => Lib.hasPrefix (n.drop 1) c.code with
  | none => rw [hf] at h; cases h
  | some c =>
    rw [hf] at h hX
    simp only [Option.bind_some] at h hX
    have hpc := List.find?_some hf
    obtain ⟨i, hi, hic⟩ := List.getElem_of_mem (List.mem_of_find?_eq_some hf)
    have hic' : l.getD i noCtry = c := by simpa [hi] using hic
    unfold inAreas at h hX
    cases hg : c.areas.find? fun a => Lib.hasPrefix (n.drop (1 + c.code.length)) a.pre with
    | none => rw [hg] at h; cases h
    | some a =>
      rw [hg] at h hX
      simp only [Option.map_some, Option.getD_some] at h hX
      have hpa := List.find?_some hg
      obtain ⟨j, hj, hja⟩ := List.getElem_of_mem (List.mem_of_find?_eq_some hg)
      have hja' : c.areas.getD j noArea = a := by simpa [hj] using hja
      unfold inArea at h hX
      split at h
      · cases h
      rename_i hlen
      rw [if_neg hlen] at hX
      simp only [Bool.or_eq_true, decide_eq_true_eq, not_or, Int.not_lt] at hlen
      subst hd
      simp only [List.drop_succ_cons, List.drop_zero, Nat.add_comm 1] at hpc hpa hX hlen
      obtain ⟨t, ht⟩ := (pre_iff _ _).1 hpc
      subst ht
      rw [List.drop_left] at hpa hX hlen
      obtain ⟨r, hr⟩ := (pre_iff _ _).1 hpa
      subst hr
      rw [List.drop_left] at hX
      refine ⟨i, j, ⟨hi, by rw [hic']; exact hj, ?_, ?_, ?_, ?_, ?_, by simpa using hdig⟩⟩
      · rw [hX, hic', hja']
      · rw [hX, hic']
      · rw [hX, hic', hja']
      · rw [hX, hic', hja']; simp only [List.length_append] at hlen; simp only; omega
      · rw [hX, hic', hja']; simp only [List.length_append] at hlen; simp only; omega
end Go.Proofs.YthajppcmmmkfcaaGreatDoor

set_option linter.unusedVariables false
set_option linter.unusedSimpArgs false
namespace Go.Proofs.YthajppcmmmkfcaaGreatDoor
open Go.RowKit

/-- A country of a plan, with an area of a home in it. -/
structure HomeIn (l : List Ctry) (c : Ctry) (area : List UInt8) : Prop where
  here : ∃ k, k < l.length ∧ l.getD k noCtry = c
  area : area = [] ∨ ∃ z, z < c.areas.length ∧ (c.areas.getD z noArea).pre = area
theorem homeIn_of {l : List Ctry} {code area : List UInt8} {c : Ctry} (h : homeC l code area = some c) : HomeIn l c area := by
  unfold homeC at h
  have hp := List.find?_some h
  obtain ⟨k, hk, hkc⟩ := List.getElem_of_mem (List.mem_of_find?_eq_some h)
  simp only [Bool.and_eq_true, Bool.or_eq_true, beq_iff_eq, List.any_eq_true] at hp
  refine ⟨⟨k, hk, by simpa [hk] using hkc⟩, hp.2.imp id ?_⟩
  rintro ⟨a, ha, rfl⟩
  obtain ⟨z, hz, rfl⟩ := List.getElem_of_mem ha
  exact ⟨z, hz, by simp [hz]⟩

def triesL (l : List Ctry) (c : Ctry) (area n : List UInt8) : List (List UInt8) :=
  (c.abroad ++ n.drop 1) :: (if (splitP l n).code = c.code then (c.trunk ++ ((splitP l n).area ++ (splitP l n).rest)) :: (if area = (splitP l n).area ∧ c.trunk ≠ [] then [(splitP l n).rest] else []) else [])
def waysL (l : List Ctry) (c : Ctry) (area n : List UInt8) : List (List UInt8) :=
  (c.abroad ++ n.drop 1) :: (if (splitP l n).code = c.code then (c.trunk ++ ((splitP l n).area ++ (splitP l n).rest)) :: (if (area = (splitP l n).area ∧ c.trunk ≠ []) ∧ reachP l c area (splitP l n).rest = (0, n) then [(splitP l n).rest] else []) else [])

theorem way_abroad {l : List Ctry} {c : Ctry} {area n : List UInt8} (hE : planErr l = 0) (hH : HomeIn l c area) (hS : (splitP l n).err = 0) : reachP l c area (c.abroad ++ n.drop 1) = (0, n) := by
  obtain ⟨i, j, so⟩ := split_ok hS
  obtain ⟨k, hk, rfl⟩ := hH.here
  obtain ⟨-, -, ha, -, -⟩ := ctry_form (plan_ctry hE k hk)
  obtain ⟨a1, a2, a3⟩ := (digitsB_iff _ _ _).1 ha
  obtain ⟨d1, d2, d3⟩ := (digitsB_iff _ _ _).1 so.digits
  have hd : digitsB ((l.getD k noCtry).abroad ++ n.drop 1) 1 30 = true := by
    rw [digitsB_iff, digs_app, a3, d3, List.length_append]
    exact ⟨by omega, by omega, rfl⟩
  have hn : n = 43 :: n.drop 1 := by rw [so.form]; rfl
  unfold reachP
  rw [if_neg (by rw [hd]; exact Bool.noConfusion)]
  unfold reachN
  rw [if_pos (pre_append _ _), List.drop_left]
  simp only [← hn, hS, ne_eq, not_true_eq_false, if_false]
theorem same_ctry {l : List Ctry} {c : Ctry} {area n : List UInt8} (hE : planErr l = 0) (hH : HomeIn l c area) (hS : (splitP l n).err = 0) {i j : Nat} (so : SplitOk l n i j) (hc : (splitP l n).code = c.code) : l.getD i noCtry = c := by
  obtain ⟨k, hk, rfl⟩ := hH.here
  by_cases h : i = k
  · rw [h]
  · exact absurd (so.code.symm.trans hc) (codes_apart hE so.li hk h)
theorem trunk_clash {l : List Ctry} {c : Ctry} {area n : List UInt8} (hE : planErr l = 0) (hH : HomeIn l c area) (hS : (splitP l n).err = 0) {i j : Nat} (so : SplitOk l n i j) (hc : (splitP l n).code = c.code) : Lib.hasPrefix (c.trunk ++ ((splitP l n).area ++ (splitP l n).rest)) c.abroad = false ∧ 1 ≤ (splitP l n).area.length ∧ 1 ≤ (splitP l n).rest.length := by
  have hi := same_ctry hE hH hS so hc
  obtain ⟨g1, g2, g3, g4, g5, g6, g7⟩ := area_parts (plan_area hE i so.li j so.lj)
  obtain ⟨a1, a2, a3⟩ := (digitsB_iff _ _ _).1 g1
  have hl := so.low
  rw [hi] at g2 g3 g4 g5 g6 g7 a1 a2 a3 hl
  have har := so.area
  rw [hi] at har
  rw [har]
  refine ⟨?_, by omega, by omega⟩
  cases hq : Lib.hasPrefix (c.trunk ++ ((c.areas.getD j noArea).pre ++ (splitP l n).rest)) c.abroad with
  | false => rfl
  | true =>
    rw [← List.append_assoc] at hq
    rcases pre_or hq with h | h
    · rw [g2] at h; cases h
    · rw [g3] at h; cases h
theorem way_trunk {l : List Ctry} {c : Ctry} {area n : List UInt8} (hE : planErr l = 0) (hH : HomeIn l c area) (hS : (splitP l n).err = 0) (hc : (splitP l n).code = c.code) : reachP l c area (c.trunk ++ ((splitP l n).area ++ (splitP l n).rest)) = (0, n) := by
  obtain ⟨i, j, so⟩ := split_ok hS
  have hi := same_ctry hE hH hS so hc
  obtain ⟨t1, t2, t3⟩ := trunk_clash hE hH hS so hc
  have hf := so.form
  have har := so.area
  have hlow := so.low
  have hhigh := so.high
  obtain ⟨g1, g2, g3, g4, g5, g6, g7⟩ := area_parts (plan_area hE i so.li j so.lj)
  obtain ⟨-, -, -, ht, -⟩ := ctry_form (plan_ctry hE i so.li)
  rw [hi] at hf har hlow hhigh g6 ht g4
  obtain ⟨q1, q2, q3⟩ := (digitsB_iff _ _ _).1 ht
  obtain ⟨d1, d2, d3⟩ := (digitsB_iff _ _ _).1 so.digits
  have hdn : n.drop 1 = c.code ++ ((splitP l n).area ++ (splitP l n).rest) := by rw [har]; exact (congrArg (List.drop 1) hf).trans rfl
  rw [hdn, digs_app, Bool.and_eq_true] at d3
  have hd : digitsB (c.trunk ++ ((splitP l n).area ++ (splitP l n).rest)) 1 30 = true := by
    rw [digitsB_iff, digs_app, q3, d3.2, List.length_append, List.length_append, har]
    rw [har] at t2
    exact ⟨by omega, by omega, rfl⟩
  have hn : n = 43 :: (c.code ++ ((splitP l n).area ++ (splitP l n).rest)) := by rw [har]; exact hf
  unfold reachP
  rw [if_neg (by rw [hd]; exact Bool.noConfusion)]
  unfold reachN
  rw [if_neg (by simp [t1]), if_pos (pre_append _ _), List.drop_left]
  simp only [← hn, hS, ne_eq, not_true_eq_false, if_false]

theorem ways_apart {l : List Ctry} {c : Ctry} {area n : List UInt8} (hE : planErr l = 0) (hH : HomeIn l c area) (hS : (splitP l n).err = 0) (hc : (splitP l n).code = c.code) : c.trunk ++ ((splitP l n).area ++ (splitP l n).rest) ≠ c.abroad ++ n.drop 1 ∧ (splitP l n).rest ≠ c.trunk ++ ((splitP l n).area ++ (splitP l n).rest) ∧ (splitP l n).rest ≠ c.abroad ++ n.drop 1 := by
  obtain ⟨i, j, so⟩ := split_ok hS
  obtain ⟨t1, t2, t3⟩ := trunk_clash hE hH hS so hc
  have hi := same_ctry hE hH hS so hc
  have har := so.area
  have hf := so.form
  rw [hi] at hf har
  refine ⟨fun h => ?_, fun h => ?_, fun h => ?_⟩
  · rw [h, pre_append] at t1; cases t1
  · have := congrArg List.length h
    simp only [List.length_append] at this
    omega
  · have := congrArg List.length h
    have h9 := congrArg List.length ((congrArg (List.drop 1) hf).trans rfl : n.drop 1 = c.code ++ ((c.areas.getD j noArea).pre ++ (splitP l n).rest))
    simp only [List.length_append] at this h9
    rw [har] at t2
    omega

def stepW (l : List Ctry) (c : Ctry) (area n : List UInt8) (out : List (List UInt8)) (s : List UInt8) : List (List UInt8) := if reachP l c area s = (0, n) ∧ s ∉ out then out ++ [s] else out
theorem tries_fold {l : List Ctry} {c : Ctry} {area n : List UInt8} (hE : planErr l = 0) (hH : HomeIn l c area) (hS : (splitP l n).err = 0) : (triesL l c area n).foldl (stepW l c area n) [] = waysL l c area n := by
  have h1 := way_abroad hE hH hS
  unfold triesL waysL
  rw [List.foldl_cons]
  have e1 : stepW l c area n [] (c.abroad ++ n.drop 1) = [c.abroad ++ n.drop 1] := by unfold stepW; rw [if_pos ⟨h1, by simp⟩]; rfl
  rw [e1]
  by_cases hc : (splitP l n).code = c.code
  · have h2 := way_trunk hE hH hS hc
    obtain ⟨a1, a2, a3⟩ := ways_apart hE hH hS hc
    rw [if_pos hc, if_pos hc, List.foldl_cons]
    have e2 : stepW l c area n [c.abroad ++ n.drop 1] (c.trunk ++ ((splitP l n).area ++ (splitP l n).rest)) = [c.abroad ++ n.drop 1, c.trunk ++ ((splitP l n).area ++ (splitP l n).rest)] := by
      unfold stepW
      rw [if_pos ⟨h2, by simpa using a1⟩]
      rfl
    rw [e2]
    by_cases h3 : area = (splitP l n).area ∧ c.trunk ≠ []
    · rw [if_pos h3, List.foldl_cons, List.foldl_nil]
      unfold stepW
      by_cases h4 : reachP l c area (splitP l n).rest = (0, n)
      · rw [if_pos ⟨h4, fun hm => by rcases List.mem_cons.1 hm with h | hm; exact a3 h; rcases List.mem_cons.1 hm with h | hm; exact a2 h; cases hm⟩, if_pos ⟨h3, h4⟩]; rfl
      · rw [if_neg (fun h => h4 h.1), if_neg (fun h => h4 h.2)]
    · rw [if_neg h3, if_neg (fun h => h3 h.1), List.foldl_nil]
  · rw [if_neg hc, if_neg hc, List.foldl_nil]
theorem tries_filter {l : List Ctry} {c : Ctry} {area n : List UInt8} (hE : planErr l = 0) (hH : HomeIn l c area) (hS : (splitP l n).err = 0) : (triesL l c area n).filter (fun s => decide (reachP l c area s = (0, n))) = waysL l c area n := by
  have h1 := way_abroad hE hH hS
  unfold triesL waysL
  rw [List.filter_cons_of_pos (by simpa using h1)]
  by_cases hc : (splitP l n).code = c.code
  · have h2 := way_trunk hE hH hS hc
    rw [if_pos hc, if_pos hc, List.filter_cons_of_pos (by simpa using h2)]
    by_cases h3 : area = (splitP l n).area ∧ c.trunk ≠ []
    · rw [if_pos h3]
      by_cases h4 : reachP l c area (splitP l n).rest = (0, n)
      · rw [if_pos ⟨h3, h4⟩]; simp [h4]
      · rw [if_neg (fun h => h4 h.2)]; simp [h4]
    · rw [if_neg h3, if_neg (fun h => h3 h.1)]; rfl
  · rw [if_neg hc, if_neg hc]; rfl
theorem tries_but {l : List Ctry} {c : Ctry} {area n : List UInt8} (hE : planErr l = 0) (hH : HomeIn l c area) (hS : (splitP l n).err = 0) : ∀ j, j + 1 < (triesL l c area n).length → reachP l c area ((triesL l c area n).getD j []) = (0, n) ∨ j = 1 + 1 := by
  have h1 := way_abroad hE hH hS
  intro j hj
  unfold triesL at hj ⊢
  by_cases hc : (splitP l n).code = c.code
  · have h2 := way_trunk hE hH hS hc
    rw [if_pos hc] at hj ⊢
    match j, hj with
    | 0, _ => exact Or.inl h1
    | 1, _ => exact Or.inl h2
    | 2, _ => exact Or.inr rfl
    | j + 3, hj =>
      exfalso
      have h9 : (if area = (splitP l n).area ∧ c.trunk ≠ [] then [(splitP l n).rest] else []).length ≤ 1 := by split <;> simp
      simp only [List.length_cons] at hj
      omega
  · rw [if_neg hc] at hj; simp at hj

theorem tries_split {l : List Ctry} {c : Ctry} {area n : List UInt8} (hE : planErr l = 0) (hH : HomeIn l c area) (hS : (splitP l n).err = 0) : ∃ ys z, triesL l c area n = ys ++ [z] ∧ ∀ y ∈ ys, reachP l c area y = (0, n) := by
  have h1 := way_abroad hE hH hS
  unfold triesL
  by_cases hc : (splitP l n).code = c.code
  · have h2 := way_trunk hE hH hS hc
    rw [if_pos hc]
    by_cases h3 : area = (splitP l n).area ∧ c.trunk ≠ []
    · rw [if_pos h3]
      refine ⟨[c.abroad ++ n.drop 1, c.trunk ++ ((splitP l n).area ++ (splitP l n).rest)], _, rfl, fun y hy => ?_⟩
      rcases List.mem_cons.1 hy with rfl | hy
      · exact h1
      · rcases List.mem_cons.1 hy with rfl | hy
        · exact h2
        · cases hy
    · rw [if_neg h3]
      refine ⟨[c.abroad ++ n.drop 1], _, rfl, fun y hy => ?_⟩
      rcases List.mem_cons.1 hy with rfl | hy
      · exact h1
      · cases hy
  · rw [if_neg hc]
    exact ⟨[], _, rfl, fun y hy => by cases hy⟩
/-! ### How the reference asks -/
theorem ref_code {l : List Ctry} {c : Ctry} {area n : List UInt8} (hE : planErr l = 0) (hH : HomeIn l c area) (hS : (splitP l n).err = 0) : Lib.hasPrefix n (43 :: c.code) = decide ((splitP l n).code = c.code) := by
  obtain ⟨i, j, so⟩ := split_ok hS
  have hf := so.form
  by_cases hc : (splitP l n).code = c.code
  · have hi := same_ctry hE hH hS so hc
    rw [hi] at hf
    rw [decide_eq_true hc, pre_iff]
    conv => rhs; rw [hf]
    exact List.cons_prefix_cons.2 ⟨rfl, List.prefix_append _ _⟩
  · rw [decide_eq_false hc]
    cases hq : Lib.hasPrefix n (43 :: c.code) with
    | false => rfl
    | true =>
      exfalso
      obtain ⟨k, hk, rfl⟩ := hH.here
      rw [pre_iff] at hq
      generalize hr : (splitP l n).rest = r at hf
      rw [hf] at hq
      have hq2 := (List.cons_prefix_cons.1 hq).2
      have hal := plan_alone hE ((l.getD i noCtry).code ++ (((l.getD i noCtry).areas.getD j noArea).pre ++ r))
      rw [List.pairwise_iff_getElem] at hal
      have h1 : Lib.hasPrefix ((l.getD i noCtry).code ++ (((l.getD i noCtry).areas.getD j noArea).pre ++ r)) (l.getD i noCtry).code = true := pre_append _ _
      have h2 : Lib.hasPrefix ((l.getD i noCtry).code ++ (((l.getD i noCtry).areas.getD j noArea).pre ++ r)) (l.getD k noCtry).code = true := (pre_iff _ _).2 hq2
      have hli := so.li
      have ei : l[i] = l.getD i noCtry := by simp [hli]
      have ek : l[k] = l.getD k noCtry := by simp [hk]
      rcases Nat.lt_trichotomy i k with h | rfl | h
      · have := hal i k hli hk h (by rw [ei]; exact h1)
        rw [ek, h2] at this; cases this
      · exact hc so.code
      · have := hal k i hk hli h (by rw [ek]; exact h2)
        rw [ei, h1] at this; cases this
theorem ref_nat {l : List Ctry} {c : Ctry} {area n : List UInt8} (hE : planErr l = 0) (hH : HomeIn l c area) (hS : (splitP l n).err = 0) (hc : (splitP l n).code = c.code) : n.drop (43 :: c.code).length = (splitP l n).area ++ (splitP l n).rest := by
  obtain ⟨i, j, so⟩ := split_ok hS
  have hf := so.form
  have hi := same_ctry hE hH hS so hc
  have har := so.area
  rw [hi] at hf har
  conv => lhs; rw [hf]
  rw [har, List.length_cons, List.drop_succ_cons, List.drop_left]
theorem ref_area {l : List Ctry} {c : Ctry} {area n : List UInt8} (hE : planErr l = 0) (hH : HomeIn l c area) (hS : (splitP l n).err = 0) (hc : (splitP l n).code = c.code) : (Lib.hasPrefix ((splitP l n).area ++ (splitP l n).rest) area = true ∧ area ≠ []) ↔ area = (splitP l n).area := by
  obtain ⟨i, j, so⟩ := split_ok hS
  have hi := same_ctry hE hH hS so hc
  obtain ⟨t1, t2, t3⟩ := trunk_clash hE hH hS so hc
  have har := so.area
  have hlj := so.lj
  rw [hi] at har hlj
  constructor
  · rintro ⟨h1, h2⟩
    rcases hH.area with h | ⟨z, hz, rfl⟩
    · exact absurd h h2
    · rw [har] at h1 ⊢
      have hall : ∀ z, z < c.areas.length → areaErr c z = 0 := by
        obtain ⟨k, hk, rfl⟩ := hH.here
        exact plan_area hE k hk
      rcases pre_or h1 with h | h
      · rw [areas_apart hall hz hlj h]
      · rw [areas_apart hall hlj hz h]
  · rintro rfl
    exact ⟨pre_append _ _, fun h => by rw [h] at t2; simp at t2⟩
end Go.Proofs.YthajppcmmmkfcaaGreatDoor

set_option linter.unusedVariables false
set_option linter.unusedSimpArgs false
namespace Go.Proofs.YthajppcmmmkfcaaGreatDoor
open Go.RowKit Go.Sort Go.Lib

def encS (x : List UInt8) : Value := .string ⟨x.toArray⟩
def lenC (x y : List UInt8) : Int := Lib.compareInt (x.length : Int) (y.length : Int)
/-- Strings in the order of their lengths. -/
def sortW (l : List (List UInt8)) : List (List UInt8) := (Sort.insertionSort (ltOf lenC) l.toArray 0 l.length).toList
theorem insInner_size {α : Type} [Inhabited α] (lt : α → α → Bool) (a : Nat) : ∀ (j : Nat) (d : Array α), (insInner lt a j d).size = d.size
  | 0, d => by unfold insInner; rfl
  | j + 1, d => by
    unfold insInner
    split
    · rw [insInner_size lt a j, swp_size]
    · rfl
theorem insOuter_size {α : Type} [Inhabited α] (lt : α → α → Bool) (a b : Nat) : ∀ (m i : Nat) (d : Array α), b - i ≤ m → (insOuter lt a b i d).size = d.size := by
  intro m
  induction m with
  | zero =>
    intro i d h
    unfold insOuter
    rw [if_neg (by omega)]
  | succ m ih =>
    intro i d h
    unfold insOuter
    split
    · rw [ih _ _ (by omega), insInner_size]
    · rfl
theorem sortW_len (l : List (List UInt8)) : (sortW l).length = l.length := by
  unfold sortW insertionSort
  rw [Array.length_toList, insOuter_size _ _ _ _ _ _ (Nat.le_refl _)]
  simp

theorem lenCmp1 (x y : List UInt8) (W : World) : Calls Tryz.prog 66 #[.string ⟨x.toArray⟩, .string ⟨y.toArray⟩] W fun e w' => e = .returned (.int .i64 (lenC x y)) ∧ ∃ q, w' = W.drewN q := by
  have hcon := Tryz.cmp_Compare (x.length : Int) (y.length : Int) W
  unfold lenC
  generalize Lib.compareInt (x.length : Int) (y.length : Int) = r at hcon ⊢
  go_enter Tryz.func66, Tryz.ntmps66
  go_wp2_with fail
  refine hcon.mono ?_
  rintro e w' ⟨rfl, rfl⟩
  go_wp2_with fail
  go_ret
  exact ⟨rfl, 0, rfl⟩
theorem lenCmp2 (x y : List UInt8) (W : World) : Calls Tryz.prog 73 #[.string ⟨x.toArray⟩, .string ⟨y.toArray⟩] W fun e w' => e = .returned (.int .i64 (lenC x y)) ∧ ∃ q, w' = W.drewN q := by
  have hcon := Tryz.cmp_Compare (x.length : Int) (y.length : Int) W
  unfold lenC
  generalize Lib.compareInt (x.length : Int) (y.length : Int) = r at hcon ⊢
  go_enter Tryz.func73, Tryz.ntmps73
  go_wp2_with fail
  refine hcon.mono ?_
  rintro e w' ⟨rfl, rfl⟩
  go_wp2_with fail
  go_ret
  exact ⟨rfl, 0, rfl⟩

/-- How a comparison of lengths is named: a function without bound values. -/
def IsLenCmp (g : Nat) : Prop := (∀ args w, (callFunc g args).run Tryz.prog w = .ok (.enter g args) w) ∧ ∀ (x y : List UInt8) (W : World), Calls Tryz.prog g #[.string ⟨x.toArray⟩, .string ⟨y.toArray⟩] W fun e w' => e = .returned (.int .i64 (lenC x y)) ∧ ∃ q, w' = W.drewN q
theorem isLenCmp1 : IsLenCmp 66 := ⟨enters_of Tryz.func66 (by kernel_rfl) rfl, lenCmp1⟩
theorem isLenCmp2 : IsLenCmp 73 := ⟨enters_of Tryz.func73 (by kernel_rfl) rfl, lenCmp2⟩

set_option maxRecDepth 100000 in
set_option maxHeartbeats 1000000 in
theorem stable_any (g : Nat) (hg : IsLenCmp g) (w : World) (base B n cap : Nat) (xs : List (List UInt8)) (h : w.ownsRow base 9 1 (.slice (some ⟨B, 0, none⟩) n cap) n (xs.map encS)) (hn : n ≤ 19) :
    Calls Tryz.prog 65 #[.slice (some ⟨B, 0, none⟩) n cap, .func (.func g) #[] #[]] w fun e w' => e = .returned (.tuple #[]) ∧ w'.ownsRow base 9 1 (.slice (some ⟨B, 0, none⟩) n cap) n ((sortW xs).map encS) ∧ Below base w w' := by
  obtain ⟨g9, cap9, hv, hbase, hlt, hcap, hmax, hlen, hH⟩ := holds_of_ownsRow h (by intro h; cases h)
  injection hv with h1 _ h3
  injection h1 with h1
  injection h1 with h1
  subst h1 h3 hlen
  have hcon := Tryz.slices_insS encS (fun _ => rfl) lenC g #[] B 0 cap 0 xs.length xs.toArray w hg.1 (fun m os dk hdk x y => hg.2 x y _) hH (Nat.zero_le _) (by simp) (by simp; omega)
  have hfin : ∀ q, ((putRow encS w B 0 (Sort.insertionSort (ltOf lenC) xs.toArray 0 xs.length)).drewN q).ownsRow base 9 1 (.slice (some ⟨B, 0, none⟩) xs.length cap) xs.length ((sortW xs).map encS) := fun q => by
    have := ownsRow_putRow (q := 0) (k := xs.length) h (sortW_len xs) (Nat.le_refl _)
    rw [List.take_of_length_le (by rw [sortW_len]; exact Nat.le_refl _)] at this
    exact this
  have hbel : ∀ q, Below base w ((putRow encS w B 0 (Sort.insertionSort (ltOf lenC) xs.toArray 0 xs.length)).drewN q) := fun q => by
    have := below_putRow (enc := encS) (q := 0) (d := Sort.insertionSort (ltOf lenC) xs.toArray 0 xs.length) (Below.refl base w) hbase
    exact ⟨this.os, this.tape, this.output, this.size, this.block⟩
  have HF := Lib.hid hfin
  have HB := Lib.hid hbel
  clear hfin hbel h hH
  simp only [List.size_toArray] at hcon
  have HCON := Lib.hid hcon
  have HSTB : Hid (Calls Tryz.prog 103 #[.slice (some ⟨B, 0, none⟩) xs.length cap, .int .i64 xs.length, .func (.func g) #[] #[]] w fun e w' => e = .returned (.tuple #[]) ∧ ∃ q, w' = ((putRow encS w B 0 (Sort.insertionSort (ltOf lenC) xs.toArray 0 xs.length)).drewN q)) := by
    show Calls _ _ _ _ _
    clear HF HB hcon
    generalize putRow encS w B 0 _ = W1 at HCON
    generalize xs.length = n at *
    have q1 : ¬ ((20 : Int) ≤ (n : Int)) := by omega
    have q2 : ¬ ((20 : Int) < (n : Int)) := by omega
    go_enter Tryz.func103, Tryz.ntmps103
    go_wp2_with fail
    go_loopw [7, 8] (fun a b wr => a = .int .i64 0 ∧ b = .int .i64 20 ∧ wr = w) (fun _ _ _ => 0)
    case atStart => exact ⟨rfl, rfl, rfl⟩
    case round =>
      obtain ⟨rfl, rfl, rfl⟩ := hrel
      go_wp2_with fail
      refine HCON.out.mono ?_
      rintro e w' ⟨rfl, q, rfl⟩
      generalize hW2 : W1.drewN q = W2
      have HW2 := Lib.hid hW2
      clear hW2
      go_wp2_with fail
      go_loopw [6] (fun a wr => a = .int .i64 20 ∧ wr = W2) (fun _ _ => 0)
      case atStart => exact ⟨rfl, rfl⟩
      case round =>
        obtain ⟨rfl, rfl⟩ := hrel
        go_wp2_with fail
        go_end0
        exact ⟨rfl, q, HW2.out.symm⟩
  clear hcon HCON
  generalize putRow encS w B 0 _ = W1 at HF HB HSTB
  generalize xs.length = n at *
  go_enter Tryz.func65, Tryz.ntmps65
  go_wp2_with fail
  refine HSTB.out.mono ?_
  rintro e w' ⟨rfl, q, rfl⟩
  go_wp2_with fail
  go_end0
  exact ⟨rfl, HF.out q, HB.out q⟩
end Go.Proofs.YthajppcmmmkfcaaGreatDoor

set_option linter.unusedVariables false
set_option linter.unusedSimpArgs false
namespace Go.Proofs.YthajppcmmmkfcaaGreatDoor
open Go.RowKit Go.Sort

theorem set_all {α : Type} {P : α → Prop} {d : Array α} (i : Nat) (v : α) (h : ∀ x ∈ d.toList, P x) (hv : P v) : ∀ x ∈ (d.setIfInBounds i v).toList, P x := by
  intro x hx
  rw [Array.toList_setIfInBounds] at hx
  rcases List.mem_or_eq_of_mem_set hx with h1 | rfl
  · exact h x h1
  · exact hv
theorem get_all {α : Type} [Inhabited α] {P : α → Prop} {d : Array α} (i : Nat) (h : ∀ x ∈ d.toList, P x) (h0 : P default) : P d[i]! := by
  rcases Nat.lt_or_ge i d.size with h1 | h1
  · rw [getElem!_pos d i h1]
    exact h _ (by simp)
  · rw [getElem!_neg d i (by omega)]
    exact h0
theorem swp_all {α : Type} [Inhabited α] {P : α → Prop} {d : Array α} (i j : Nat) (h : ∀ x ∈ d.toList, P x) (h0 : P default) : ∀ x ∈ (swp d i j).toList, P x :=
  set_all _ _ (set_all _ _ h (get_all j h h0)) (get_all i h h0)
theorem insInner_all {α : Type} [Inhabited α] {P : α → Prop} (lt : α → α → Bool) (a : Nat) (h0 : P default) : ∀ (j : Nat) (d : Array α), (∀ x ∈ d.toList, P x) → ∀ x ∈ (insInner lt a j d).toList, P x
  | 0, d, h => by unfold insInner; exact h
  | j + 1, d, h => by
    unfold insInner
    split
    · exact insInner_all lt a h0 j _ (swp_all _ _ h h0)
    · exact h
theorem insOuter_all {α : Type} [Inhabited α] {P : α → Prop} (lt : α → α → Bool) (a b : Nat) (h0 : P default) : ∀ (m i : Nat) (d : Array α), b - i ≤ m → (∀ x ∈ d.toList, P x) → ∀ x ∈ (insOuter lt a b i d).toList, P x := by
  intro m
  induction m with
  | zero =>
    intro i d h hd
    unfold insOuter
    rw [if_neg (by omega)]
    exact hd
  | succ m ih =>
    intro i d h hd
    unfold insOuter
    split
    · exact ih _ _ (by omega) (insInner_all lt a h0 i d hd)
    · exact hd
theorem sortW_all {P : List UInt8 → Prop} (h0 : P []) {l : List (List UInt8)} (h : ∀ x ∈ l, P x) : ∀ x ∈ sortW l, P x := by
  unfold sortW insertionSort
  exact insOuter_all _ _ _ h0 _ _ _ (Nat.le_refl _) (by simpa using h)
theorem ways_len {l : List Ctry} {c : Ctry} {area n : List UInt8} (h1 : c.abroad.length ≤ 100) (h2 : c.trunk.length ≤ 100) (h3 : (splitP l n).area.length ≤ 100) (h4 : (splitP l n).rest.length ≤ n.length) (hn : n.length ≤ 500) : ∀ x ∈ sortW (waysL l c area n), x.length ≤ 900 := by
  refine sortW_all (by simp) ?_
  unfold waysL
  intro x hx
  rcases List.mem_cons.1 hx with rfl | hx
  · rw [List.length_append, List.length_drop]; omega
  · split at hx
    · rcases List.mem_cons.1 hx with rfl | hx
      · simp only [List.length_append]; omega
      · split at hx
        · rcases List.mem_cons.1 hx with rfl | hx
          · omega
          · cases hx
        · cases hx
    · cases hx
theorem ways_one (l : List Ctry) (c : Ctry) (area n : List UInt8) : ∃ q, (sortW (waysL l c area n)).length = q + 1 ∧ q ≤ 2 := by
  refine ⟨(waysL l c area n).length - 1, ?_, ?_⟩
  · rw [sortW_len]; unfold waysL; simp
  · unfold waysL
    split
    · split <;> simp
    · simp

theorem right_split {l : List Ctry} {s : List UInt8} (hE : planErr l = 0) (han : ∀ i, i < l.length → (l.getD i noCtry).an = (l.getD i noCtry).areas.length) (h : RightN l s) : (splitP l s).err = 0 := by
  obtain ⟨r, c, z, d, hr, hrc, hz, hs, ⟨h1, h2⟩, hd⟩ := h
  have hz' : z < c.areas.length := by have := han r hr; rw [hrc] at this; omega
  obtain ⟨g1, -, -, g4, g5, g6, g7⟩ := area_parts (by have := plan_area hE r hr z (by rw [hrc]; exact hz'); rw [hrc] at this; exact this)
  obtain ⟨k1, k2, -, -, -⟩ := ctry_form (plan_ctry hE r hr)
  rw [hrc] at k1 k2
  have hapart : ∀ i j, i < c.areas.length → j < c.areas.length → Lib.hasPrefix (c.areas.getD j noArea).pre (c.areas.getD i noArea).pre = true → i = j := fun i j hi hj hp => areas_apart (by have := plan_area hE r hr; rw [hrc] at this; exact this) hi hj hp
  obtain ⟨a1, a2, a3⟩ := (digitsB_iff _ _ _).1 g1
  obtain ⟨b1, b2, b3⟩ := (digitsB_iff _ _ _).1 k1
  have hs2 : s = 43 :: (c.code ++ ((c.areas.getD z noArea).pre ++ d)) := by rw [hs]; simp
  clear hs
  subst hs2
  generalize hx : c.areas.getD z noArea = x at *
  have hnum : isNumB (43 :: (c.code ++ (x.pre ++ d))) = true := by
    rw [isNumB_eq]
    simp only [List.drop_succ_cons, List.drop_zero, Bool.and_eq_true]
    refine ⟨by rw [pre_iff]; exact List.cons_prefix_cons.2 ⟨rfl, List.nil_prefix⟩, ?_, ?_⟩
    · rw [digitsB_iff, digs_app, digs_app, b3, a3, hd]
      simp only [List.length_append]
      exact ⟨by omega, by omega, rfl⟩
    · cases hco : c.code with
      | nil => rw [hco] at b1; simp at b1
      | cons y t => rw [hco] at k2; simpa using k2
  have hfc : l.find? (fun c' => Lib.hasPrefix ((43 :: (c.code ++ (x.pre ++ d))).drop 1) c'.code) = some c := by
    rw [← hrc]
    refine find_at _ noCtry l r hr (fun j hj => ?_) ?_
    · have hal := plan_alone hE (c.code ++ (x.pre ++ d))
      rw [List.pairwise_iff_getElem] at hal
      have hjl : j < l.length := by omega
      have ej : l.getD j noCtry = l[j] := by simp [hjl]
      have er : l[r] = c := by rw [← hrc]; simp [hr]
      simp only [List.drop_succ_cons, List.drop_zero]
      rw [ej]
      cases hq : Lib.hasPrefix (c.code ++ (x.pre ++ d)) l[j].code with
      | false => rw [hrc]; exact hq
      | true =>
        have := hal j r hjl hr hj hq
        rw [er, pre_append] at this
        cases this
    · simp only [List.drop_succ_cons, List.drop_zero]
      rw [hrc]
      exact pre_append _ _
  have hdr : (43 :: (c.code ++ (x.pre ++ d))).drop (1 + c.code.length) = x.pre ++ d := by
    rw [Nat.add_comm, List.drop_succ_cons, List.drop_left]
  have hfa : c.areas.find? (fun a => Lib.hasPrefix (x.pre ++ d) a.pre) = some x := by
    rw [← hx]
    refine find_at _ noArea c.areas z hz' (fun j hj => ?_) ?_
    · cases hq : Lib.hasPrefix ((c.areas.getD z noArea).pre ++ d) (c.areas.getD j noArea).pre with
      | false => rfl
      | true =>
        exfalso
        rcases pre_or hq with h | h
        · have := hapart j z (by omega) hz' h
          omega
        · have := hapart z j hz' (by omega) h
          omega
    · exact pre_append _ _
  unfold splitP
  rw [if_neg (by rw [hnum]; exact Bool.noConfusion)]
  unfold splitIn
  rw [hfc]
  simp only [Option.bind_some]
  unfold inAreas
  rw [hdr, hfa]
  simp only [Option.map_some, Option.getD_some]
  unfold inArea
  rw [if_neg]
  simp only [Bool.or_eq_true, decide_eq_true_eq, List.length_append]
  omega
end Go.Proofs.YthajppcmmmkfcaaGreatDoor

set_option linter.unusedVariables false
set_option linter.unusedSimpArgs false
namespace Go.Proofs.YthajppcmmmkfcaaGreatDoor
open Go.RowKit

theorem Tryz.infoStr : (Tryz.prog.info? 9).map (fun i => (i.zero, i.size, i.bytes)) = some (some (.string ⟨#[]⟩), 1, 16) := by kernel_rfl
theorem mk_inj {a b : List UInt8} : ((⟨a.toArray⟩ : ByteArray) = ⟨b.toArray⟩) ↔ a = b := by simp
theorem contains_own {w : World} {base : Nat} {v : Value} {n : Nat} {out : List (List UInt8)} (h : w.ownsRow base 9 1 v n (out.map encS)) (hn : n ≤ 1000) (s : List UInt8) :
    Calls Tryz.prog 64 #[v, .string ⟨s.toArray⟩] w fun e w' => e = .returned (.bool (decide (s ∈ out))) ∧ w' = w := by
  have hl : out.length = n := by have := h.1; simpa using this
  rcases h.2 with ⟨rfl, h0⟩ | ⟨g, cap, cur, rfl, _⟩
  · have : out = [] := List.eq_nil_of_length_eq_zero (by omega)
    subst this h0
    refine (Tryz.slices_hasS_empty none 0 _ w).mono ?_
    rintro e w' ⟨rfl, rfl⟩
    exact ⟨by simp, rfl⟩
  · refine (Tryz.slices_hasS g 0 n cap (out.map fun x => ⟨x.toArray⟩) ⟨s.toArray⟩ w (by simp; omega) (by omega) (fun j hj => ?_)).mono ?_
    · have hj' : j < out.length := by simpa using hj
      rw [Nat.zero_add, h.cellAt j (by omega)]
      simp [encS, hj']
    · rintro e w' ⟨rfl, rfl⟩
      refine ⟨?_, rfl⟩
      rw [List.take_of_length_le (by simp; omega)]
      congr 2
      rw [Bool.eq_iff_iff, Lib.containsS_iff, decide_eq_true_eq]
      simp
/-- A slice of one string that is written out. -/
theorem own_lit1 (w : World) (x : List UInt8) (base : Nat) (hb : base ≤ w.heap.size) : (w.alloc (.cells #[.string ⟨x.toArray⟩] 9)).ownsRow base 9 1 (.slice (some ⟨w.heap.size, 0, none⟩) 1 1) 1 ([x].map encS) := World.ownsRow_lit w #[.string ⟨x.toArray⟩] 1 hb (by simp only [maxLen]; omega) rfl
theorem own_keep {w w' : World} {base e size : Nat} {v : Value} {n : Nat} {xs : List Value} (h : w.ownsRow base e size v n xs) (hb : Below w.heap.size w w') : w'.ownsRow base e size v n xs := by
  refine ⟨h.1, h.2.imp id ?_⟩
  rintro ⟨g, cap, cur, rfl, h1, h2, h3⟩
  exact ⟨g, cap, cur, rfl, h1, (hb.block g (Array.getElem?_eq_some_iff.1 h2).1).trans h2, h3⟩
theorem own_below {w w' : World} {base B e size : Nat} {v : Value} {n : Nat} {xs : List Value} (h : w.ownsRow base e size v n xs) (hb : Below B w w') (hv : ∀ g, v.ownBlock = some g → g < B) : w'.ownsRow base e size v n xs := by
  refine ⟨h.1, h.2.imp id ?_⟩
  rintro ⟨g, cap, cur, rfl, h1, h2, h3⟩
  exact ⟨g, cap, cur, rfl, h1, (hb.block g (hv g rfl)).trans h2, h3⟩
theorem own_row1 {w : World} {base : Nat} {e : TypeId} {size : Nat} {v : Value} {n : Nat} {xs : List Value} (h : w.ownsRow base e size v (n + 1) xs) : ∃ g c, v = .slice (some ⟨g, 0, none⟩) (n + 1) c ∧ base ≤ g ∧ g < w.heap.size := by
  rcases h.2 with ⟨_, h0⟩ | ⟨g, cap, cur, rfl, h1, h2, _⟩
  · cases h0
  · exact ⟨g, cap, rfl, h1, (Array.getElem?_eq_some_iff.1 h2).1⟩

theorem own_le {w : World} {base base' e size : Nat} {v : Value} {n : Nat} {xs : List Value} (h : w.ownsRow base e size v n xs) (hb : base' ≤ base) : w.ownsRow base' e size v n xs := by
  refine ⟨h.1, h.2.imp id ?_⟩
  rintro ⟨g, cap, cur, rfl, h1, h2⟩
  exact ⟨g, cap, cur, rfl, Nat.le_trans hb h1, h2⟩
theorem wp_made {P : Program} {o : Oper} {a : Act} {w w' : World} {v : Value} {K : Act → World → Prop} {Q : Exit → Act → World → Prop} (h : (execOp a.eval o).run P w = .ok (.value v) w') (hK : K (a.put o.dst v) w') : Oper.wp P o a w K Q := by
  unfold Oper.wp; rw [h]; exact hK

def waysTop (l : List Ctry) (code area n : List UInt8) : Int × List (List UInt8) :=
  if planErr l ≠ 0 then (planErr l, []) else match homeC l code area with
    | none => (8, [])
    | some c => if (splitP l n).err ≠ 0 then ((splitP l n).err, []) else (0, sortW (waysL l c area n))
def WaysPost (r : Int × List (List UInt8)) (w : World) (e : Ending) (w' : World) : Prop :=
  ∃ v, e = .returned (.tuple #[v, .int .i64 r.1]) ∧ w'.ownsRow w.heap.size 9 1 v r.2.length (r.2.map encS) ∧ Below w.heap.size w w'
end Go.Proofs.YthajppcmmmkfcaaGreatDoor

set_option linter.unusedVariables false
set_option linter.unusedSimpArgs false
namespace Go.Proofs.YthajppcmmmkfcaaGreatDoor
open Go.RowKit

/-- What is asked of the predicate: in every world in which nothing that lay here has turned. -/
def PredS (g : Nat) (lb : Array Value) (p : List UInt8 → Bool) (xs : List (List UInt8)) (w : World) : Prop :=
  (∀ args w, (callFunc g args).run Tryz.prog w = .ok (.enter g args) w) ∧ ∀ (W : World) (j : Nat), j < xs.length → Below w.heap.size w W → Calls Tryz.prog g (#[.string ⟨(xs.getD j []).toArray⟩] ++ lb) W fun e w' => e = .returned (.bool (p (xs.getD j []))) ∧ Below W.heap.size W w'

set_option maxRecDepth 100000 in
set_option maxHeartbeats 1000000 in
theorem idxS_any (g : Nat) (lb : Array Value) (p : List UInt8 → Bool) (w : World) (base B n cap : Nat) (xs : List (List UInt8)) (hown : w.ownsRow base 9 1 (.slice (some ⟨B, 0, none⟩) n cap) n (xs.map encS)) (hn : n ≤ 1000) (hB : B < w.heap.size) (hp : PredS g lb p xs w) :
    Calls Tryz.prog 106 #[.slice (some ⟨B, 0, none⟩) n cap, .func (.func g) #[] lb] w fun e w' => (∃ r : Int, e = .returned (.int .i64 r) ∧ ((r = -1 ∧ ∀ j, j < n → p (xs.getD j []) = false) ∨ ∃ k, k < n ∧ r = (k : Int) ∧ p (xs.getD k []) = true ∧ ∀ j, j < k → p (xs.getD j []) = false)) ∧ Below w.heap.size w w' := by
  have hl : xs.length = n := by have := hown.1; simpa using this
  have HL := Lib.hid hl
  have HO := Lib.hid hown
  have eg := hp.1
  have HP := Lib.hid hp.2
  have HBL := Lib.hid hB
  clear hown hp hl
  go_enter Tryz.func106, Tryz.ntmps106
  go_wp2_with fail
  go_loopw [8] (fun i wr => ∃ k : Nat, k ≤ n ∧ i = .int .i64 k ∧ Hid (∀ j, j < k → p (xs.getD j []) = false) ∧ Hid (Below w.heap.size w wr)) (fun i _ => n - (intOf i).toNat)
  case atStart => exact ⟨0, Nat.zero_le _, rfl, fun j hj => absurd hj (Nat.not_lt_zero j), Below.refl _ _⟩
  case round =>
    obtain ⟨k, hk, rfl, HG, HB⟩ := hrel
    by_cases hlt : k < n
    · have ck : wr.cell? ⟨B, k, none⟩ = some (.string ⟨(xs.getD k []).toArray⟩) := by
        rw [HB.out.cell (p := ⟨B, k, none⟩) HBL.out, HO.out.cellAt k (by omega)]
        have : k < xs.length := by rw [HL.out]; exact hlt
        simp [encS, this]
      have HCALL := Lib.hid (fun W (h : Below wr.heap.size wr W) => HP.out W k (by rw [HL.out]; exact hlt) (ext_trans HB.out h))
      have HGK := Lib.hid (fun (h : p (xs.getD k []) = false) j (hj : j < k + 1) => (show p (xs.getD j []) = false by
        rcases Nat.lt_or_ge j k with h2 | h2
        · exact HG.out j h2
        · obtain rfl : j = k := by omega
          exact h))
      have hBw : B < wr.heap.size := Nat.lt_of_lt_of_le HBL.out HB.out.size
      have HPE : Hid (∀ b, p (xs.getD k []) = b → p (xs.getD k []) = b) := fun _ h => h
      generalize hb : p (xs.getD k []) = b at HCALL
      have HBE := Lib.hid (HPE.out b hb)
      clear hb HPE
      generalize xs.getD k [] = d at ck HCALL
      as_aux_lemma =>
        go_wp2_with fail
        refine (HCALL.out wr (Below.refl _ _)).mono ?_
        rintro e w8 ⟨rfl, hb8⟩
        have HB8 := Lib.hid (ext_trans HB.out hb8)
        clear hb8
        cases b
        · go_wp2_with fail
          go_roundw
          case rel => exact ⟨k + 1, by omega, by go_num, HGK.out HBE.out, HB8⟩
          case measure => simp [intOf]; omega
        · go_wp2_with fail
          go_ret
          exact ⟨⟨k, rfl, Or.inr ⟨k, hlt, rfl, HBE.out, HG.out⟩⟩, HB8.out⟩
    · obtain rfl : k = n := by omega
      as_aux_lemma =>
        go_wp2_with fail
        go_ret
        exact ⟨⟨-1, rfl, Or.inl ⟨rfl, HG.out⟩⟩, HB.out⟩

theorem own_cut {w : World} {base B cap n m : Nat} {e : TypeId} {xs : List Value} (h : w.ownsRow base e 1 (.slice (some ⟨B, 0, none⟩) n cap) n xs) (hm : m ≤ n) : w.ownsRow base e 1 (.slice (some ⟨B, 0, none⟩) m cap) m (xs.take m) := by
  have h1 := h.1
  rcases h.2 with ⟨h0, _⟩ | ⟨g, cap', cur, h0, hb, hg, hn, hc, hs, ht⟩
  · cases h0
  · injection h0 with e1 _ e3
    injection e1 with e1
    injection e1 with e1
    subst e1 e3
    refine ⟨by rw [List.length_take]; omega, .inr ⟨B, cap, cur, rfl, hb, hg, by omega, hc, hs, ?_⟩⟩
    rw [← ht, List.take_take, Nat.mul_one, Nat.mul_one, Nat.min_eq_left hm]

/-- What is left, where at most the last is struck. -/
def keptS (p : List UInt8 → Bool) (xs : List (List UInt8)) : List (List UInt8) := xs.filter fun x => !p x

set_option maxRecDepth 100000 in
set_option maxHeartbeats 1000000 in
theorem delS_any (g : Nat) (lb : Array Value) (p : List UInt8 → Bool) (w : World) (base B q cap : Nat) (ys : List (List UInt8)) (z : List UInt8) (hown : w.ownsRow base 9 1 (.slice (some ⟨B, 0, none⟩) (q + 1) cap) (q + 1) ((ys ++ [z]).map encS)) (hn : q ≤ 900) (hB : B < w.heap.size) (hbase : base ≤ B) (hbw : base ≤ w.heap.size) (hp : PredS g lb p (ys ++ [z]) w) (hys : ∀ y ∈ ys, p y = false) :
    Calls Tryz.prog 71 #[.slice (some ⟨B, 0, none⟩) (q + 1) cap, .func (.func g) #[] lb] w fun e w' => ∃ v, e = .returned v ∧ w'.ownsRow base 9 1 v (keptS p (ys ++ [z])).length ((keptS p (ys ++ [z])).map encS) ∧ Below base w w' := by
  have hq : ys.length = q := by have := hown.1; simp at this; omega
  have hIF := idxS_any g lb p w base B (q + 1) cap (ys ++ [z]) hown (by omega) hB hp
  have hfy : ys.filter (fun x => !p x) = ys := by
    rw [List.filter_eq_self]
    intro y hy
    rw [hys y hy]; rfl
  have HQ := Lib.hid hq
  have HO := Lib.hid hown
  have HBB := Lib.hid (And.intro hbase hbw)
  have hlast : (ys ++ [z]).getD q [] = z := by simp [← hq]
  have hfirst : ∀ j, j < q → (ys ++ [z]).getD j [] ∈ ys := fun j hj => by
    have h2 : j < ys.length := by rw [hq]; exact hj
    rw [show (ys ++ [z]).getD j [] = ys[j] by simp [List.getElem?_append_left h2, h2]]
    exact List.getElem_mem h2
  cases hz : p z with
  | false =>
    have HK : Hid (keptS p (ys ++ [z]) = ys ++ [z]) := by
      show List.filter _ _ = _
      rw [List.filter_append, hfy]
      simp [hz]
    have hIF2 : Calls Tryz.prog 106 #[.slice (some ⟨B, 0, none⟩) (q + 1) cap, .func (.func g) #[] lb] w fun e w' => e = .returned (.int .i64 (-1)) ∧ Below w.heap.size w w' := by
      refine hIF.mono ?_
      rintro e w' ⟨⟨r, rfl, h⟩, hb⟩
      rcases h with ⟨rfl, _⟩ | ⟨k, hk, rfl, ht, _⟩
      · exact ⟨rfl, hb⟩
      · exfalso
        rcases Nat.lt_or_ge k q with h2 | h2
        · rw [hys _ (hfirst k h2)] at ht; cases ht
        · obtain rfl : k = q := by omega
          rw [hlast, hz] at ht; cases ht
    have HIF := Lib.hid hIF2
    clear hIF hIF2 hfy hfirst hlast hz hys hp hown hq
    rw [HK.out]
    go_enter Tryz.func71, Tryz.ntmps71
    go_wp2_with fail
    refine HIF.out.mono ?_
    rintro e w1 ⟨rfl, hb1⟩
    have HB1 := Lib.hid hb1
    clear hb1
    go_wp2_with fail
    go_ret
    exact ⟨_, rfl, by rw [show (ys ++ [z]).length = q + 1 by rw [List.length_append, HQ.out]; rfl]; exact own_keep HO.out HB1.out, HB1.out.mono HBB.out.2⟩
  | true =>
    have HK : Hid (keptS p (ys ++ [z]) = ys) := by
      show List.filter _ _ = _
      rw [List.filter_append, hfy]
      simp [hz]
    have hIF2 : Calls Tryz.prog 106 #[.slice (some ⟨B, 0, none⟩) (q + 1) cap, .func (.func g) #[] lb] w fun e w' => e = .returned (.int .i64 q) ∧ Below w.heap.size w w' := by
      refine hIF.mono ?_
      rintro e w' ⟨⟨r, rfl, h⟩, hb⟩
      rcases h with ⟨_, h⟩ | ⟨k, hk, rfl, ht, _⟩
      · have := h q (by omega)
        rw [hlast, hz] at this; cases this
      · rcases Nat.lt_or_ge k q with h2 | h2
        · rw [hys _ (hfirst k h2)] at ht; cases ht
        · obtain rfl : k = q := by omega
          exact ⟨rfl, hb⟩
    have HIF := Lib.hid hIF2
    have hne : ((q : Int) == -1) = false := beq_eq_false_iff_ne.2 (by omega)
    clear hIF hIF2 hfy hfirst hlast hz hys hp hown hq
    rw [HK.out]
    go_enter Tryz.func71, Tryz.ntmps71
    go_wp2_with fail
    refine HIF.out.mono ?_
    rintro e w1 ⟨rfl, hb1⟩
    have HB1 := Lib.hid hb1
    have HO1 := Lib.hid (own_keep HO.out hb1)
    clear hb1
    have hcap : q + 1 ≤ cap := by
      rcases HO1.out.2 with ⟨h, _⟩ | ⟨g9, cap9, cur9, h, _, _, h2, _⟩
      · cases h
      · injection h with _ _ h3
        omega
    have hcq : ¬ (cap = q) := by omega
    have hc1 : (w1.cell? ⟨B, q, none⟩).isSome = true := by
      rw [HO1.out.cellAt q (by omega)]
      simp [HQ.out]
    have hf1 : w1.frozen? ⟨B, q, none⟩ = false := HO1.out.frozenAt _
    have hcl : ∀ ty, (Builtin.clear_ #[46] ty #[.slice (some ⟨B, q, none⟩) 1 (cap - q)]).run Tryz.prog w1 = .ok (.tuple #[]) (w1.setCells B q (List.replicate 1 (.string ⟨#[]⟩))) := fun ty =>
      Lib.run_clear_slice w1 46 9 ty (.string ⟨#[]⟩) Tryz.underlying46 Tryz.zeroValue9 rfl rfl B q 1 (cap - q) (by omega) (fun t ht => by have h0 : q + t = q := (by omega); rw [h0]; exact hc1) (fun t ht => by have h0 : q + t = q := (by omega); rw [h0]; exact hf1)
    as_aux_lemma =>
      go_wp2_with fail
      go_loopw [5, 6] (fun x i wr => x = .int .i64 q ∧ i = .int .i64 ((q : Int) + 1) ∧ wr = w1) (fun _ _ _ => 0)
      case atStart => exact ⟨rfl, rfl, rfl⟩
      case round =>
        obtain ⟨rfl, rfl, rfl⟩ := hrel
        have HFO : Hid ((wr.setCells B q [.string ⟨#[]⟩]).ownsRow base 9 1 (.slice (some ⟨B, 0, none⟩) q cap) ys.length (ys.map encS)) := by
          have h1 := own_cut (HO1.out.stored q (.string ⟨#[]⟩)).1 (Nat.le_succ q)
          have h2 : (((ys ++ [z]).map encS).set q (.string ⟨#[]⟩)).take q = ys.map encS := by
            rw [List.take_set_of_le (Nat.le_refl q), ← List.map_take, ← HQ.out, List.take_left]
          rw [h2] at h1
          show World.ownsRow _ _ _ _ _ _ _
          rw [HQ.out]
          exact h1
        have HFB : Hid (Below base w (wr.setCells B q [.string ⟨#[]⟩])) := (HB1.out.mono HBB.out.2).setCell HBB.out.1 _
        go_wp2_with fail
        go_ret
        exact ⟨_, rfl, HFO.out, HFB.out⟩
end Go.Proofs.YthajppcmmmkfcaaGreatDoor
