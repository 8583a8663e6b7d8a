/- What is proved here: lemmas and contracts for the statement, put together out of smaller texts (ActCpt, GenPick). No condition beyond those stated. -/
import Derived.Test.YtamoclofloijpaaGreatDoorAbPkD
import Derived.Test.YtamoclofloijpaaGreatDoorAbPkC
import Derived.Test.YtamoclofloijpaaGreatDoorAbPkA
import Derived.IntWalk
import Derived.Test.YtamoclofloijpaaGreatDoorAbPkB
set_option linter.unusedVariables false
set_option linter.unusedSimpArgs false
namespace Go.Proofs.YtamoclofloijpaaGreatDoor
open Go.RowKit Go.Sort Go.Lib

def actEqB (x y : Vact) : Bool := actOrd x y == 0
def cpAPost (base : Nat) (v : Value) (L : List Vact) (w : World) (e : Ending) (w' : World) : Prop :=
  ∃ v' ys, e = .returned v' ∧ VactRow w' base v' ys ∧ (∀ y ∈ ys, y ∈ L) ∧ ys.length ≤ L.length ∧ w.grownBy w' v.ownBlock
set_option maxRecDepth 100000 in
set_option maxHeartbeats 16000000 in
theorem cpA_any (w : World) (base : Nat) (v : Value) (L : List Vact) (h : VactRow w base v L) (hl : L.length ≤ 12) :
    Calls Tryz.prog 83 #[v, .func (.func 84) #[] #[]] w (cpAPost base v L w) := by
  unfold VactRow at h
  obtain ⟨a, cap, rfl⟩ := own_shape h
  by_cases h2 : L.length < 2
  · have HE : Hid (cpAPost base (.slice a L.length cap) L w (.returned (.slice a L.length cap)) w) := ⟨_, L, rfl, h, fun y hy => hy, Nat.le_refl _, gb_of_below (Below.refl _ _)⟩
    generalize hPP : cpAPost base (.slice a L.length cap) L w = PP at HE ⊢
    generalize L.length = n at HE h2 ⊢
    clear h hl hPP
    have h01 : n = 0 ∨ n = 1 := by omega
    clear h2
    rcases h01 with rfl | rfl
    · go_enter Tryz.func83, Tryz.ntmps83
      go_wp2_with fail
      exact HE.out
    · go_enter Tryz.func83, Tryz.ntmps83
      go_wp2_with fail
      exact HE.out
  obtain ⟨g, rfl, hg0, hg1⟩ := own_pos h (by omega)
  have hcp : L.length ≤ cap ∧ cap ≤ maxLen := by
    rcases h.2 with ⟨e, _⟩ | ⟨g', c', cu, e, _, _, h1, h3, _⟩
    · cases e
    · injection e with _ _ e3
      subst e3
      exact ⟨h1, h3⟩
  have hcm : cap ≤ 9223372036854775807 := by have := hcp.2; unfold maxLen at this; omega
  have hcp1 := hcp.1
  have HO := Lib.hid h
  obtain ⟨n, hn⟩ : ∃ n, n = L.length := ⟨_, rfl⟩
  have HN := Lib.hid hn
  have hn2 : 2 ≤ n := by omega
  have hn12 : n ≤ 12 := by omega
  have hcn : n ≤ cap := by omega
  have HPP : Hid (∀ e W, cpAPost base (.slice (some ⟨g, 0, none⟩) L.length cap) L w e W → cpAPost base (.slice (some ⟨g, 0, none⟩) n cap) L w e W) := fun e W h => by rw [hn]; exact h
  rw [← hn] at HO ⊢
  clear h hl h2 hcp hcp1 hn
  go_enter Tryz.func83, Tryz.ntmps83
  have hn2i : ¬ ((n : Int) < 2) := by omega
  go_wp2_with fail
  clear hn2i
  go_loopw [5] (fun it wr => ∃ k : Nat, 1 ≤ k ∧ k ≤ n ∧ it = .int .i64 k ∧ Hid (wr.ownsRow base 45 6 (.slice (some ⟨g, 0, none⟩) n cap) n ((L.map Vact.cells).flatten)) ∧ Hid (w.grownBy wr (some g))) (fun it _ => n - (intOf it).toNat)
  case atStart => exact ⟨1, Nat.le_refl _, by omega, rfl, HO, gb_of_below (Below.refl _ _)⟩
  case round =>
    clear HO
    obtain ⟨k, hk1, hkn, rfl, HO, HG⟩ := hrel
    by_cases hlk : k < n
    case neg =>
      obtain rfl : k = n := by omega
      have HE : Hid (cpAPost base (.slice (some ⟨g, 0, none⟩) k cap) L w (.returned (.slice (some ⟨g, 0, none⟩) k cap)) wr) := ⟨_, L, rfl, by unfold VactRow; rw [← HN.out]; exact HO.out, fun y hy => hy, Nat.le_refl _, HG.out⟩
      have hkk : ¬ ((k : Int) < (k : Int)) := by omega
      clear HO HG
      as_aux_lemma =>
        go_wp2_with fail
        go_ret
        exact HE.out
    obtain ⟨k1, rfl⟩ : ∃ k1, k = k1 + 1 := ⟨k - 1, by omega⟩
    have hlki : ((k1 + 1 : Nat) : Int) < (n : Int) := by omega
    have hlk1 : (k1 : Int) < (n : Int) := by omega
    have hwk : IntKind.i64.wrap (k1 : Int) = (k1 : Int) := IntWalk.i64_in _ (by omega)
    have hk10 : ¬ ((k1 : Int) < 0) := by omega
    have hk20 : ¬ ((k1 : Int) + 1 < 0) := by omega
    have hk21 : (k1 : Int) + 1 < (n : Int) := by omega
    have hOd := own_keep HO.out (ext_drew (Below.refl wr.heap.size wr))
    have xc0 := own_field Vact.cells (fun _ => rfl) hOd (k1 + 1) 0 default (by have := HN.out; omega) (by omega) rfl
    have yc0 := own_field Vact.cells (fun _ => rfl) hOd (k1) 0 default (by have := HN.out; omega) (by omega) rfl
    have xc1 := own_field Vact.cells (fun _ => rfl) hOd (k1 + 1) 1 default (by have := HN.out; omega) (by omega) rfl
    have yc1 := own_field Vact.cells (fun _ => rfl) hOd (k1) 1 default (by have := HN.out; omega) (by omega) rfl
    have xc2 := own_field Vact.cells (fun _ => rfl) hOd (k1 + 1) 2 default (by have := HN.out; omega) (by omega) rfl
    have yc2 := own_field Vact.cells (fun _ => rfl) hOd (k1) 2 default (by have := HN.out; omega) (by omega) rfl
    have xc3 := own_field Vact.cells (fun _ => rfl) hOd (k1 + 1) 3 default (by have := HN.out; omega) (by omega) rfl
    have yc3 := own_field Vact.cells (fun _ => rfl) hOd (k1) 3 default (by have := HN.out; omega) (by omega) rfl
    have xc4 := own_field Vact.cells (fun _ => rfl) hOd (k1 + 1) 4 default (by have := HN.out; omega) (by omega) rfl
    have yc4 := own_field Vact.cells (fun _ => rfl) hOd (k1) 4 default (by have := HN.out; omega) (by omega) rfl
    have xc5 := own_field Vact.cells (fun _ => rfl) hOd (k1 + 1) 5 default (by have := HN.out; omega) (by omega) rfl
    have yc5 := own_field Vact.cells (fun _ => rfl) hOd (k1) 5 default (by have := HN.out; omega) (by omega) rfl
    have hgd : g < wr.drew.heap.size := Nat.lt_of_lt_of_le hg1 (gb_below HG.out (ext_drew (Below.refl _ _))).size
    obtain ⟨fx, hfx⟩ : ∃ f, f = L.getD (k1 + 1) default := ⟨_, rfl⟩
    obtain ⟨fy, hfy⟩ : ∃ f, f = L.getD k1 default := ⟨_, rfl⟩
    rw [← hfx] at xc0 xc1 xc2 xc3 xc4 xc5
    rw [← hfy] at yc0 yc1 yc2 yc3 yc4 yc5
    have HEQ2 : Hid (∀ W, Calls Tryz.prog 84 #[.agg #[.int .i64 fx.at_, .string ⟨fx.box.toArray⟩, .string ⟨fx.id.toArray⟩, .int .i64 fx.kind, .int .i64 fx.long, .string ⟨fx.frm.toArray⟩], .agg #[.int .i64 fy.at_, .string ⟨fy.box.toArray⟩, .string ⟨fy.id.toArray⟩, .int .i64 fy.kind, .int .i64 fy.long, .string ⟨fy.frm.toArray⟩]] W (BoolP (actEqB fx fy) W)) := fun W => actSame_any fx fy W
    clear hfx hfy
    generalize actEqB fx fy = bq at HEQ2
    generalize fx.at_ = x0 at xc0 HEQ2
    generalize (⟨fx.box.toArray⟩ : ByteArray) = x1 at xc1 HEQ2
    generalize (⟨fx.id.toArray⟩ : ByteArray) = x2 at xc2 HEQ2
    generalize fx.kind = x3 at xc3 HEQ2
    generalize fx.long = x4 at xc4 HEQ2
    generalize (⟨fx.frm.toArray⟩ : ByteArray) = x5 at xc5 HEQ2
    generalize fy.at_ = y0 at yc0 HEQ2
    generalize (⟨fy.box.toArray⟩ : ByteArray) = y1 at yc1 HEQ2
    generalize (⟨fy.id.toArray⟩ : ByteArray) = y2 at yc2 HEQ2
    generalize fy.kind = y3 at yc3 HEQ2
    generalize fy.long = y4 at yc4 HEQ2
    generalize (⟨fy.frm.toArray⟩ : ByteArray) = y5 at yc5 HEQ2
    rw [Nat.add_zero] at xc0 yc0
    have HCE : Hid (∀ W9, Below wr.drew.heap.size wr.drew W9 → (W9.cell? ⟨g, (k1 + 1) * 6, none⟩ = some (.int .i64 x0) ∧ W9.cell? ⟨g, (k1 + 1) * 6 + 1, none⟩ = some (.string x1) ∧ W9.cell? ⟨g, (k1 + 1) * 6 + 2, none⟩ = some (.string x2) ∧ W9.cell? ⟨g, (k1 + 1) * 6 + 3, none⟩ = some (.int .i64 x3) ∧ W9.cell? ⟨g, (k1 + 1) * 6 + 4, none⟩ = some (.int .i64 x4) ∧ W9.cell? ⟨g, (k1 + 1) * 6 + 5, none⟩ = some (.string x5)) ∧ (W9.cell? ⟨g, k1 * 6, none⟩ = some (.int .i64 y0) ∧ W9.cell? ⟨g, k1 * 6 + 1, none⟩ = some (.string y1) ∧ W9.cell? ⟨g, k1 * 6 + 2, none⟩ = some (.string y2) ∧ W9.cell? ⟨g, k1 * 6 + 3, none⟩ = some (.int .i64 y3) ∧ W9.cell? ⟨g, k1 * 6 + 4, none⟩ = some (.int .i64 y4) ∧ W9.cell? ⟨g, k1 * 6 + 5, none⟩ = some (.string y5))) := fun W9 hW => ⟨⟨(hW.cell (p := ⟨g, (k1 + 1) * 6, none⟩) hgd).trans xc0, (hW.cell (p := ⟨g, (k1 + 1) * 6 + 1, none⟩) hgd).trans xc1, (hW.cell (p := ⟨g, (k1 + 1) * 6 + 2, none⟩) hgd).trans xc2, (hW.cell (p := ⟨g, (k1 + 1) * 6 + 3, none⟩) hgd).trans xc3, (hW.cell (p := ⟨g, (k1 + 1) * 6 + 4, none⟩) hgd).trans xc4, (hW.cell (p := ⟨g, (k1 + 1) * 6 + 5, none⟩) hgd).trans xc5⟩, ⟨(hW.cell (p := ⟨g, k1 * 6, none⟩) hgd).trans yc0, (hW.cell (p := ⟨g, k1 * 6 + 1, none⟩) hgd).trans yc1, (hW.cell (p := ⟨g, k1 * 6 + 2, none⟩) hgd).trans yc2, (hW.cell (p := ⟨g, k1 * 6 + 3, none⟩) hgd).trans yc3, (hW.cell (p := ⟨g, k1 * 6 + 4, none⟩) hgd).trans yc4, (hW.cell (p := ⟨g, k1 * 6 + 5, none⟩) hgd).trans yc5⟩⟩
    have HOd := Lib.hid hOd
    have HGd := Lib.hid (gb_below HG.out (ext_drew (Below.refl wr.heap.size wr)))
    clear xc0 xc1 xc2 xc3 xc4 xc5 yc0 yc1 yc2 yc3 yc4 yc5 hOd HO HG
    as_aux_lemma =>
      go_upto_region 6 with (fail)
      refine region_seqI (S := fun W9 => Below wr.drew.heap.size wr.drew W9) [(true, 0), (true, 1), (true, 2), (true, 3), (true, 4), (true, 5), (true, 6), (true, 7), (true, 8), (true, 9), (false, 10)] (by kernel_rfl) (by kernel_rfl) rfl (by kernel_rfl) (Below.refl _ _) ?_
      generalize wr.drew = wd at HCE HOd HGd hgd ⊢
      simp only [seqOps, List.getD_cons_zero, List.getD_cons_succ]
      refine seqI_take (v := .func (.func 84) #[] #[]) rfl (fun W9 hW => by clear hW; go_simp) (fun _ _ _ h => h) ?_
      simp only [Act.put, List.setIfInBounds_toArray, List.set_cons_zero, List.set_cons_succ]
      refine seqI_take (v := .slice (some ⟨g, 0, none⟩) n cap) rfl (fun W9 hW => by clear hW; go_simp) (fun _ _ _ h => h) ?_
      simp only [Act.put, List.setIfInBounds_toArray, List.set_cons_zero, List.set_cons_succ]
      refine seqI_take (v := .int .i64 ((k1 : Int) + 1)) rfl (fun W9 hW => by clear hW; go_simp) (fun _ _ _ h => h) ?_
      simp only [Act.put, List.setIfInBounds_toArray, List.set_cons_zero, List.set_cons_succ]
      refine seqI_take (v := .pointer (some ⟨g, (k1 + 1) * 6, none⟩)) rfl (fun W9 hW => by clear hW; go_simp) (fun _ _ _ h => h) ?_
      simp only [Act.put, List.setIfInBounds_toArray, List.set_cons_zero, List.set_cons_succ]
      refine seqI_take (v := .agg #[.int .i64 x0, .string x1, .string x2, .int .i64 x3, .int .i64 x4, .string x5]) rfl (fun W9 hW => by obtain ⟨⟨m0, m1, m2, m3, m4, m5⟩, ⟨q0, q1, q2, q3, q4, q5⟩⟩ := HCE.out W9 hW; go_simp) (fun _ _ _ h => h) ?_
      simp only [Act.put, List.setIfInBounds_toArray, List.set_cons_zero, List.set_cons_succ]
      refine seqI_take (v := .slice (some ⟨g, 0, none⟩) n cap) rfl (fun W9 hW => by clear hW; go_simp) (fun _ _ _ h => h) ?_
      simp only [Act.put, List.setIfInBounds_toArray, List.set_cons_zero, List.set_cons_succ]
      refine seqI_take (v := .int .i64 ((k1 : Int) + 1)) rfl (fun W9 hW => by clear hW; go_simp) (fun _ _ _ h => h) ?_
      simp only [Act.put, List.setIfInBounds_toArray, List.set_cons_zero, List.set_cons_succ]
      refine seqI_take (v := .int .i64 k1) rfl (fun W9 hW => by clear hW; go_simp) (fun _ _ _ h => h) ?_
      simp only [Act.put, List.setIfInBounds_toArray, List.set_cons_zero, List.set_cons_succ]
      refine seqI_take (v := .pointer (some ⟨g, k1 * 6, none⟩)) rfl (fun W9 hW => by clear hW; go_simp) (fun _ _ _ h => h) ?_
      simp only [Act.put, List.setIfInBounds_toArray, List.set_cons_zero, List.set_cons_succ]
      refine seqI_take (v := .agg #[.int .i64 y0, .string y1, .string y2, .int .i64 y3, .int .i64 y4, .string y5]) rfl (fun W9 hW => by obtain ⟨⟨m0, m1, m2, m3, m4, m5⟩, ⟨q0, q1, q2, q3, q4, q5⟩⟩ := HCE.out W9 hW; go_simp) (fun _ _ _ h => h) ?_
      simp only [Act.put, List.setIfInBounds_toArray, List.set_cons_zero, List.set_cons_succ]
      refine seqI_call _ _ rfl (by go_simp) (HEQ2.out wd) ?_
      rintro e w2 ⟨rfl, hb⟩
      have HO2 := Lib.hid (own_keep HOd.out hb)
      have HG2 := Lib.hid (gb_below HGd.out hb)
      refine ⟨_, rfl, hb, ?_⟩
      simp only [Act.put, List.setIfInBounds_toArray, List.set_cons_zero, List.set_cons_succ]
      refine seqI_nil ?_
      clear hb HCE HOd HGd HEQ2 hgd
      cases bq
      case false =>
        as_aux_lemma =>
          go_wp2_with fail
          go_roundw
          case rel => exact ⟨k1 + 1 + 1, by omega, by omega, by go_num, HO2, HG2⟩
          case measure => simp [intOf]; omega
      have hcapk : ¬ cap = k1 + 1 := by omega
      have hkni : (k1 : Int) + 1 ≤ (n : Int) := by omega
      have hkci : (k1 : Int) + 1 ≤ (cap : Int) := by omega
      have hlkn : k1 + 1 < n := hlk
      as_aux_lemma =>
        go_wp2_with fail
        go_loopw [5, 7] (fun si sk wr => ∃ (i k2 : Nat) (R : List Vact), si = .int .i64 i ∧ sk = .int .i64 k2 ∧ 1 ≤ k2 ∧ k2 ≤ n - (k1 + 1) ∧ 1 ≤ i ∧ i ≤ k1 + k2 ∧ Hid (R.length = n ∧ ∀ z, z < n → R.getD z default ∈ L) ∧ Hid (wr.ownsRow base 45 6 (.slice (some ⟨g, 0, none⟩) n cap) n ((R.map Vact.cells).flatten)) ∧ Hid (w.grownBy wr (some g))) (fun _ sk _ => n - (intOf sk).toNat)
        case atStart => exact ⟨k1 + 1, 1, L, rfl, rfl, Nat.le_refl _, by omega, by omega, Nat.le_refl _, ⟨HN.out.symm, fun z hz => act_mem (by have := HN.out; omega)⟩, HO2, HG2⟩
        case round =>
          clear HO2 HG2
          obtain ⟨i, k2, R, rfl, rfl, hk21, hk2n, hi1, hik, HR, HO, HG⟩ := hrel
          by_cases hlk2 : k2 < n - (k1 + 1)
          case neg =>
            have hk2e : k2 = n - (k1 + 1) := by omega
            have hin : i < n := by omega
            have hRl := HR.out.1
            have hci : ¬ cap = i := by omega
            have hil : (i : Int) ≤ (n : Int) := by omega
            have hic : (i : Int) ≤ (cap : Int) := by omega
            have hcell : ∀ q, q < (n - i) * 6 → (wr.cell? ⟨g, i * 6 + q, none⟩).isSome = true := fun q hq => by
              rw [HO.out.cellAt (i * 6 + q) (by omega)]
              have hf := flat_length Vact.cells 6 (fun _ => rfl) R
              rw [List.getElem?_eq_getElem (by rw [hf, hRl]; omega)]
              rfl
            obtain ⟨LZ, hcl⟩ := run_clear_any wr 42 45 (.agg #[.int .i64 0, .string ⟨#[]⟩, .string ⟨#[]⟩, .int .i64 0, .int .i64 0, .string ⟨#[]⟩]) Tryz.underlying42 Tryz.zeroValue45 (by decide) (fun i => by
              match i with
              | 0 => rfl
              | 1 => rfl
              | 2 => rfl
              | 3 => rfl
              | 4 => rfl
              | 5 => rfl
              | i + 6 => rfl) g (i * 6) (n - i) (cap - i) (by omega) hcell (fun q _ => HO.out.frozenAt _)
            have HE : Hid (cpAPost base (.slice (some ⟨g, 0, none⟩) n cap) L w (.returned (.slice (some ⟨g, 0, none⟩) i cap)) (wr.setCells g (i * 6) LZ)) := by
              obtain ⟨ys, hy1, hy2⟩ := own_above LZ wr _ (i * 6) (i * 6) HO.out (Nat.le_refl _)
              have hy3 := own_cutK hy1 (Nat.le_of_lt hin)
              rw [hy2, flat_take Vact.cells 6 (fun _ => rfl) R i (by omega)] at hy3
              have hlen : (R.take i).length = i := by rw [List.length_take]; omega
              refine ⟨_, R.take i, rfl, ?_, ?_, ?_, gb_trans HG.out (setCells_gb g LZ (i * 6))⟩
              · unfold VactRow
                rw [hlen]
                exact hy3
              · intro y hy
                obtain ⟨z, hz, rfl⟩ := List.getElem_of_mem (List.mem_of_mem_take hy)
                have := HR.out.2 z (by omega)
                rw [List.getD_eq_getElem?_getD, List.getElem?_eq_getElem hz] at this
                exact this
              · rw [hlen]
                have := HN.out
                omega
            have hk2n' : ¬ ((k2 : Int) < (n : Int) - ((k1 : Int) + 1)) := by omega
            clear HO HG HR hcell hRl
            as_aux_lemma =>
              go_wp2_with fail
              go_ret
              exact HE.out
          obtain ⟨k3, rfl⟩ : ∃ k3, k2 = k3 + 1 := ⟨k2 - 1, by omega⟩
          obtain ⟨fx, hfx⟩ : ∃ f, f = R.getD (k1 + 1 + (k3 + 1)) default := ⟨_, rfl⟩
          obtain ⟨fz, hfz⟩ : ∃ f, f = R.getD (k1 + 1 + k3) default := ⟨_, rfl⟩
          have hOd := own_keep HO.out (ext_drew (Below.refl wr.heap.size wr))
          have xc0 := own_field Vact.cells (fun _ => rfl) hOd (k1 + 1 + (k3 + 1)) 0 default (by have := HR.out.1; omega) (by omega) rfl
          have yc0 := own_field Vact.cells (fun _ => rfl) hOd (k1 + 1 + k3) 0 default (by have := HR.out.1; omega) (by omega) rfl
          have xc1 := own_field Vact.cells (fun _ => rfl) hOd (k1 + 1 + (k3 + 1)) 1 default (by have := HR.out.1; omega) (by omega) rfl
          have yc1 := own_field Vact.cells (fun _ => rfl) hOd (k1 + 1 + k3) 1 default (by have := HR.out.1; omega) (by omega) rfl
          have xc2 := own_field Vact.cells (fun _ => rfl) hOd (k1 + 1 + (k3 + 1)) 2 default (by have := HR.out.1; omega) (by omega) rfl
          have yc2 := own_field Vact.cells (fun _ => rfl) hOd (k1 + 1 + k3) 2 default (by have := HR.out.1; omega) (by omega) rfl
          have xc3 := own_field Vact.cells (fun _ => rfl) hOd (k1 + 1 + (k3 + 1)) 3 default (by have := HR.out.1; omega) (by omega) rfl
          have yc3 := own_field Vact.cells (fun _ => rfl) hOd (k1 + 1 + k3) 3 default (by have := HR.out.1; omega) (by omega) rfl
          have xc4 := own_field Vact.cells (fun _ => rfl) hOd (k1 + 1 + (k3 + 1)) 4 default (by have := HR.out.1; omega) (by omega) rfl
          have yc4 := own_field Vact.cells (fun _ => rfl) hOd (k1 + 1 + k3) 4 default (by have := HR.out.1; omega) (by omega) rfl
          have xc5 := own_field Vact.cells (fun _ => rfl) hOd (k1 + 1 + (k3 + 1)) 5 default (by have := HR.out.1; omega) (by omega) rfl
          have yc5 := own_field Vact.cells (fun _ => rfl) hOd (k1 + 1 + k3) 5 default (by have := HR.out.1; omega) (by omega) rfl
          rw [← hfx] at xc0 xc1 xc2 xc3 xc4 xc5
          rw [← hfz] at yc0 yc1 yc2 yc3 yc4 yc5
          rw [show (k1 + 1 + (k3 + 1)) * 6 = (k1 + 1) * 6 + (k3 + 1) * 6 by omega] at xc0 xc1 xc2 xc3 xc4 xc5
          rw [show (k1 + 1 + k3) * 6 = (k1 + 1) * 6 + k3 * 6 by omega] at yc0 yc1 yc2 yc3 yc4 yc5
          rw [Nat.add_zero] at xc0 yc0
          have hgd : g < wr.drew.heap.size := Nat.lt_of_lt_of_le hg1 (gb_below HG.out (ext_drew (Below.refl _ _))).size
          have HEQ2 : Hid (∀ W, Calls Tryz.prog 84 #[.agg #[.int .i64 fx.at_, .string ⟨fx.box.toArray⟩, .string ⟨fx.id.toArray⟩, .int .i64 fx.kind, .int .i64 fx.long, .string ⟨fx.frm.toArray⟩], .agg #[.int .i64 fz.at_, .string ⟨fz.box.toArray⟩, .string ⟨fz.id.toArray⟩, .int .i64 fz.kind, .int .i64 fz.long, .string ⟨fz.frm.toArray⟩]] W (BoolP (actEqB fx fz) W)) := fun W => actSame_any fx fz W
          have HFX : Hid (fx ∈ L) := by rw [hfx]; exact HR.out.2 _ (by omega)
          have HSV : Hid (∀ (W : World), W.ownsRow base 45 6 (.slice (some ⟨g, 0, none⟩) n cap) n ((R.map Vact.cells).flatten) → (W.setCells g (i * 6) [.int .i64 fx.at_, .string ⟨fx.box.toArray⟩, .string ⟨fx.id.toArray⟩, .int .i64 fx.kind, .int .i64 fx.long, .string ⟨fx.frm.toArray⟩]).ownsRow base 45 6 (.slice (some ⟨g, 0, none⟩) n cap) n (((R.set i fx).map Vact.cells).flatten)) := fun W h => act_put h i (by have := HR.out.1; omega) fx
          clear hfx hfz
          generalize actEqB fx fz = bq at HEQ2
          generalize fx.at_ = x0 at xc0 HEQ2 HSV
          generalize (⟨fx.box.toArray⟩ : ByteArray) = x1 at xc1 HEQ2 HSV
          generalize (⟨fx.id.toArray⟩ : ByteArray) = x2 at xc2 HEQ2 HSV
          generalize fx.kind = x3 at xc3 HEQ2 HSV
          generalize fx.long = x4 at xc4 HEQ2 HSV
          generalize (⟨fx.frm.toArray⟩ : ByteArray) = x5 at xc5 HEQ2 HSV
          generalize fz.at_ = y0 at yc0 HEQ2
          generalize (⟨fz.box.toArray⟩ : ByteArray) = y1 at yc1 HEQ2
          generalize (⟨fz.id.toArray⟩ : ByteArray) = y2 at yc2 HEQ2
          generalize fz.kind = y3 at yc3 HEQ2
          generalize fz.long = y4 at yc4 HEQ2
          generalize (⟨fz.frm.toArray⟩ : ByteArray) = y5 at yc5 HEQ2
          have HCE : Hid (∀ W9, Below wr.drew.heap.size wr.drew W9 → (W9.cell? ⟨g, (k1 + 1) * 6 + (k3 + 1) * 6, none⟩ = some (.int .i64 x0) ∧ W9.cell? ⟨g, (k1 + 1) * 6 + (k3 + 1) * 6 + 1, none⟩ = some (.string x1) ∧ W9.cell? ⟨g, (k1 + 1) * 6 + (k3 + 1) * 6 + 2, none⟩ = some (.string x2) ∧ W9.cell? ⟨g, (k1 + 1) * 6 + (k3 + 1) * 6 + 3, none⟩ = some (.int .i64 x3) ∧ W9.cell? ⟨g, (k1 + 1) * 6 + (k3 + 1) * 6 + 4, none⟩ = some (.int .i64 x4) ∧ W9.cell? ⟨g, (k1 + 1) * 6 + (k3 + 1) * 6 + 5, none⟩ = some (.string x5)) ∧ (W9.cell? ⟨g, (k1 + 1) * 6 + k3 * 6, none⟩ = some (.int .i64 y0) ∧ W9.cell? ⟨g, (k1 + 1) * 6 + k3 * 6 + 1, none⟩ = some (.string y1) ∧ W9.cell? ⟨g, (k1 + 1) * 6 + k3 * 6 + 2, none⟩ = some (.string y2) ∧ W9.cell? ⟨g, (k1 + 1) * 6 + k3 * 6 + 3, none⟩ = some (.int .i64 y3) ∧ W9.cell? ⟨g, (k1 + 1) * 6 + k3 * 6 + 4, none⟩ = some (.int .i64 y4) ∧ W9.cell? ⟨g, (k1 + 1) * 6 + k3 * 6 + 5, none⟩ = some (.string y5))) := fun W9 hW => ⟨⟨(hW.cell (p := ⟨g, (k1 + 1) * 6 + (k3 + 1) * 6, none⟩) hgd).trans xc0, (hW.cell (p := ⟨g, (k1 + 1) * 6 + (k3 + 1) * 6 + 1, none⟩) hgd).trans xc1, (hW.cell (p := ⟨g, (k1 + 1) * 6 + (k3 + 1) * 6 + 2, none⟩) hgd).trans xc2, (hW.cell (p := ⟨g, (k1 + 1) * 6 + (k3 + 1) * 6 + 3, none⟩) hgd).trans xc3, (hW.cell (p := ⟨g, (k1 + 1) * 6 + (k3 + 1) * 6 + 4, none⟩) hgd).trans xc4, (hW.cell (p := ⟨g, (k1 + 1) * 6 + (k3 + 1) * 6 + 5, none⟩) hgd).trans xc5⟩, ⟨(hW.cell (p := ⟨g, (k1 + 1) * 6 + k3 * 6, none⟩) hgd).trans yc0, (hW.cell (p := ⟨g, (k1 + 1) * 6 + k3 * 6 + 1, none⟩) hgd).trans yc1, (hW.cell (p := ⟨g, (k1 + 1) * 6 + k3 * 6 + 2, none⟩) hgd).trans yc2, (hW.cell (p := ⟨g, (k1 + 1) * 6 + k3 * 6 + 3, none⟩) hgd).trans yc3, (hW.cell (p := ⟨g, (k1 + 1) * 6 + k3 * 6 + 4, none⟩) hgd).trans yc4, (hW.cell (p := ⟨g, (k1 + 1) * 6 + k3 * 6 + 5, none⟩) hgd).trans yc5⟩⟩
          have HOd := Lib.hid hOd
          have HGd := Lib.hid (gb_below HG.out (ext_drew (Below.refl wr.heap.size wr)))
          clear xc0 xc1 xc2 xc3 xc4 xc5 yc0 yc1 yc2 yc3 yc4 yc5 hOd HO HG
          have hs2 : ((n - (k1 + 1) : Nat) : Int) = (n : Int) - ((k1 : Int) + 1) := by omega
          have hli1 : (k3 : Int) + 1 < (n : Int) - ((k1 : Int) + 1) := by omega
          have hli2 : (k3 : Int) < (n : Int) - ((k1 : Int) + 1) := by omega
          have hli3 : ¬ ((k3 : Int) + 1 < 0) := by omega
          have hli4 : ¬ ((k3 : Int) < 0) := by omega
          have hwk3 : IntKind.i64.wrap (k3 : Int) = (k3 : Int) := IntWalk.i64_in _ (by omega)
          have hlt3 : k3 + 1 < n - (k1 + 1) := hlk2
          have hlt4 : k3 < n - (k1 + 1) := by omega
          as_aux_lemma =>
            go_upto_region 11 with (fail)
            refine region_seqI (S := fun W9 => Below wr.drew.heap.size wr.drew W9) [(true, 0), (true, 1), (true, 2), (true, 3), (true, 4), (true, 5), (true, 6), (true, 7), (true, 8), (true, 9), (false, 10), (true, 11)] (by kernel_rfl) (by kernel_rfl) rfl (by kernel_rfl) (Below.refl _ _) ?_
            generalize wr.drew = wd at HCE HOd HGd hgd ⊢
            simp only [seqOps, List.getD_cons_zero, List.getD_cons_succ]
            refine seqI_take (v := .func (.func 84) #[] #[]) rfl (fun W9 hW => by clear hW; go_simp) (fun _ _ _ h => h) ?_
            simp only [Act.put, List.setIfInBounds_toArray, List.set_cons_zero, List.set_cons_succ]
            refine seqI_take (v := .slice (some ⟨g, (k1 + 1) * 6, none⟩) (n - (k1 + 1)) (cap - (k1 + 1))) rfl (fun W9 hW => by clear hW; go_simp) (fun _ _ _ h => h) ?_
            simp only [Act.put, List.setIfInBounds_toArray, List.set_cons_zero, List.set_cons_succ]
            refine seqI_take (v := .int .i64 ((k3 : Int) + 1)) rfl (fun W9 hW => by clear hW; go_simp) (fun _ _ _ h => h) ?_
            simp only [Act.put, List.setIfInBounds_toArray, List.set_cons_zero, List.set_cons_succ]
            refine seqI_take (v := .pointer (some ⟨g, (k1 + 1) * 6 + (k3 + 1) * 6, none⟩)) rfl (fun W9 hW => by clear hW; go_simp) (fun _ _ _ h => h) ?_
            simp only [Act.put, List.setIfInBounds_toArray, List.set_cons_zero, List.set_cons_succ]
            refine seqI_take (v := .agg #[.int .i64 x0, .string x1, .string x2, .int .i64 x3, .int .i64 x4, .string x5]) rfl (fun W9 hW => by obtain ⟨⟨m0, m1, m2, m3, m4, m5⟩, ⟨q0, q1, q2, q3, q4, q5⟩⟩ := HCE.out W9 hW; go_simp) (fun _ _ _ h => h) ?_
            simp only [Act.put, List.setIfInBounds_toArray, List.set_cons_zero, List.set_cons_succ]
            refine seqI_take (v := .slice (some ⟨g, (k1 + 1) * 6, none⟩) (n - (k1 + 1)) (cap - (k1 + 1))) rfl (fun W9 hW => by clear hW; go_simp) (fun _ _ _ h => h) ?_
            simp only [Act.put, List.setIfInBounds_toArray, List.set_cons_zero, List.set_cons_succ]
            refine seqI_take (v := .int .i64 ((k3 : Int) + 1)) rfl (fun W9 hW => by clear hW; go_simp) (fun _ _ _ h => h) ?_
            simp only [Act.put, List.setIfInBounds_toArray, List.set_cons_zero, List.set_cons_succ]
            refine seqI_take (v := .int .i64 k3) rfl (fun W9 hW => by clear hW; go_simp) (fun _ _ _ h => h) ?_
            simp only [Act.put, List.setIfInBounds_toArray, List.set_cons_zero, List.set_cons_succ]
            refine seqI_take (v := .pointer (some ⟨g, (k1 + 1) * 6 + k3 * 6, none⟩)) rfl (fun W9 hW => by clear hW; go_simp) (fun _ _ _ h => h) ?_
            simp only [Act.put, List.setIfInBounds_toArray, List.set_cons_zero, List.set_cons_succ]
            refine seqI_take (v := .agg #[.int .i64 y0, .string y1, .string y2, .int .i64 y3, .int .i64 y4, .string y5]) rfl (fun W9 hW => by obtain ⟨⟨m0, m1, m2, m3, m4, m5⟩, ⟨q0, q1, q2, q3, q4, q5⟩⟩ := HCE.out W9 hW; go_simp) (fun _ _ _ h => h) ?_
            simp only [Act.put, List.setIfInBounds_toArray, List.set_cons_zero, List.set_cons_succ]
            refine seqI_call _ _ rfl (by go_simp) (HEQ2.out wd) ?_
            rintro e w2 ⟨rfl, hb⟩
            have hCE2 := HCE.out w2 hb
            have HCE2 := Lib.hid hCE2
            have HO2 := Lib.hid (own_keep HOd.out hb)
            have HG2 := Lib.hid (gb_below HGd.out hb)
            have hg2 : g < w2.heap.size := Nat.lt_of_lt_of_le hgd hb.size
            refine ⟨_, rfl, hb, ?_⟩
            simp only [Act.put, List.setIfInBounds_toArray, List.set_cons_zero, List.set_cons_succ]
            refine seqI_take (v := .bool (!bq)) rfl (fun W9 hW => by clear hW; go_simp) (fun _ _ _ h => h) ?_
            simp only [Act.put, List.setIfInBounds_toArray, List.set_cons_zero, List.set_cons_succ]
            refine seqI_nil ?_
            clear hb HCE HOd HGd HEQ2 hgd hCE2
            cases bq
            case true =>
              clear HSV HCE2
              as_aux_lemma =>
                go_wp2_with fail
                go_roundw
                case rel => exact ⟨i, k3 + 1 + 1, R, rfl, by go_num, by omega, by omega, hi1, by omega, HR, HO2, HG2⟩
                case measure => simp [intOf]; omega
            have HRN : Hid ((R.set i fx).length = n ∧ ∀ z, z < n → (R.set i fx).getD z default ∈ L) := by
              have hiR : i < R.length := by have := HR.out.1; omega
              refine ⟨by rw [List.length_set]; exact HR.out.1, fun z hz => ?_⟩
              rw [act_set R i z fx hiR]
              split
              · exact HFX.out
              · exact HR.out.2 z hz
            have HO3 := Lib.hid (HSV.out w2 HO2.out)
            have HG3 : Hid (w.grownBy (w2.setCells g (i * 6) [.int .i64 x0, .string x1, .string x2, .int .i64 x3, .int .i64 x4, .string x5]) (some g)) := gb_trans HG2.out (setCells_gb g [.int .i64 x0, .string x1, .string x2, .int .i64 x3, .int .i64 x4, .string x5] (i * 6))
            have HRG : Hid (w2.rangeAt g ((k1 + 1) * 6 + (k3 + 1) * 6) [.int .i64 x0, .string x1, .string x2, .int .i64 x3, .int .i64 x4, .string x5]) := fun q v hq => by
              match q, hq with
              | 0, hq => injection hq with hq; subst hq; exact HCE2.out.1.1
              | 1, hq => injection hq with hq; subst hq; exact HCE2.out.1.2.1
              | 2, hq => injection hq with hq; subst hq; exact HCE2.out.1.2.2.1
              | 3, hq => injection hq with hq; subst hq; exact HCE2.out.1.2.2.2.1
              | 4, hq => injection hq with hq; subst hq; exact HCE2.out.1.2.2.2.2.1
              | 5, hq => injection hq with hq; subst hq; exact HCE2.out.1.2.2.2.2.2
            have hin : i < n := by omega
            have HTH : Hid (w2.there g (i * 6) 6) := fun q hq => by
              have hf := flat_length Vact.cells 6 (fun _ => rfl) R
              refine ⟨?_, HO2.out.frozenAt _⟩
              rw [HO2.out.cellAt (i * 6 + q) (by have := HR.out.1; omega), List.getElem?_eq_getElem (by rw [hf]; have := HR.out.1; omega)]
              rfl
            have hini : (i : Int) < (n : Int) := by omega
            have hi0 : ¬ ((i : Int) < 0) := by omega
            clear HSV HCE2 HO2 HG2 HR
            as_aux_lemma =>
              go_wp2_with (first | (refine wpList_load_mid rfl 45 (.tmp 54) rfl g ((k1 + 1) * 6 + (k3 + 1) * 6) rfl [.int .i64 x0, .string x1, .string x2, .int .i64 x3, .int .i64 x4, .string x5] _ HRG.out Tryz.underlying45 rfl Tryz.actSz ?_) | (refine wpList_store_mid rfl 45 (.tmp 56) (.tmp 55) rfl g (i * 6) #[.int .i64 x0, .string x1, .string x2, .int .i64 x3, .int .i64 x4, .string x5] rfl rfl HTH.out Tryz.actSz (by simp [Value.oneCell']) ?_; generalize w2.setCells g (i * 6) [.int .i64 x0, .string x1, .string x2, .int .i64 x3, .int .i64 x4, .string x5] = w3 at HO3 HG3 ⊢; clear HTH HRG))
              go_roundw
              case rel => exact ⟨i + 1, k3 + 1 + 1, R.set i fx, by go_num, by go_num, by omega, by omega, by omega, by omega, HRN, HO3, HG3⟩
              case measure => simp [intOf]; omega
end Go.Proofs.YtamoclofloijpaaGreatDoor

namespace Go.Proofs.YtamoclofloijpaaGreatDoor
open Go.RowKit

theorem calls_pick (S k : Nat) (v : Value) (vals : List Int) (p : Int → Prop) (w : World) (h : StreamOk w S k) (hk : k ≤ 1000000000) (ha : (Spec.arr vals.length (· = vals.map (Value.int .i64))).holds S w v) (h1 : 1 ≤ vals.length) (h2 : vals.length ≤ 1000) (hp : ∀ x ∈ vals, p x) :
    Calls Tryz.prog 50 #[.pointer (some ⟨S, 0, none⟩), v] w (PickPost S (k + 1) p w) := by
  obtain ⟨b, vs, rfl, rfl, hb, hl, hc⟩ := ha
  refine pick_any S k b vals.length vals.length vals p w h hk hl hb h1 h2 (fun i hi => ?_) (fun i hi => ?_)
  · exact hc i _ (by simp [hi])
  · rw [show vals.getD i _ = vals[i] by simp [hi]]; exact hp _ (List.getElem_mem hi)

theorem calls_some (S k : Nat) (v : Value) (vals : List (List UInt8)) (p : List UInt8 → Prop) (w : World) (h : StreamOk w S k) (hk : k ≤ 1000000000) (ha : (Spec.arr vals.length (· = vals.map (fun s => Value.string ⟨s.toArray⟩))).holds S w v) (h1 : 1 ≤ vals.length) (h2 : vals.length ≤ 1000) (hp : ∀ x ∈ vals, p x) :
    Calls Tryz.prog 49 #[.pointer (some ⟨S, 0, none⟩), v] w (SomePost S (k + 1) p w) := by
  obtain ⟨b, vs, rfl, rfl, hb, hl, hc⟩ := ha
  refine some_any S k b vals.length vals.length vals p w h hk hl hb h1 h2 (fun i hi => ?_) (fun i hi => ?_)
  · exact hc i _ (by simp [hi])
  · rw [show vals.getD i _ = vals[i] by simp [hi]]; exact hp _ (List.getElem_mem hi)

/-- A slot by its place. -/
theorem slot_of {a : Act} {t : Tmp} {v : Value} (h : a.eval (.tmp t) = v) : a.tmps[t]?.getD undef = v := by rw [← h]; simp [Act.eval]
end Go.Proofs.YtamoclofloijpaaGreatDoor
