/- What is proved here: what slices.Clone answers at words of the call's own. No condition beyond those stated. -/
import Derived.Test.YtbimecknmojnoaaGreatDoorWordCmp
set_option linter.unusedVariables false
set_option linter.unusedSimpArgs false
namespace Go.Proofs.YtbimecknmojnoaaGreatDoor
open Go.RowKit

theorem own_lit0 (w : World) (base : Nat) (hb : base ≤ w.heap.size) : (w.alloc (.cells #[] 9)).ownsRow base 9 1 (.slice (some ⟨w.heap.size, 0, none⟩) 0 0) 0 [] := World.ownsRow_lit w #[] 0 hb (by simp only [maxLen]; omega) rfl
def ClonePost (n : Nat) (x : List Wd) (w : World) (e : Ending) (w' : World) : Prop := ∃ v', e = .returned v' ∧ w'.ownsRow w.heap.size 9 1 v' n (x.map encS) ∧ Below w.heap.size w w'
set_option maxRecDepth 100000 in
set_option maxHeartbeats 2000000 in
theorem cloneW_any (w : World) (base : Nat) (v : Value) (n : Nat) (x : List Wd) (h : w.ownsRow base 9 1 v n (x.map encS)) (hn : n ≤ 200) : Calls Tryz.prog 81 #[v] w (ClonePost n x w) := by
  obtain ⟨i0, hi, hz0, hz1, hz2⟩ := info_parts Tryz.infoStr
  have hl : x.length = n := by have := h.1; simpa using this
  have HO := Lib.hid h
  have q24 : ∀ (w : World) (a : Option Addr) (n c n' c' : Nat), (binOp .eql 27 (.slice a n c) (.slice none n' c')).run Tryz.prog w = .ok (.bool a.isNone) w := fun w a n c n' c' => Lib.run_eql_slice_nil w _ _ a n c n' c' Tryz.underlying27
  rcases h.2 with ⟨rfl, h0⟩ | ⟨g, cap, cur, rfl, hbg, hg, _⟩
  · have hx : x = [] := List.eq_nil_of_length_eq_zero (by omega)
    subst hx
    subst h0
    clear h hl HO
    go_enter Tryz.func81, Tryz.ntmps81
    go_wp2_with fail
    go_ret
    exact ⟨_, rfl, own_nil _ _ _ _, (by (try show Below _ _ _); repeat (with_reducible first | exact Below.refl _ _ | assumption | exact Hid.out (by assumption) | refine ext_alloc ?_ | refine ext_drewN ?_ | refine ext_drew ?_ | refine ext_setCell ?_ (Nat.le_refl _) | refine ext_setCell ?_ (Nat.le_succ _) | refine ext_trans ?_ (by assumption) | (refine ext_setCell ?_ (by simp)) | (refine ext_setCell ?_ (by simp at *; omega))))⟩
  · have hgl : g < w.heap.size := (Array.getElem?_eq_some_iff.1 hg).1
    have HLN : Hid ((x.map encS).length = n * 1) := by show _ = _; rw [List.length_map]; omega
    have HCE : Hid (∀ (j : Nat) u, (x.map encS)[j]? = some u → (w.alloc (.cells #[] 9)).cell? ((⟨g, 0, none⟩ : Addr).add j) = some u) := fun j u hu => by
      have hj : j < x.length := by
        obtain ⟨hj, -⟩ := List.getElem?_eq_some_iff.1 hu
        simpa using hj
      rw [add0, ((Below.refl w.heap.size w).alloc (Nat.le_refl _) (.cells #[] 9)).cell (p := ⟨g, j, none⟩) hgl, HO.out.cellAt j (by omega), hu]
    have HON : Hid (∀ u ∈ x.map encS, u.oneCell' = true) := fun u hu => by
      obtain ⟨y, -, rfl⟩ := List.mem_map.1 hu
      rfl
    have HOA := Lib.hid (own_lit0 w w.heap.size (Nat.le_refl _))
    clear h hl hg
    go_enter Tryz.func81, Tryz.ntmps81
    go_wp2_with (at_builtin; refine wpList_append_own _ rfl (.tmp 5) (.tmp 6) 27 rfl w.heap.size 9 i0 (.string ⟨#[]⟩) 1 16 Tryz.underlying27 hi hz0 hz1 hz2 rfl (by decide) _ 0 _ rfl HOA.out ⟨g, 0, none⟩ n cap (x.map encS) rfl HLN.out HCE.out HON.out (by simp only [maxLen]; omega) (by omega) (by simp) ?_; intro v6 w6 hown6 hgr6 _)
    have HO6 : Hid (w6.ownsRow w.heap.size 9 1 v6 n (x.map encS)) := by
      show World.ownsRow _ _ _ _ _ _ _
      rw [Nat.zero_add, List.nil_append] at hown6
      exact hown6
    have HB6 : Hid (Below w.heap.size w w6) := upto_grown hgr6 (Nat.le_refl _) (fun b e => (HOA.out.lt b e).1)
    clear hown6 hgr6
    go_ret
    exact ⟨v6, rfl, HO6.out, HB6.out⟩
end Go.Proofs.YtbimecknmojnoaaGreatDoor
