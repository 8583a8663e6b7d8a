/- What is proved here: what split and Split of package number answer. Condition: the plan lies in memory as stated. -/
import Derived.Test.YtbimecknmojnoaaGreatDoorSplitMath
import Derived.Test.YtbimecknmojnoaaGreatDoorPlanAll
import Derived.Test.YtbimecknmojnoaaGreatDoorResCell
import Derived.Deep.MidRow
set_option linter.unusedVariables false
set_option linter.unusedSimpArgs false
namespace Go.Proofs.YtbimecknmojnoaaGreatDoor
open Go.RowKit

theorem extract_drop (l : List UInt8) (k : Nat) : (⟨l.toArray⟩ : ByteArray).extract k l.length = ⟨(l.drop k).toArray⟩ := by
  rw [Lib.extract_eq]
  simp [List.take_of_length_le]

theorem getD_bang {α : Type} [Inhabited α] (l : List α) (i : Nat) : l[i]! = l.getD i default := by
  rcases Nat.lt_or_ge i l.length with h | h
  · rw [getElem!_pos l i h]; simp [h]
  · rw [getElem!_neg l i (by omega)]; simp [List.getElem?_eq_none h]

theorem ctry_enc {w : World} {b off n : Nat} {l : List Ctry} (hl : n = l.length) (h : ∀ i, i < n → ∀ j, j < 4 → w.cell? ⟨b, off + i * 4 + j, none⟩ = (l.getD i noCtry).cells[j]?) : ∀ j, j < l.length → ∀ i v, (Ctry.cells l[j]!)[i]? = some v → w.cell? ⟨b, off + j * 4 + i, none⟩ = some v := by
  intro j hj i v hv
  have hi : i < 4 := by
    have := (List.getElem?_eq_some_iff.1 hv).1
    simpa [Ctry.cells] using this
  rw [h j (by omega) i hi, ← hv, getD_bang]
  rfl
theorem area_enc {w : World} {b off n : Nat} {l : List Area} (hl : n = l.length) (h : ∀ i, i < n → ∀ j, j < 3 → w.cell? ⟨b, off + i * 3 + j, none⟩ = (l.getD i noArea).cells[j]?) : ∀ j, j < l.length → ∀ i v, (Area.cells l[j]!)[i]? = some v → w.cell? ⟨b, off + j * 3 + i, none⟩ = some v := by
  intro j hj i v hv
  have hi : i < 3 := by
    have := (List.getElem?_eq_some_iff.1 hv).1
    simpa [Area.cells] using this
  rw [h j (by omega) i hi, ← hv, getD_bang]
  rfl

theorem split1_pred (n : List UInt8) (B : Nat) (w : World) (hB : B < w.heap.size) (hcell : w.cell? ⟨B, 0, none⟩ = some (.string ⟨n.toArray⟩)) (h1 : 1 ≤ n.length) (h2 : n.length ≤ 1000) :
    PredBelow Tryz.prog 176 #[.pointer (some ⟨B, 0, none⟩)] (fun x => .agg (Ctry.cells x).toArray) (fun x => Lib.hasPrefix (n.drop 1) x.code) w := fun W x hb => by
  have hc : W.cell? ⟨B, 0, none⟩ = some (.string ⟨n.toArray⟩) := (hb.cell (p := ⟨B, 0, none⟩) hB).trans hcell
  have hBW : B < W.heap.size := Nat.lt_of_lt_of_le hB hb.size
  have hne : B ≠ W.heap.size := by omega
  obtain ⟨code, abroad, trunk, aa, an, ac, areas⟩ := x
  show Calls Tryz.prog 176 #[.agg #[.string ⟨code.toArray⟩, .string ⟨abroad.toArray⟩, .string ⟨trunk.toArray⟩, .slice aa an ac], .pointer (some ⟨B, 0, none⟩)] W _
  simp only
  have hcon := hasPrefix_l (n.drop 1) code
  generalize Lib.hasPrefix (n.drop 1) code = r at hcon ⊢
  have HB := Lib.hid hb
  clear hb hcell hB
  go_enter Tryz.func176, Tryz.ntmps176
  go_wp2_with fail
  go_quiet (first | (go_at_call 75; refine Calls.quiet_of_same (v := .bool r) ((by rw [extract_drop]; exact hcon _ : Calls _ _ _ _ _).mono ?_); rintro e w' ⟨rfl, rfl⟩; exact ⟨rfl, rfl⟩))
  go_wp2_with fail
  go_ret
  exact ⟨rfl, HB.out.trans ((ext_drewN (ext_alloc (Below.refl _ _))).mono HB.out.size)⟩

theorem split2_pred (n : List UInt8) (B : Nat) (w : World) (hB : B < w.heap.size) (hcell : w.cell? ⟨B, 0, none⟩ = some (.string ⟨n.toArray⟩)) :
    PredBelow Tryz.prog 178 #[.pointer (some ⟨B, 0, none⟩)] (fun x => .agg (Area.cells x).toArray) (fun x => Lib.hasPrefix n x.pre) w := fun W x hb => by
  have hc : W.cell? ⟨B, 0, none⟩ = some (.string ⟨n.toArray⟩) := (hb.cell (p := ⟨B, 0, none⟩) hB).trans hcell
  have hBW : B < W.heap.size := Nat.lt_of_lt_of_le hB hb.size
  have hne : B ≠ W.heap.size := by omega
  obtain ⟨pre, low, high⟩ := x
  show Calls Tryz.prog 178 #[.agg #[.string ⟨pre.toArray⟩, .int .i64 low, .int .i64 high], .pointer (some ⟨B, 0, none⟩)] W _
  simp only
  have hcon := hasPrefix_l n pre
  generalize Lib.hasPrefix n pre = r at hcon ⊢
  have HB := Lib.hid hb
  clear hb hcell hB
  go_enter Tryz.func178, Tryz.ntmps178
  go_wp2_with (go_at_call 75; refine (hcon _).mono ?_; rintro e w' ⟨rfl, rfl⟩)
  go_ret
  exact ⟨rfl, HB.out.trans ((ext_alloc (Below.refl _ _)).mono HB.out.size)⟩

/-- The parts of a number, and more. -/
def SplPost (x : Spl) (w : World) (e : Ending) (w' : World) : Prop :=
  ∃ (y0 y1 y2 : ByteArray) (ya : Option Addr) (yn yc : Nat) (y4 : ByteArray) (y5 y6 : Int), e = .returned (.tuple #[.agg #[.string ⟨x.code.toArray⟩, .string ⟨x.area.toArray⟩, .string ⟨x.rest.toArray⟩, .string y0, .string y1, .string y2, .slice ya yn yc, .string y4, .int .i64 y5, .int .i64 y6], .int .i64 x.err]) ∧ Below w.heap.size w w'

theorem isNumber_l (s : List UInt8) (w : World) (hs : s.length ≤ 1000000) : Calls Tryz.prog 126 #[.string ⟨s.toArray⟩] w fun e w' => e = .returned (.bool (isNumB s)) ∧ Below w.heap.size w w' := isNumber_any ⟨s.toArray⟩ w (by show s.length ≤ _; omega)

theorem num_len {n : List UInt8} (h : isNumB n = true) : 5 ≤ n.length ∧ n.length ≤ 16 := by
  obtain ⟨d, rfl, hd⟩ := plus_head h
  unfold digitsB at hd
  simp only [Bool.and_eq_true, decide_eq_true_eq] at hd
  simp only [List.length_cons]
  omega

theorem pre_len {a b : List UInt8} (h : Lib.hasPrefix a b = true) : b.length ≤ a.length := by
  unfold Lib.hasPrefix at h
  rw [List.isPrefixOf_iff_prefix] at h
  exact h.length_le

def zeroParts : Array Value := #[.string ⟨#[]⟩, .string ⟨#[]⟩, .string ⟨#[]⟩, .string ⟨#[]⟩, .string ⟨#[]⟩, .string ⟨#[]⟩, .slice none 0 0, .string ⟨#[]⟩, .int .i64 0, .int .i64 0]

theorem zero_one : zeroParts.all (·.oneCell') = true := by simp [zeroParts, Value.oneCell']
theorem zero_size : (Tryz.prog.info? 160).map (·.size) = some zeroParts.size := by kernel_rfl
theorem there_below {w w' : World} {B o n : Nat} (h : w.there B o n) (hB : B < w.heap.size) (hb : Below w.heap.size w w') : w'.there B o n := fun j hj => by
  obtain ⟨qc, qf⟩ := bcell hb
  exact ⟨by rw [qc B _ hB]; exact (h j hj).1, by rw [qf B _ hB]; exact (h j hj).2⟩
theorem setCells_ext {a : World} {B : Nat} (hB : a.heap.size ≤ B) : ∀ (vs : List Value) (w : World) (k : Nat), Below a.heap.size a w → Below a.heap.size a (w.setCells B k vs)
  | [], _, _, h => h
  | _ :: vs, _, k, h => setCells_ext hB vs _ (k + 1) (ext_setCell h hB)

theorem build_parts (e : Operand → Value) (o : Oper) (w : World) (ho : o.op = .build 160 #[(0, .tmp 65), (1, .tmp 66), (2, .tmp 67)]) (x0 x1 x2 x3 x4 x5 : ByteArray) (x6 : Option Addr) (n c : Nat) (x7 : ByteArray) (x8 x9 : Int)
   (h65 : e (.tmp 65) = .agg #[.string x0, .string x1, .string x2]) (h66 : e (.tmp 66) = .agg #[.string x3, .string x4, .string x5, .slice x6 n c]) (h67 : e (.tmp 67) = .agg #[.string x7, .int .i64 x8, .int .i64 x9]) :
   (execOp e o).run Tryz.prog w = .ok (.value (.agg #[.string x0, .string x1, .string x2, .string x3, .string x4, .string x5, .slice x6 n c, .string x7, .int .i64 x8, .int .i64 x9])) w := by
  unfold execOp
  rw [ho]
  simp only [List.map_toArray, List.map_cons, List.map_nil, h65, h66, h67]

  kernel_rfl

set_option maxRecDepth 100000 in
set_option maxHeartbeats 2000000 in
theorem split_any (w : World) (a : Option Addr) (n cap : Nat) (l : List Ctry) (hr : CtryRow w a n l) (hne : 1 ≤ n) (hna : ∀ i, i < l.length → 1 ≤ (l.getD i noCtry).an) (s : List UInt8) (hs : s.length ≤ 1000) : Calls Tryz.prog 108 #[.slice a n cap, .string ⟨s.toArray⟩] w (SplPost (splitP l s) w) := by
  rcases hr.row with h0 | ⟨b, off, rfl, hb, hcl⟩
  · omega
  have hlen := hr.len
  have hfew := hr.few
  have HR := Lib.hid hr
  have HNA := Lib.hid hna
  have HENC := Lib.hid (ctry_enc hlen hcl)
  have HDEF : Hid (splitP l s = if isNumB s = false then noSpl 3 else splitIn l s) := rfl
  generalize splitP l s = R at HDEF ⊢
  have HLEN := Lib.hid hlen
  clear hr hna hcl hlen
  have HNL : Hid (isNumB s = true → 5 ≤ s.length ∧ s.length ≤ 16) := num_len
  go_enter Tryz.func108, Tryz.ntmps108
  go_wp2_with fail
  refine (isNumber_l s _ (by omega)).mono ?_
  rintro e w1 ⟨rfl, hb1⟩
  obtain ⟨qc, qf⟩ := bcell hb1
  have hz1 : w.heap.size + 1 < w1.heap.size := by have := hb1.size; simp at this; omega
  have hz0 : w.heap.size < w1.heap.size := by omega
  have HB1 : Hid (Below w.heap.size w w1) := ext_trans (ext_alloc (ext_alloc (Below.refl _ _))) hb1
  have c0 : w1.cell? ⟨w.heap.size, 0, none⟩ = some (.string ⟨s.toArray⟩) := (qc _ 0 (by simp; omega)).trans (by go_simp)
  have HTH : Hid (w1.there (w.heap.size + 1) 0 10) := there_below (w := (w.alloc (.cells #[.string ⟨s.toArray⟩] 9)).alloc (.cells zeroParts 160)) (fun j hj => by
    match j, hj with
    | 0, _ | 1, _ | 2, _ | 3, _ | 4, _ | 5, _ | 6, _ | 7, _ | 8, _ | 9, _ => exact ⟨by simp [zeroParts], by simp⟩) (by simp) hb1
  have HR1 := Lib.hid (HR.out.below HB1.out)
  clear qc qf hb1
  generalize isNumB s = g at HDEF HNL ⊢
  as_aux_lemma =>
    cases g
    · have HF : Hid (R = noSpl 3) := HDEF.out
      have HC9 := Lib.hid (World.rangeAt_setCells_same w1 (w.heap.size + 1) 0 zeroParts.toList HTH.out)
      have HB9 := Lib.hid (setCells_ext (B := w.heap.size + 1) (Nat.le_succ _) zeroParts.toList w1 0 HB1.out)
      as_aux_lemma =>
        go_wp2_with (refine wpList_store_mid rfl 160 (.tmp 4) (.tmp 14) rfl (w.heap.size + 1) 0 zeroParts rfl rfl HTH.out zero_size zero_one ?_; generalize World.setCells w1 (w.heap.size + 1) 0 _ = W9 at HC9 HB9 ⊢)
        (try simp only [Exit.inBlock, Exit.then])
        refine bodyPost_ret (?_ : _ = Result.ok (.tuple #[.agg zeroParts, .int .i64 3]) _) rfl ?_
        · exact results_cell2 (t := 4) (u := 5) (by rfl) _ _ _ Tryz.isAgg160 Tryz.sizeOf160 (by rfl) zeroParts.toList rfl (fun j v hj => by have := HC9.out j v hj; rw [Nat.zero_add] at this; exact this)
        exact ⟨_, _, _, _, _, _, _, _, _, by rw [HF.out]; rfl, HB9.out⟩
    · have HD : Hid (R = splitIn l s) := HDEF.out
      obtain ⟨s5, s16⟩ := HNL.out rfl
      clear HDEF HNL
      have hb1 : b < w1.heap.size := Nat.lt_of_lt_of_le hb HB1.out.size
      have hcon := Tryz.slices_idxC Ctry.cells (fun _ => rfl) (fun x => Lib.hasPrefix (s.drop 1) x.code) 176 #[.pointer (some ⟨w.heap.size, 0, none⟩)] (enters_of Tryz.func176 (by kernel_rfl) rfl) b off n cap l w1 (split1_pred s w.heap.size w1 hz0 c0 (by omega) (by omega)) (Nat.le_of_eq HLEN.out) (by omega) hb1 (fun j hj i v hv => (HB1.out.cell (p := ⟨b, off + j * 4 + i, none⟩) hb).trans (HENC.out j hj i v hv))
      rw [show l.take n = l by rw [HLEN.out, List.take_length]] at hcon
      have HIX := Lib.hid (idx_find (fun x : Ctry => Lib.hasPrefix (s.drop 1) x.code) l)
      generalize Lib.idxBy (fun _ (y : Ctry) => Lib.hasPrefix (s.drop 1) y.code) l default = r at hcon HIX
      have HCON := Lib.hid hcon
      clear hcon
      as_aux_lemma =>
        go_wp2_with fail
        refine HCON.out.mono ?_
        rintro e w2 ⟨rfl, hb2⟩
        have HB2 := Lib.hid (ext_trans HB1.out hb2)
        have HTH2 := Lib.hid (there_below HTH.out hz1 hb2)
        have hz2 : w.heap.size + 1 < w2.heap.size := Nat.lt_of_lt_of_le hz1 hb2.size
        have c02 := (hb2.cell (p := ⟨w.heap.size, 0, none⟩) hz0).trans c0
        have HR2 := Lib.hid (HR1.out.below hb2)
        clear c0 hb2 hb1
        rcases HIX.out with ⟨rfl, hf⟩ | ⟨k, hk, rfl, hf, hp⟩
        · have HF : Hid (R = noSpl 8) := by show _ = _; rw [HD.out, splitIn, hf]; rfl
          clear HIX hf HD
          have HC9 := Lib.hid (World.rangeAt_setCells_same w2 (w.heap.size + 1) 0 zeroParts.toList HTH2.out)
          have HB9 := Lib.hid (setCells_ext (B := w.heap.size + 1) (Nat.le_succ _) zeroParts.toList w2 0 HB2.out)
          as_aux_lemma =>
            go_wp2_with (refine wpList_store_mid rfl 160 (.tmp 4) (.tmp 20) rfl (w.heap.size + 1) 0 zeroParts rfl rfl HTH2.out zero_size zero_one ?_; generalize World.setCells w2 (w.heap.size + 1) 0 _ = W9 at HC9 HB9 ⊢)
            (try simp only [Exit.inBlock, Exit.then])
            refine bodyPost_ret (?_ : _ = Result.ok (.tuple #[.agg zeroParts, .int .i64 8]) _) rfl ?_
            · exact results_cell2 (t := 4) (u := 5) (by rfl) _ _ _ Tryz.isAgg160 Tryz.sizeOf160 (by rfl) zeroParts.toList rfl (fun j v hj => by have := HC9.out j v hj; rw [Nat.zero_add] at this; exact this)
            exact ⟨_, _, _, _, _, _, _, _, _, by rw [HF.out]; rfl, HB9.out⟩
        · have HD2 : Hid (R = (inAreas l[k]!.code (s.drop (1 + l[k]!.code.length)) l[k]!.areas).getD (noSpl 8)) := by show _ = _; rw [HD.out, splitIn, hf]; rfl
          have hcl := pre_len hp
          rw [getD_bang, show (default : Ctry) = noCtry from rfl] at hcl
          rw [getD_bang, show (default : Ctry) = noCtry from rfl] at HD2
          have HAN := Lib.hid (HNA.out k hk)
          rcases HR2.out.row with h0 | ⟨b9, off9, hbo, hb9, hcl9⟩
          · omega
          injection hbo with hbo
          injection hbo with e1 e2
          subst e1 e2
          obtain ⟨d0, d1, d2, d3⟩ := ctry_cells (hcl9 k (by rw [HLEN.out]; exact hk))
          have HFI := Lib.hid (HR2.out.each k hk)
          rw [List.length_drop] at hcl
          generalize l.getD k noCtry = c at d0 d1 d2 d3 HD2 hcl HAN HFI
          obtain ⟨code, abroad, trunk, aa, an, ac, areas⟩ := c
          simp only at d0 d1 d2 d3 HD2 hcl HAN
          have hco : code.length + 1 ≤ s.length := by omega
          have hkn : k < n := by rw [HLEN.out]; exact hk
          have hz20 : w.heap.size < w2.heap.size := by omega
          clear hcl9 HIX hf hp HD hcl
          rcases HFI.out.row.row with h0 | ⟨ab, ao, haa, hab, hac⟩
          · have h1 : 1 ≤ an := HAN.out
            have h2 : an = 0 := h0
            omega
          have haa' : aa = some ⟨ab, ao, none⟩ := haa
          subst haa'
          have HAL : Hid (an = areas.length) := HFI.out.row.len
          have hmany : an ≤ 1000 := HFI.out.many
          have HCA : Hid (∀ (W : World) (B : Nat), Below w2.heap.size w2 W → B < W.heap.size → W.cell? ⟨B, 0, none⟩ = some (.string ⟨(s.drop (1 + code.length)).toArray⟩) → Calls Tryz.prog 177 #[.slice (some ⟨ab, ao, none⟩) an ac, .func (.func 178) #[] #[.pointer (some ⟨B, 0, none⟩)]] W fun e w' => e = .returned (.int .i64 (Lib.idxBy (fun _ (y : Area) => Lib.hasPrefix (s.drop (1 + code.length)) y.pre) areas default)) ∧ Below W.heap.size W w') := by
            intro W B hW hB hcB
            have hcon := Tryz.slices_idxA Area.cells (fun _ => rfl) (fun x => Lib.hasPrefix (s.drop (1 + code.length)) x.pre) 178 #[.pointer (some ⟨B, 0, none⟩)] (enters_of Tryz.func178 (by kernel_rfl) rfl) ab ao an ac areas W (split2_pred _ B W hB hcB) (Nat.le_of_eq HAL.out) (by omega) (Nat.lt_of_lt_of_le hab hW.size) (fun j hj i v hv => (hW.cell (p := ⟨ab, ao + j * 3 + i, none⟩) hab).trans (area_enc HAL.out hac j hj i v hv))
            rw [show areas.take an = areas by rw [HAL.out, List.take_length]] at hcon
            exact hcon
          have HIX := Lib.hid (idx_find (fun x : Area => Lib.hasPrefix (s.drop (1 + code.length)) x.pre) areas)
          generalize Lib.idxBy (fun _ (y : Area) => Lib.hasPrefix (s.drop (1 + code.length)) y.pre) areas default = r at HCA HIX
          have HAC := Lib.hid hac
          clear hac haa
          as_aux_lemma =>
            go_wp2_with fail
            rw [extract_drop]
            have hnl : (s.drop (1 + code.length)).length ≤ 16 := by rw [List.length_drop]; omega
            generalize s.drop (1 + code.length) = nat at HCA HIX HD2 hnl ⊢
            refine (HCA.out _ _ (ext_alloc (ext_alloc (Below.refl _ _))) (by simp) (by go_simp)).mono ?_
            rintro e w3 ⟨rfl, hb3⟩
            obtain ⟨qc, qf⟩ := bcell hb3
            have hz3 : w2.heap.size + 1 < w3.heap.size := by have := hb3.size; simp at this; omega
            have HB23 : Hid (Below w2.heap.size w2 w3) := ext_trans (ext_alloc (ext_alloc (Below.refl _ _))) hb3
            have HB3 := Lib.hid (ext_trans HB2.out HB23.out)
            have HTH3 := Lib.hid (there_below HTH2.out hz2 HB23.out)
            have e0 : w3.cell? ⟨w2.heap.size, 0, none⟩ = some (.string ⟨code.toArray⟩) := (qc _ 0 (by simp; omega)).trans (by go_simp)
            have e1 : w3.cell? ⟨w2.heap.size, 1, none⟩ = some (.string ⟨abroad.toArray⟩) := (qc _ 1 (by simp; omega)).trans (by go_simp)
            have e2 : w3.cell? ⟨w2.heap.size, 2, none⟩ = some (.string ⟨trunk.toArray⟩) := (qc _ 2 (by simp; omega)).trans (by go_simp)
            have e3 : w3.cell? ⟨w2.heap.size, 3, none⟩ = some (.slice (some ⟨ab, ao, none⟩) an ac) := (qc _ 3 (by simp; omega)).trans (by go_simp)
            have n0 : w3.cell? ⟨w2.heap.size + 1, 0, none⟩ = some (.string ⟨nat.toArray⟩) := (qc _ 0 (by simp)).trans (by go_simp)
            clear qc qf hb3 c02 d0 d1 d2 d3
            rcases HIX.out with ⟨rfl, hf⟩ | ⟨i, hi, rfl, hf, hp⟩
            · have HF : Hid (R = noSpl 8) := by show _ = _; rw [HD2.out, inAreas, hf]; rfl
              clear HIX hf HD2
              have HC9 := Lib.hid (World.rangeAt_setCells_same w3 (w.heap.size + 1) 0 zeroParts.toList HTH3.out)
              have HB9 := Lib.hid (setCells_ext (B := w.heap.size + 1) (Nat.le_succ _) zeroParts.toList w3 0 HB3.out)
              as_aux_lemma =>
                go_wp2_with (refine wpList_store_mid rfl 160 (.tmp 4) (.tmp 37) rfl (w.heap.size + 1) 0 zeroParts rfl rfl HTH3.out zero_size zero_one ?_; generalize World.setCells w3 (w.heap.size + 1) 0 _ = W9 at HC9 HB9 ⊢)
                (try simp only [Exit.inBlock, Exit.then])
                refine bodyPost_ret (?_ : _ = Result.ok (.tuple #[.agg zeroParts, .int .i64 8]) _) rfl ?_
                · exact results_cell2 (t := 4) (u := 5) (by rfl) _ _ _ Tryz.isAgg160 Tryz.sizeOf160 (by rfl) zeroParts.toList rfl (fun j v hj => by have := HC9.out j v hj; rw [Nat.zero_add] at this; exact this)
                exact ⟨_, _, _, _, _, _, _, _, _, by rw [HF.out]; rfl, HB9.out⟩
            · have HD3 : Hid (R = inArea code nat areas[i]!) := by show _ = _; rw [HD2.out, inAreas, hf]; rfl
              have hcl := pre_len hp
              rw [getD_bang, show (default : Area) = noArea from rfl] at hcl HD3
              have hin : i < an := by rw [HAL.out]; exact hi
              have hA := area_cells (fun j hj => (HB23.out.cell (p := ⟨ab, ao + i * 3 + j, none⟩) hab).trans (HAC.out i hin j hj))
              have HAF := Lib.hid (HFI.out.each i hi)
              simp only at HAF
              clear HIX hf HD2 hp
              generalize areas.getD i noArea = x at hA hcl HD3 HAF
              obtain ⟨pre, low, high⟩ := x
              simp only at hA hcl HD3
              obtain ⟨a0, a1, a2⟩ := hA
              have hz23 : w2.heap.size < w3.heap.size := by omega
              have HB4 : Hid (Below w.heap.size w (w3.alloc (.cells #[.string ⟨pre.toArray⟩, .int .i64 low, .int .i64 high] 155))) := ext_alloc HB3.out
              have HTH4 : Hid ((w3.alloc (.cells #[.string ⟨pre.toArray⟩, .int .i64 low, .int .i64 high] 155)).there (w.heap.size + 1) 0 10) := there_below HTH3.out (by omega) (ext_alloc (Below.refl _ _))
              as_aux_lemma =>
                by_cases k1 : (nat.length : Int) < low
                · have HF : Hid (R = noSpl 1) := by show _ = _; rw [HD3.out, inArea, if_pos]; simp [k1]
                  clear HD3
                  have HC9 := Lib.hid (World.rangeAt_setCells_same (w3.alloc (.cells #[.string ⟨pre.toArray⟩, .int .i64 low, .int .i64 high] 155)) (w.heap.size + 1) 0 zeroParts.toList HTH4.out)
                  have HB9 := Lib.hid (setCells_ext (B := w.heap.size + 1) (Nat.le_succ _) zeroParts.toList (w3.alloc (.cells #[.string ⟨pre.toArray⟩, .int .i64 low, .int .i64 high] 155)) 0 HB4.out)
                  as_aux_lemma =>
                    go_wp2_with (refine wpList_store_mid rfl 160 (.tmp 4) (.tmp 55) rfl (w.heap.size + 1) 0 zeroParts rfl rfl HTH4.out zero_size zero_one ?_; generalize World.setCells (w3.alloc (.cells #[.string ⟨pre.toArray⟩, .int .i64 low, .int .i64 high] 155)) (w.heap.size + 1) 0 _ = W9 at HC9 HB9 ⊢)
                    (try simp only [Exit.inBlock, Exit.then])
                    refine bodyPost_ret (?_ : _ = Result.ok (.tuple #[.agg zeroParts, .int .i64 1]) _) rfl ?_
                    · exact results_cell2 (t := 4) (u := 5) (by rfl) _ _ _ Tryz.isAgg160 Tryz.sizeOf160 (by rfl) zeroParts.toList rfl (fun j v hj => by have := HC9.out j v hj; rw [Nat.zero_add] at this; exact this)
                    exact ⟨_, _, _, _, _, _, _, _, _, by rw [HF.out]; rfl, HB9.out⟩
                · by_cases k2 : high < (nat.length : Int)
                  · have HF : Hid (R = noSpl 1) := by show _ = _; rw [HD3.out, inArea, if_pos]; simp [k2]
                    clear HD3
                    have HC9 := Lib.hid (World.rangeAt_setCells_same (w3.alloc (.cells #[.string ⟨pre.toArray⟩, .int .i64 low, .int .i64 high] 155)) (w.heap.size + 1) 0 zeroParts.toList HTH4.out)
                    have HB9 := Lib.hid (setCells_ext (B := w.heap.size + 1) (Nat.le_succ _) zeroParts.toList (w3.alloc (.cells #[.string ⟨pre.toArray⟩, .int .i64 low, .int .i64 high] 155)) 0 HB4.out)
                    as_aux_lemma =>
                      go_wp2_with (refine wpList_store_mid rfl 160 (.tmp 4) (.tmp 55) rfl (w.heap.size + 1) 0 zeroParts rfl rfl HTH4.out zero_size zero_one ?_; generalize World.setCells (w3.alloc (.cells #[.string ⟨pre.toArray⟩, .int .i64 low, .int .i64 high] 155)) (w.heap.size + 1) 0 _ = W9 at HC9 HB9 ⊢)
                      (try simp only [Exit.inBlock, Exit.then])
                      refine bodyPost_ret (?_ : _ = Result.ok (.tuple #[.agg zeroParts, .int .i64 1]) _) rfl ?_
                      · exact results_cell2 (t := 4) (u := 5) (by rfl) _ _ _ Tryz.isAgg160 Tryz.sizeOf160 (by rfl) zeroParts.toList rfl (fun j v hj => by have := HC9.out j v hj; rw [Nat.zero_add] at this; exact this)
                      exact ⟨_, _, _, _, _, _, _, _, _, by rw [HF.out]; rfl, HB9.out⟩
                  · have HF : Hid (R = ⟨0, code, pre, nat.drop pre.length⟩) := by show _ = _; rw [HD3.out, inArea, if_neg]; simp [k1, k2]
                    clear HD3
                    go_upto_region 14 with (fail)
                    have f0 : (w3.alloc (.cells #[.string ⟨pre.toArray⟩, .int .i64 low, .int .i64 high] 155)).cell? ⟨w2.heap.size, 0, none⟩ = some (.string ⟨code.toArray⟩) := by go_simp
                    have f1 : (w3.alloc (.cells #[.string ⟨pre.toArray⟩, .int .i64 low, .int .i64 high] 155)).cell? ⟨w2.heap.size, 1, none⟩ = some (.string ⟨abroad.toArray⟩) := by go_simp
                    have f2 : (w3.alloc (.cells #[.string ⟨pre.toArray⟩, .int .i64 low, .int .i64 high] 155)).cell? ⟨w2.heap.size, 2, none⟩ = some (.string ⟨trunk.toArray⟩) := by go_simp
                    have f3 : (w3.alloc (.cells #[.string ⟨pre.toArray⟩, .int .i64 low, .int .i64 high] 155)).cell? ⟨w2.heap.size, 3, none⟩ = some (.slice (some ⟨ab, ao, none⟩) an ac) := by go_simp
                    have g0 : (w3.alloc (.cells #[.string ⟨pre.toArray⟩, .int .i64 low, .int .i64 high] 155)).cell? ⟨w2.heap.size + 1, 0, none⟩ = some (.string ⟨nat.toArray⟩) := by go_simp
                    have b0 : (w3.alloc (.cells #[.string ⟨pre.toArray⟩, .int .i64 low, .int .i64 high] 155)).cell? ⟨w3.heap.size, 0, none⟩ = some (.string ⟨pre.toArray⟩) := by go_simp
                    have b1 : (w3.alloc (.cells #[.string ⟨pre.toArray⟩, .int .i64 low, .int .i64 high] 155)).cell? ⟨w3.heap.size, 1, none⟩ = some (.int .i64 low) := by go_simp
                    have b2 : (w3.alloc (.cells #[.string ⟨pre.toArray⟩, .int .i64 low, .int .i64 high] 155)).cell? ⟨w3.heap.size, 2, none⟩ = some (.int .i64 high) := by go_simp
                    generalize w3.alloc (.cells #[.string ⟨pre.toArray⟩, .int .i64 low, .int .i64 high] 155) = W4 at f0 f1 f2 f3 g0 b0 b1 b2 HB4 HTH4 ⊢
                    have HFA : Hid ((fun (w9 : World) => (w9.cell? ⟨w2.heap.size, 0, none⟩ = some (.string ⟨code.toArray⟩) ∧ w9.cell? ⟨w2.heap.size, 1, none⟩ = some (.string ⟨abroad.toArray⟩) ∧ w9.cell? ⟨w2.heap.size, 2, none⟩ = some (.string ⟨trunk.toArray⟩) ∧ w9.cell? ⟨w2.heap.size, 3, none⟩ = some (.slice (some ⟨ab, ao, none⟩) an ac)) ∧ w9.cell? ⟨w2.heap.size + 1, 0, none⟩ = some (.string ⟨nat.toArray⟩) ∧ w9.cell? ⟨w3.heap.size, 0, none⟩ = some (.string ⟨pre.toArray⟩) ∧ w9.cell? ⟨w3.heap.size, 1, none⟩ = some (.int .i64 low) ∧ w9.cell? ⟨w3.heap.size, 2, none⟩ = some (.int .i64 high)) W4) := ⟨⟨f0, f1, f2, f3⟩, g0, b0, b1, b2⟩
                    have hpn : pre.length ≤ nat.length := hcl
                    clear e0 e1 e2 e3 n0 a0 a1 a2 f0 f1 f2 f3 g0 b0 b1 b2
                    as_aux_lemma =>
                      refine region_seqI (S := (fun (w9 : World) => (w9.cell? ⟨w2.heap.size, 0, none⟩ = some (.string ⟨code.toArray⟩) ∧ w9.cell? ⟨w2.heap.size, 1, none⟩ = some (.string ⟨abroad.toArray⟩) ∧ w9.cell? ⟨w2.heap.size, 2, none⟩ = some (.string ⟨trunk.toArray⟩) ∧ w9.cell? ⟨w2.heap.size, 3, none⟩ = some (.slice (some ⟨ab, ao, none⟩) an ac)) ∧ w9.cell? ⟨w2.heap.size + 1, 0, none⟩ = some (.string ⟨nat.toArray⟩) ∧ w9.cell? ⟨w3.heap.size, 0, none⟩ = some (.string ⟨pre.toArray⟩) ∧ w9.cell? ⟨w3.heap.size, 1, none⟩ = some (.int .i64 low) ∧ w9.cell? ⟨w3.heap.size, 2, none⟩ = some (.int .i64 high))) [(true, 0), (true, 1), (true, 2), (true, 3), (true, 4), (true, 5), (true, 6), (true, 7), (true, 8), (true, 9), (true, 10), (true, 11), (true, 12), (false, 13), (true, 14)] (by kernel_rfl) (by kernel_rfl) rfl (by kernel_rfl) HFA.out ?_
                      simp only [seqOps, List.getD_cons_zero, List.getD_cons_succ]
                      refine seqI_take (v := .pointer (some ⟨w2.heap.size, 0, none⟩)) rfl (fun w9 hS9 => by obtain ⟨⟨s0, s1, s2, s3⟩, s4, s5, s6, s7⟩ := hS9; go_simp) (fun _ _ _ h => h) ?_
                      simp only [Act.put, List.setIfInBounds_toArray, List.set_cons_zero, List.set_cons_succ]
                      refine seqI_take (v := .string ⟨code.toArray⟩) rfl (fun w9 hS9 => by obtain ⟨⟨s0, s1, s2, s3⟩, s4, s5, s6, s7⟩ := hS9; go_simp) (fun _ _ _ h => h) ?_
                      simp only [Act.put, List.setIfInBounds_toArray, List.set_cons_zero, List.set_cons_succ]
                      refine seqI_take (v := .pointer (some ⟨w3.heap.size, 0, none⟩)) rfl (fun w9 hS9 => by obtain ⟨⟨s0, s1, s2, s3⟩, s4, s5, s6, s7⟩ := hS9; go_simp) (fun _ _ _ h => h) ?_
                      simp only [Act.put, List.setIfInBounds_toArray, List.set_cons_zero, List.set_cons_succ]
                      refine seqI_take (v := .string ⟨pre.toArray⟩) rfl (fun w9 hS9 => by obtain ⟨⟨s0, s1, s2, s3⟩, s4, s5, s6, s7⟩ := hS9; go_simp) (fun _ _ _ h => h) ?_
                      simp only [Act.put, List.setIfInBounds_toArray, List.set_cons_zero, List.set_cons_succ]
                      refine seqI_take (v := .string ⟨nat.toArray⟩) rfl (fun w9 hS9 => by obtain ⟨⟨s0, s1, s2, s3⟩, s4, s5, s6, s7⟩ := hS9; go_simp) (fun _ _ _ h => h) ?_
                      simp only [Act.put, List.setIfInBounds_toArray, List.set_cons_zero, List.set_cons_succ]
                      refine seqI_take (v := .pointer (some ⟨w3.heap.size, 0, none⟩)) rfl (fun w9 hS9 => by obtain ⟨⟨s0, s1, s2, s3⟩, s4, s5, s6, s7⟩ := hS9; go_simp) (fun _ _ _ h => h) ?_
                      simp only [Act.put, List.setIfInBounds_toArray, List.set_cons_zero, List.set_cons_succ]
                      refine seqI_take (v := .string ⟨pre.toArray⟩) rfl (fun w9 hS9 => by obtain ⟨⟨s0, s1, s2, s3⟩, s4, s5, s6, s7⟩ := hS9; go_simp) (fun _ _ _ h => h) ?_
                      simp only [Act.put, List.setIfInBounds_toArray, List.set_cons_zero, List.set_cons_succ]
                      refine seqI_take (v := .int .i64 pre.length) rfl (fun w9 hS9 => by obtain ⟨⟨s0, s1, s2, s3⟩, s4, s5, s6, s7⟩ := hS9; go_simp) (fun _ _ _ h => h) ?_
                      simp only [Act.put, List.setIfInBounds_toArray, List.set_cons_zero, List.set_cons_succ]
                      refine seqI_take (v := .string ((⟨nat.toArray⟩ : ByteArray).extract pre.length nat.length)) rfl (fun w9 hS9 => by obtain ⟨⟨s0, s1, s2, s3⟩, s4, s5, s6, s7⟩ := hS9; go_simp) (fun _ _ _ h => h) ?_
                      simp only [Act.put, List.setIfInBounds_toArray, List.set_cons_zero, List.set_cons_succ]
                      generalize hrs : (⟨nat.toArray⟩ : ByteArray).extract pre.length nat.length = rs
                      have HRS := Lib.hid hrs
                      clear hrs
                      refine seqI_take (v := .agg #[.string ⟨code.toArray⟩, .string ⟨pre.toArray⟩, .string rs]) rfl (fun w9 hS9 => by obtain ⟨⟨s0, s1, s2, s3⟩, s4, s5, s6, s7⟩ := hS9; go_simp) (fun _ _ _ h => h) ?_
                      simp only [Act.put, List.setIfInBounds_toArray, List.set_cons_zero, List.set_cons_succ]
                      refine seqI_take (v := .agg #[.string ⟨code.toArray⟩, .string ⟨abroad.toArray⟩, .string ⟨trunk.toArray⟩, .slice (some ⟨ab, ao, none⟩) an ac]) rfl (fun w9 hS9 => by obtain ⟨⟨s0, s1, s2, s3⟩, s4, s5, s6, s7⟩ := hS9; go_simp) (fun _ _ _ h => h) ?_
                      simp only [Act.put, List.setIfInBounds_toArray, List.set_cons_zero, List.set_cons_succ]
                      refine seqI_take (v := .agg #[.string ⟨pre.toArray⟩, .int .i64 low, .int .i64 high]) rfl (fun w9 hS9 => by obtain ⟨⟨s0, s1, s2, s3⟩, s4, s5, s6, s7⟩ := hS9; go_simp) (fun _ _ _ h => h) ?_
                      simp only [Act.put, List.setIfInBounds_toArray, List.set_cons_zero, List.set_cons_succ]
                      refine seqI_take (v := .agg #[.string ⟨code.toArray⟩, .string ⟨pre.toArray⟩, .string rs, .string ⟨code.toArray⟩, .string ⟨abroad.toArray⟩, .string ⟨trunk.toArray⟩, .slice (some ⟨ab, ao, none⟩) an ac, .string ⟨pre.toArray⟩, .int .i64 low, .int .i64 high]) rfl (fun w9 hS9 => build_parts _ _ w9 rfl _ _ _ _ _ _ _ _ _ _ _ _ rfl rfl rfl) (fun _ _ _ h => h) ?_
                      simp only [Act.put, List.setIfInBounds_toArray, List.set_cons_zero, List.set_cons_succ]
                      obtain ⟨F, hF9⟩ : ∃ F : List Value, F = [.string ⟨code.toArray⟩, .string ⟨pre.toArray⟩, .string rs, .string ⟨code.toArray⟩, .string ⟨abroad.toArray⟩, .string ⟨trunk.toArray⟩, .slice (some ⟨ab, ao, none⟩) an ac, .string ⟨pre.toArray⟩, .int .i64 low, .int .i64 high] := ⟨_, rfl⟩
                      have HFF := Lib.hid hF9
                      have HTF : Hid (W4.drew.there (w.heap.size + 1) 0 F.toArray.size) := by rw [hF9]; exact HTH4.out
                      have HON : Hid (F.toArray.all (·.oneCell') = true) := by show _ = _; rw [hF9]; simp [Value.oneCell']
                      have HSZ : Hid ((Tryz.prog.info? 160).map (·.size) = some F.toArray.size) := by rw [hF9]; exact zero_size
                      clear hF9
                      have HC9 := Lib.hid (World.rangeAt_setCells_same W4.drew (w.heap.size + 1) 0 F HTF.out)
                      have HB9 := Lib.hid (setCells_ext (B := w.heap.size + 1) (Nat.le_succ _) F W4.drew 0 (ext_drew HB4.out))
                      have HS9 : Hid ((fun (w9 : World) => (w9.cell? ⟨w2.heap.size, 0, none⟩ = some (.string ⟨code.toArray⟩) ∧ w9.cell? ⟨w2.heap.size, 1, none⟩ = some (.string ⟨abroad.toArray⟩) ∧ w9.cell? ⟨w2.heap.size, 2, none⟩ = some (.string ⟨trunk.toArray⟩) ∧ w9.cell? ⟨w2.heap.size, 3, none⟩ = some (.slice (some ⟨ab, ao, none⟩) an ac)) ∧ w9.cell? ⟨w2.heap.size + 1, 0, none⟩ = some (.string ⟨nat.toArray⟩) ∧ w9.cell? ⟨w3.heap.size, 0, none⟩ = some (.string ⟨pre.toArray⟩) ∧ w9.cell? ⟨w3.heap.size, 1, none⟩ = some (.int .i64 low) ∧ w9.cell? ⟨w3.heap.size, 2, none⟩ = some (.int .i64 high)) (W4.drew.setCells (w.heap.size + 1) 0 F)) := by
                        obtain ⟨⟨f0, f1, f2, f3⟩, g0, b0, b1, b2⟩ := HFA.out
                        have out : ∀ (B o : Nat), B ≠ w.heap.size + 1 → (W4.drew.setCells (w.heap.size + 1) 0 F).cell? ⟨B, o, none⟩ = W4.cell? ⟨B, o, none⟩ := fun B o hB => World.cell?_setCells_out _ _ _ _ _ (fun h1 _ => absurd h1 hB)
                        exact ⟨⟨(out _ _ (by omega)).trans f0, (out _ _ (by omega)).trans f1, (out _ _ (by omega)).trans f2, (out _ _ (by omega)).trans f3⟩, (out _ _ (by omega)).trans g0, (out _ _ (by omega)).trans b0, (out _ _ (by omega)).trans b1, (out _ _ (by omega)).trans b2⟩
                      refine seqI_do rfl (wp_store_mid 160 (.tmp 4) (.tmp 68) rfl (w.heap.size + 1) 0 F.toArray rfl (by rw [HFF.out]; rfl) HTF.out HSZ.out HON.out ⟨HS9.out, ?_⟩)
                      simp only [List.toList_toArray]
                      generalize World.setCells W4.drew (w.heap.size + 1) 0 F = W9 at HC9 HB9 HS9 ⊢
                      simp only [Act.put, List.setIfInBounds_toArray, List.set_cons_zero, List.set_cons_succ]
                      refine seqI_take (v := .int .i64 0) rfl (fun w9 hS9 => by go_simp) (fun _ _ _ h => h) ?_
                      simp only [Act.put, List.setIfInBounds_toArray, List.set_cons_zero, List.set_cons_succ]
                      refine seqI_nil ?_
                      clear HFA HTF HON HSZ HS9 HTH4
                      go_wp2_with fail
                      (try simp only [Exit.inBlock, Exit.then])
                      refine bodyPost_ret (?_ : _ = Result.ok (.tuple #[.agg F.toArray, .int .i64 0]) _) rfl ?_
                      · exact results_cell2 (t := 4) (u := 5) (by rfl) _ _ _ Tryz.isAgg160 Tryz.sizeOf160 (by rfl) F (by rw [HFF.out]; rfl) (fun j v hj => by have := HC9.out j v hj; rw [Nat.zero_add] at this; exact this)
                      exact ⟨_, _, _, _, _, _, _, _, _, by rw [HF.out, HFF.out, ← HRS.out, extract_drop], HB9.out⟩
end Go.Proofs.YtbimecknmojnoaaGreatDoor
