/- What is proved here: lemmas and contracts for the statement, put together out of smaller texts (CarrOfs, CarrClone, CarrChk, CarrDat, CarrOfx, CarrEqO, CarrSame, CarrRfr, CarrRfw). No condition beyond those stated. -/
import Derived.Test.YtppinnjdaoaddaaGreatDoorCoPkD
import Derived.Test.YtppinnjdaoaddaaGreatDoorCoPkA
import Derived.Test.YtppinnjdaoaddaaGreatDoorCoPkC
import Derived.Lib.SliceRun
import Derived.Laws.StructEq
import Derived.Test.YtppinnjdaoaddaaGreatDoorCoPkB
import Derived.Test.YtppinnjdaoaddaaGreatDoorShelfOff
import Derived.Test.YtppinnjdaoaddaaGreatDoorShelfNum
set_option linter.unusedVariables false
set_option linter.unusedSimpArgs false
namespace Go.Proofs.YtppinnjdaoaddaaGreatDoor
open Go.RowKit Go.Sort Go.Lib

/-- Offers of the first carriers. -/
def offTo (l : List Carr) (s : List UInt8) (t : Int) : Nat → List Off
  | 0 => []
  | k + 1 => offTo l s t k ++ (if (costV (l.getD k noCarr).decks s t 60000).2 = true then [⟨(l.getD k noCarr).key, (costV (l.getD k noCarr).decks s t 60000).1⟩] else [])
theorem offTo_len (l : List Carr) (s : List UInt8) (t : Int) : ∀ k, (offTo l s t k).length ≤ k
  | 0 => Nat.le_refl _
  | k + 1 => by
    have := offTo_len l s t k
    unfold offTo
    split <;> simp <;> omega
theorem ocells_snoc (l : List Off) (r : Off) : ((l ++ [r]).map Off.cells).flatten = (l.map Off.cells).flatten ++ Off.cells r := by simp
theorem Tryz.infoOff : (Tryz.prog.info? 80).map (fun i => (i.zero, i.size, i.bytes)) = some (some (.agg #[.string ⟨#[]⟩, .int .i64 0]), 2, 24) := by kernel_rfl
theorem off_snoc {w : World} {base : Nat} {v : Value} {l : List Off} {r : Off} (h : w.ownsRow base 80 2 v (l.length + 1) ((l.map Off.cells).flatten ++ Off.cells r)) : OffRow w base v (l ++ [r]) := by
  unfold OffRow
  rw [ocells_snoc, List.length_append]
  exact h
def OfsPost (x : List Off) (w : World) (e : Ending) (w' : World) : Prop := ∃ v, e = .returned v ∧ OffRow w' w.heap.size v x ∧ Below w.heap.size w w'
/-- Where a carrier's deck holds it is right. -/
def GoodAt (l : List Carr) (t : Int) : Prop := ∀ k, k < l.length → ∀ d, deckV (l.getD k noCarr).decks t = some d → DeckGood d.setup d.least d.step d.rates
theorem bl_ofs0 (e : Operand → Value) (he : ∀ v, e (.const v) = v) (o : Oper) (w : World) (i0 : Nat) (p0_0 : ByteArray) (z0_1 : Int) (ho : o.op = .buildSlice 74 1 #[(0, .tmp i0)]) (h0 : e (.tmp i0) = .agg #[.string p0_0, .int .i64 z0_1]) :
   (execOp e o).run Tryz.prog w = .ok (.value (.slice (some ⟨w.heap.size, 0, none⟩) 1 1)) (w.alloc (.cells #[.string p0_0, .int .i64 z0_1] 80)) := by
  unfold execOp
  rw [ho]
  simp only [List.map_toArray, List.map_cons, List.map_nil, h0]
  kernel_rfl
set_option maxRecDepth 100000 in
set_option maxHeartbeats 8000000 in
theorem offersI_any (w : World) (a : Option Addr) (n cap : Nat) (l : List Carr) (hl : CarrRow w a n l) (hn3 : n ≤ 3) (nm : List UInt8) (h1 : 1 ≤ nm.length) (h16 : nm.length ≤ 16) (t : Int) (hg : GoodAt l t) : Calls Tryz.prog 76 #[.slice a n cap, .string ⟨nm.toArray⟩, .int .i64 t] w (OfsPost (insL (ltOf cfP) (offTo l (nm.drop 1) t n)) w) := by
  obtain ⟨i1, hi1, hy0, hy1, hy2⟩ := info_parts Tryz.infoOff
  have HR := Lib.hid hl
  have HG := Lib.hid hg
  have HLEN := Lib.hid hl.len
  have hnd : (nm.drop 1).length ≤ 1000 := by rw [List.length_drop]; omega
  have HEX : Hid ((⟨nm.toArray⟩ : ByteArray).extract 1 nm.length = ⟨(nm.drop 1).toArray⟩) := extract_drop nm 1
  clear hl hg
  go_enter Tryz.func76, Tryz.ntmps76
  go_wp2_with fail
  go_loopw [7, 14] (fun vo it wr => ∃ k : Nat, k ≤ n ∧ it = .int .i64 k ∧ Hid (OffRow wr w.heap.size vo (offTo l (nm.drop 1) t k)) ∧ Hid (Below w.heap.size w wr)) (fun _ it _ => n - (intOf it).toNat)
  case atStart => exact ⟨0, Nat.zero_le _, rfl, World.ownsRow_nil _ _ _ _, Below.refl _ _⟩
  case round =>
    obtain ⟨k, hk, rfl, HO, HB⟩ := hrel
    by_cases hlt : k < n
    case neg =>
      obtain rfl : k = n := by omega
      have hge : ¬ (k : Int) < (k : Int) := by omega
      have hol := offTo_len l (nm.drop 1) t k
      obtain ⟨vo, rfl⟩ : ∃ x : Value, x = u7 := ⟨_, rfl⟩
      as_aux_lemma =>
        go_wp2_with fail
        refine (stableO_any _ w.heap.size vo _ HO.out (by omega)).mono ?_
        rintro e w5 ⟨rfl, ho, hb⟩
        have HO5 := Lib.hid ho
        have HB5 := Lib.hid (HB.out.trans hb)
        clear ho hb
        go_wp2_with fail
        go_ret
        exact ⟨_, rfl, HO5.out, HB5.out⟩
    have hlti : (k : Int) < (n : Int) := by omega
    obtain ⟨b, off, rfl, hb, hc⟩ := (HR.out.below HB.out).at (by omega)
    obtain ⟨c0, c1, c2⟩ := hc k hlt
    have HCF : Hid (CarrFine wr (l.getD k noCarr)) := (HR.out.below HB.out).each k (by rw [← HLEN.out]; exact hlt)
    have HGK : Hid (∀ d, deckV (l.getD k noCarr).decks t = some d → DeckGood d.setup d.least d.step d.rates) := HG.out k (by rw [← HLEN.out]; exact hlt)
    have HE : Hid (offTo l (nm.drop 1) t (k + 1) = offTo l (nm.drop 1) t k ++ (if (costV (l.getD k noCarr).decks (nm.drop 1) t 60000).2 = true then [⟨(l.getD k noCarr).key, (costV (l.getD k noCarr).decks (nm.drop 1) t 60000).1⟩] else [])) := rfl
    have hol := offTo_len l (nm.drop 1) t k
    clear hc
    generalize l.getD k noCarr = cx at c0 c1 c2 HCF HE HGK
    obtain ⟨ky, ln, da, dn, dc, dk⟩ := cx
    simp only at c0 c1 c2 HE HGK
    generalize hos : offTo l (nm.drop 1) t k = os at HO HE hol
    clear hos
    have HCB : Hid (∀ W, Below wr.heap.size wr W → Calls Tryz.prog 84 #[.agg #[.string ⟨ky.toArray⟩, .int .i64 ln, .slice da dn dc], .string ((⟨nm.toArray⟩ : ByteArray).extract 1 nm.length), .int .i64 t, .int .i64 60000] W (PriceOfPost (costV dk (nm.drop 1) t 60000) W)) := fun W hW => by
      rw [HEX.out]
      exact costBy_any W ky ln da dn dc dk (HCF.out.below hW).row HCF.out.cap (nm.drop 1) hnd t 60000 HGK.out ⟨by omega, by omega⟩
    generalize costV dk (nm.drop 1) t 60000 = V at HE HCB
    obtain ⟨p, bb⟩ := V
    clear HCF HGK
    as_aux_lemma =>
      go_upto_region 5 with (fail)
      have HX : Hid (Blk (wr.alloc (.cells #[.string ⟨ky.toArray⟩, .int .i64 ln, .slice da dn dc] 72)) wr.heap.size [.string ⟨ky.toArray⟩, .int .i64 ln, .slice da dn dc] 72) := Blk.new wr [.string ⟨ky.toArray⟩, .int .i64 ln, .slice da dn dc] 72
      have hA : Below wr.heap.size wr (wr.alloc (.cells #[.string ⟨ky.toArray⟩, .int .i64 ln, .slice da dn dc] 72)) := ext_alloc (Below.refl _ _)
      have HBA := Lib.hid (ext_trans HB.out hA)
      have HCA : Hid (∀ W, Below ((wr.alloc (.cells #[.string ⟨ky.toArray⟩, .int .i64 ln, .slice da dn dc] 72))).heap.size (wr.alloc (.cells #[.string ⟨ky.toArray⟩, .int .i64 ln, .slice da dn dc] 72)) W → Below wr.heap.size wr W) := fun W h => ext_trans hA h
      have HOA : Hid (OffRow (wr.alloc (.cells #[.string ⟨ky.toArray⟩, .int .i64 ln, .slice da dn dc] 72)) w.heap.size u7 os) := World.ownsRow.alloc HO.out _
      have hX : wr.heap.size < ((wr.alloc (.cells #[.string ⟨ky.toArray⟩, .int .i64 ln, .slice da dn dc] 72))).heap.size := by simp
      clear hA HB HO
      generalize (wr.alloc (.cells #[.string ⟨ky.toArray⟩, .int .i64 ln, .slice da dn dc] 72)) = wa at HX HBA HCA HOA hX ⊢
      have x0 := HX.out.cell 0 rfl
      have x1 := HX.out.cell 1 rfl
      have x2 := HX.out.cell 2 rfl
      obtain ⟨vo, rfl⟩ : ∃ x : Value, x = u7 := ⟨_, rfl⟩
      go_region_with (go_at_call 84; refine (HCB.out _ (HCA.out _ (ext_drew (Below.refl _ _)))).mono ?_; rintro e w3 ⟨rfl, hb3⟩)
      all_goals
        have hb4 : Below wa.heap.size wa w3 := ext_trans (ext_drew (Below.refl _ _)) hb3
        have HB3 := Lib.hid (ext_trans HBA.out hb4)
        have HX3 := Lib.hid (HX.out.below hb4)
        have HO3 : Hid (OffRow w3 w.heap.size vo os) := own_keep HOA.out hb4
        have x0 := HX3.out.cell 0 rfl
        have x1 := HX3.out.cell 1 rfl
        have x2 := HX3.out.cell 2 rfl
        clear hb4 hb3 HBA HX HOA HCB HCA
        cases bb
        · have HE2 : Hid (offTo l (nm.drop 1) t (k + 1) = os) := by show _ = _; rw [HE.out, if_neg (by simp), List.append_nil]
          clear HE
          as_aux_lemma =>
            go_wp2_with fail
            go_roundw
            case rel => exact ⟨k + 1, by omega, by go_num, by rw [HE2.out]; exact HO3.out, HB3.out⟩
            case measure => simp [intOf]; omega
        · have HE2 : Hid (offTo l (nm.drop 1) t (k + 1) = os ++ [⟨ky, p⟩]) := by show _ = _; rw [HE.out, if_pos rfl]
          clear HE
          have hW9 : w.heap.size ≤ w3.heap.size := HB3.out.size
          obtain ⟨oa, oc, rfl⟩ := own_shape HO3.out
          have hvw : ∀ b, (Value.slice oa os.length oc).ownBlock = some b → w.heap.size ≤ b := fun b e => (HO3.out.lt b e).1
          have HOA : Hid (World.ownsRow (w3.alloc (.cells #[.string ⟨ky.toArray⟩, .int .i64 p] 80)) w.heap.size 80 2 (.slice oa os.length oc) os.length ((os.map Off.cells).flatten)) := World.ownsRow.alloc HO3.out (.cells #[.string ⟨ky.toArray⟩, .int .i64 p] 80)
          have HNA : Hid (Blk (w3.alloc (.cells #[.string ⟨ky.toArray⟩, .int .i64 p] 80)) w3.heap.size [.string ⟨ky.toArray⟩, .int .i64 p] 80) := Blk.new w3 [.string ⟨ky.toArray⟩, .int .i64 p] 80
          clear HO3
          as_aux_lemma =>
            go_wp2_with (first | (refine wpList_val rfl (bl_ofs0 _ (fun _ => rfl) _ _ 31 ⟨ky.toArray⟩ p rfl rfl) ?_) | (at_builtin; go_loud (refine wpList_append_own_at _ rfl (.tmp 27) (.tmp 32) 74 rfl w.heap.size 80 i1 _ 2 24 Tryz.underlying74 hi1 hy0 hy1 hy2 rfl (by omega) (.slice oa os.length oc) os.length _ rfl HOA.out ⟨w3.heap.size, 0, none⟩ 1 1 [.string ⟨ky.toArray⟩, .int .i64 p] rfl rfl (fun j u hj => by rw [add0]; exact HNA.out.cell j hj) (by simp [Value.oneCell']) (by simp only [maxLen]; omega) (by omega) (by simp; omega) ?_); intro v12 w12 hown12 hgr12 _ hat12; have HQ1 := Lib.hid hown12; have HQ2 := Lib.hid hgr12; clear hown12 hgr12 hat12 HOA HNA; refine Hid.out ?_))
            refine Lib.hid ?_
            have HO12 : Hid (OffRow w12 w.heap.size v12 (os ++ [⟨ky, p⟩])) := off_snoc HQ1.out
            have HB12 : Hid (Below w.heap.size w w12) := HB3.out.trans (upto_grown HQ2.out hW9 hvw)
            clear HQ1 HQ2
            as_aux_lemma =>
              go_wp2_with fail
              go_roundw
              case rel => exact ⟨k + 1, by omega, by go_num, by rw [HE2.out]; exact HO12.out, HB12.out⟩
              case measure => simp [intOf]; omega
end Go.Proofs.YtppinnjdaoaddaaGreatDoor

set_option linter.unusedVariables false
set_option linter.unusedSimpArgs false
namespace Go.Proofs.YtppinnjdaoaddaaGreatDoor
open Go.RowKit

theorem rate_flat {w : World} {a : Option Addr} {n : Nat} {l : List Rate} (h : RateRow w a n l) (ad : Addr) (ha : a = some ad) : ∀ (j : Nat) (u : Value), ((l.map Rate.cells).flatten)[j]? = some u → w.cell? (ad.add j) = some u := fun j u hu => by
  have hlen := h.len
  have hfl : ((l.map Rate.cells).flatten).length = l.length * 3 := by
    have := flat_len2 (sz := 3) (cs := l.map Rate.cells) (fun c hc => by obtain ⟨y, _, rfl⟩ := List.mem_map.1 hc; rfl)
    simpa using this
  have hj : j < l.length * 3 := by
    obtain ⟨h1, -⟩ := List.getElem?_eq_some_iff.1 hu
    omega
  rcases h.cells.row with h0 | ⟨b, off, hb, hbl, hc⟩
  · omega
  · rw [ha] at hb
    injection hb with hb
    subst hb
    have h1 := hc (j / 3) (by omega) (j % 3) (by omega)
    have h2 := flat_at (sz := 3) (cs := l.map Rate.cells) (fun c hc => by obtain ⟨y, _, rfl⟩ := List.mem_map.1 hc; rfl) (j / 3) (by simp; omega) (j % 3) (by omega)
    rw [show j / 3 * 3 + j % 3 = j by omega] at h2
    rw [← h2, hu] at h1
    rw [show (⟨b, off, none⟩ : Addr).add j = ⟨b, off + j / 3 * 3 + j % 3, none⟩ by rw [show off + j / 3 * 3 + j % 3 = off + j by omega]; simp [Addr.add]]
    exact h1
theorem own_rate0 (w : World) (base : Nat) (hb : base ≤ w.heap.size) : (w.alloc (.cells #[] 120)).ownsRow base 120 3 (.slice (some ⟨w.heap.size, 0, none⟩) 0 0) 0 [] := World.ownsRow_lit w #[] 0 hb (by simp only [maxLen]; omega) rfl
def CloneRPost (n : Nat) (l : List Rate) (w : World) (e : Ending) (w' : World) : Prop := ∃ v', e = .returned v' ∧ w'.ownsRow w.heap.size 120 3 v' n ((l.map Rate.cells).flatten) ∧ Below w.heap.size w w'
set_option maxRecDepth 100000 in
set_option maxHeartbeats 2000000 in
theorem cloneR_any (w : World) (a : Option Addr) (n c : Nat) (l : List Rate) (h : RateRow w a n l) : Calls Tryz.prog 71 #[.slice a n c] w (CloneRPost n l w) := by
  obtain ⟨i0, hi, hz0, hz1, hz2⟩ := info_parts Tryz.infoRate
  have hl := h.len
  have hfew := h.few
  have q24 : ∀ (w : World) (a : Option Addr) (n c n' c' : Nat), (binOp .eql 61 (.slice a n c) (.slice none n' c')).run Tryz.prog w = .ok (.bool a.isNone) w := fun w a n c n' c' => Lib.run_eql_slice_nil w _ _ a n c n' c' Tryz.underlying61
  cases a with
  | none =>
    have h0 : n = 0 := by
      rcases h.cells.row with h0 | ⟨b, off, hb, -⟩
      · exact h0
      · cases hb
    have hx : l = [] := List.eq_nil_of_length_eq_zero (by omega)
    subst hx
    subst h0
    clear h hl
    go_enter Tryz.func71, Tryz.ntmps71
    go_wp2_with fail
    go_ret
    exact ⟨_, rfl, World.ownsRow_nil _ _ _ _, (by (try show Below _ _ _); repeat (with_reducible first | exact Below.refl _ _ | assumption | exact Hid.out (by assumption) | refine ext_alloc ?_ | refine ext_drewN ?_ | refine ext_drew ?_ | refine ext_setCell ?_ (Nat.le_refl _) | refine ext_setCell ?_ (Nat.le_succ _) | refine ext_trans ?_ (by assumption) | (refine ext_setCell ?_ (by simp)) | (refine ext_setCell ?_ (by simp at *; omega))))⟩
  | some ad =>
    have HLN : Hid (((l.map Rate.cells).flatten).length = n * 3) := by
      show _ = _
      have := flat_len2 (sz := 3) (cs := l.map Rate.cells) (fun c hc => by obtain ⟨y, _, rfl⟩ := List.mem_map.1 hc; rfl)
      rw [this, List.length_map, hl]
    have HCE : Hid (∀ (j : Nat) u, ((l.map Rate.cells).flatten)[j]? = some u → (w.alloc (.cells #[] 120)).cell? (ad.add j) = some u) := fun j u hu => by
      exact rate_flat (h.below (ext_alloc (Below.refl _ _))) ad rfl j u hu
    have HON : Hid (∀ u ∈ (l.map Rate.cells).flatten, u.oneCell' = true) := fun u hu => by
      obtain ⟨cs, h1, h2⟩ := List.mem_flatten.1 hu
      obtain ⟨y, -, rfl⟩ := List.mem_map.1 h1
      simp only [Rate.cells, List.mem_cons, List.not_mem_nil, or_false] at h2
      rcases h2 with rfl | rfl | rfl <;> rfl
    have HOA := Lib.hid (own_rate0 w w.heap.size (Nat.le_refl _))
    have HOK : Hid (∀ (v' : Value) (W : World), W.ownsRow w.heap.size 120 3 v' n ((l.map Rate.cells).flatten) → Below w.heap.size w W → CloneRPost n l w (.returned v') W) := fun v' W h1 h2 => ⟨v', rfl, h1, h2⟩
    generalize hPP : CloneRPost n l w = PP at HOK ⊢
    generalize (l.map Rate.cells).flatten = fl at HLN HCE HON HOK
    clear h hl hPP
    go_enter Tryz.func71, Tryz.ntmps71
    go_wp2_with (at_builtin; refine wpList_append_own_at _ rfl (.tmp 5) (.tmp 6) 61 rfl w.heap.size 120 i0 _ 3 32 Tryz.underlying61 hi hz0 hz1 hz2 rfl (by omega) _ 0 _ rfl HOA.out ad n c fl rfl HLN.out HCE.out HON.out (by simp only [maxLen]; omega) (by omega) (by simp) ?_; intro v6 w6 hown6 hgr6 _ _)
    have HO6 : Hid (w6.ownsRow w.heap.size 120 3 v6 n fl) := by
      show World.ownsRow _ _ _ _ _ _ _
      rw [Nat.zero_add, List.nil_append] at hown6
      exact hown6
    have HB6 : Hid (Below w.heap.size w w6) := upto_grown hgr6 (Nat.le_refl _) (fun b e => (HOA.out.lt b e).1)
    clear hown6 hgr6
    exact HOK.out _ _ HO6.out HB6.out
end Go.Proofs.YtppinnjdaoaddaaGreatDoor

set_option linter.unusedVariables false
set_option linter.unusedSimpArgs false
namespace Go.Proofs.YtppinnjdaoaddaaGreatDoor
open Go.RowKit

set_option maxRecDepth 100000 in
set_option maxHeartbeats 4000000 in
theorem checkCarr_any (w : World) (a : Option Addr) (n cap : Nat) (l : List Carr) (hl : CarrRow w a n l) (hcap : n ≤ cap) : Calls Tryz.prog 28 #[.slice a n cap] w (ErrPost (carrsErr l) w) := by
  have hlen := hl.len
  have hfew := hl.few
  have HC := Lib.hid (carrs_cases l (by omega))
  have HR := Lib.hid hl
  clear hl
  generalize carrsErr l = R at HC ⊢
  rw [← hlen] at HC
  have HLEN := Lib.hid hlen
  clear hlen
  have hbig : ¬ (50 : Int) < n := by omega
  go_enter Tryz.func28, Tryz.ntmps28
  go_wp2_with fail
  clear hbig
  go_loopw [13] (fun it wr => ∃ k : Nat, k ≤ n ∧ it = .int .i64 k ∧ Hid (∀ j, j < k → carrErr l j = 0) ∧ Hid (Below w.heap.size w wr)) (fun it _ => n - (intOf it).toNat)
  case atStart => exact ⟨0, Nat.zero_le _, rfl, fun j hj => by omega, Below.refl _ _⟩
  case round =>
    obtain ⟨k, hk, rfl, HZ, HB⟩ := hrel
    by_cases hlt : k < n
    case neg =>
      obtain rfl : k = n := by omega
      obtain rfl : R = 0 := HC.out.2 HZ.out
      clear HC HZ
      as_aux_lemma =>
        go_wp2_with fail
        go_ret
        exact ⟨rfl, HB.out⟩
    obtain ⟨b, off, rfl, hb, hc⟩ := HR.out.at (by omega)
    have HCC := Lib.hid hc
    obtain ⟨q0, q1, q2⟩ := hc k hlt
    have c0 := (HB.out.cell (p := ⟨b, off + k * 3, none⟩) hb).trans q0
    have c1 := (HB.out.cell (p := ⟨b, off + k * 3 + 1, none⟩) hb).trans q1
    have c2 := (HB.out.cell (p := ⟨b, off + k * 3 + 2, none⟩) hb).trans q2
    have HFI := Lib.hid (HR.out.each k (by rw [← HLEN.out]; exact hlt))
    have HER : Hid (carrErr l k = if isKeyB (l.getD k noCarr).key = false then 5
      else if 0 < k ∧ Op.bytesLess (l.getD (k - 1) noCarr).key (l.getD k noCarr).key = false then 7
      else if inB (l.getD k noCarr).lines 1 100000 = false then 1
      else if 20 < (l.getD k noCarr).decks.length then 2
      else firstErr (deckAtErr (l.getD k noCarr).decks) (l.getD k noCarr).decks.length) := rfl
    have HSTOP := Lib.hid (HC.out.1 k hlt HZ.out)
    have HNX : Hid (carrErr l k = 0 → ∀ j, j < k + 1 → carrErr l j = 0) := fun h j hj => by
      rcases Nat.lt_succ_iff_lt_or_eq.1 hj with h9 | rfl
      · exact HZ.out j h9
      · exact h
    have HPV : Hid (0 < k → w.cell? ⟨b, off + (k - 1) * 3, none⟩ = some (.string ⟨(l.getD (k - 1) noCarr).key.toArray⟩)) := fun h => (HCC.out (k - 1) (by omega)).1
    clear q0 q1 q2 hc HZ HCC HC
    generalize carrErr l k = X at HER HSTOP HNX
    generalize l.getD k noCarr = c at c0 c1 c2 HFI HER
    generalize l.getD (k - 1) noCarr = q at HER HPV
    obtain ⟨ck, cl, da, dn, dc, dk⟩ := c
    obtain ⟨qk, ql, qa, qn, qc, qd⟩ := q
    have HDR : Hid (DeckRow w da dn dk) := HFI.out.row
    have hdl : dn = dk.length := HFI.out.row.len
    have hdf : dn ≤ 100 := HFI.out.row.few
    have hdc : dn ≤ dc := HFI.out.cap
    have hkl : ck.length ≤ 100 := HFI.out.key
    have hli : -2000000000000 ≤ cl ∧ cl ≤ 2000000000000 := HFI.out.b1
    have HDL := Lib.hid hdl
    simp only at c0 c1 c2 HER HPV
    rw [← hdl] at HER
    clear HFI hdl
    as_aux_lemma =>
      go_wp2_with fail
      refine (isKey_any ck _ (by omega)).mono ?_
      rintro e w3 ⟨rfl, hb3⟩
      obtain ⟨qc9, qf⟩ := bcell hb3
      have hz3 : wr.heap.size < w3.heap.size := by have := hb3.size; simp at this; omega
      have e0 : w3.cell? ⟨wr.heap.size, 0, none⟩ = some (.string ⟨ck.toArray⟩) := (qc9 _ 0 (by simp)).trans (by go_simp)
      have e1 : w3.cell? ⟨wr.heap.size, 1, none⟩ = some (.int .i64 cl) := (qc9 _ 1 (by simp)).trans (by go_simp)
      have e2 : w3.cell? ⟨wr.heap.size, 2, none⟩ = some (.slice da dn dc) := (qc9 _ 2 (by simp)).trans (by go_simp)
      have HB3 : Hid (Below w.heap.size w w3) := ext_trans (ext_alloc HB.out) hb3
      have hTw : w.heap.size ≤ wr.heap.size := HB.out.size
      generalize wr.heap.size = T at e0 e1 e2 hz3 hTw ⊢
      clear qc9 qf hb3 c0 c1 c2 HB
      generalize isKeyB ck = g1 at HER ⊢
      cases g1
      · obtain rfl : X = 5 := by rw [HER.out, if_pos rfl]
        obtain rfl : R = 5 := HSTOP.out (by decide)
        clear HER HSTOP HNX HPV
        skip
        as_aux_lemma =>
          go_wp2_with fail
          go_ret
          exact ⟨rfl, HB3.out⟩
      have HER1 : Hid (X = if 0 < k ∧ Op.bytesLess qk ck = false then 7
        else if inB cl 1 100000 = false then 1
        else if 20 < dn then 2
        else firstErr (deckAtErr dk) dn) := by show _ = _; rw [HER.out, if_neg (by decide)]
      clear HER
      by_cases hk0 : k = 0
      · subst hk0
        have HER2 : Hid (X = if inB cl 1 100000 = false then 1
          else if 20 < dn then 2
          else firstErr (deckAtErr dk) dn) := by show _ = _; rw [HER1.out, if_neg (fun h => by omega)]
        clear HER1 HPV
        skip
        as_aux_lemma =>
          go_wp2_with fail
          go_quiet (fail)
          go_wp2_with fail
          refine (within_c cl 1 100000 _).mono ?_
          rintro e w4 ⟨rfl, rfl⟩
          have HB3d : Hid (Below w.heap.size w (World.drewN w3 nq)) := ext_drewN HB3.out
          generalize inB cl 1 100000 = g2 at HER2 ⊢
          cases g2
          · obtain rfl : X = 1 := by rw [HER2.out, if_pos rfl]
            obtain rfl : R = 1 := HSTOP.out (by decide)
            clear HER2 HSTOP HNX
            skip
            as_aux_lemma =>
              go_wp2_with fail
              go_ret
              exact ⟨rfl, HB3d.out⟩
          by_cases hd20 : 20 < dn
          · obtain rfl : X = 2 := by rw [HER2.out, if_neg (by decide), if_pos hd20]
            obtain rfl : R = 2 := HSTOP.out (by decide)
            have hdI : (20 : Int) < dn := by omega
            clear HER2 HSTOP HNX
            skip
            as_aux_lemma =>
              go_wp2_with fail
              go_ret
              exact ⟨rfl, HB3d.out⟩
          have HER3 : Hid (X = firstErr (deckAtErr dk) dn) := by show _ = _; rw [HER2.out, if_neg (by decide), if_neg hd20]
          have hdI : ¬ (20 : Int) < dn := by omega
          clear HER2
          skip
          as_aux_lemma =>
            go_wp2_with fail
            clear hdI
            have HDR3 := Lib.hid (HDR.out.below HB3.out)
            obtain ⟨wo, rfl⟩ : ∃ wo : World, wo = w3 := ⟨_, rfl⟩
            go_loopw [50] (fun it wr => ∃ i : Nat, i ≤ dn ∧ it = .int .i64 i ∧ Hid (∀ j, j < i → deckAtErr dk j = 0) ∧ Hid (Below wo.heap.size wo wr)) (fun it _ => dn - (intOf it).toNat)
            case atStart => exact ⟨0, Nat.zero_le _, rfl, fun j hj => by omega, ext_drewN (Below.refl _ _)⟩
            case round =>
              obtain ⟨i, hi, rfl, HZ, HB⟩ := hrel
              by_cases hlt2 : i < dn
              case neg =>
                obtain rfl : i = dn := by omega
                have HZ2 := Lib.hid (HNX.out (by rw [HER3.out]; exact first_none HZ.out))
                have HBn := Lib.hid (ext_trans HB3.out HB.out)
                clear HER3 HNX HSTOP HZ
                skip
                as_aux_lemma =>
                  go_wp2_with fail
                  go_roundw
                  case rel => exact ⟨0 + 1, by omega, by go_num, HZ2.out, HBn.out⟩
                  case measure => simp [intOf]; omega
              obtain ⟨b2, off2, rfl, hb2, hc⟩ := HDR3.out.at (by omega)
              have HCC := Lib.hid hc
              obtain ⟨q0, q1, q2, q3, q4⟩ := hc i hlt2
              have c0 := (HB.out.cell (p := ⟨b2, off2 + i * 5, none⟩) hb2).trans q0
              have c1 := (HB.out.cell (p := ⟨b2, off2 + i * 5 + 1, none⟩) hb2).trans q1
              have c2 := (HB.out.cell (p := ⟨b2, off2 + i * 5 + 2, none⟩) hb2).trans q2
              have c3 := (HB.out.cell (p := ⟨b2, off2 + i * 5 + 3, none⟩) hb2).trans q3
              have c4 := (HB.out.cell (p := ⟨b2, off2 + i * 5 + 4, none⟩) hb2).trans q4
              have d2 := (HB.out.cell (p := ⟨T, 2, none⟩) hz3).trans e2
              have HFI : Hid (DeckFine wr (dk.getD i noDeck)) := (HDR3.out.each i (by rw [← HDL.out]; exact hlt2)).below HB.out
              have HEI : Hid (deckAtErr dk i = if deckErr (dk.getD i noDeck) ≠ 0 then deckErr (dk.getD i noDeck) else if 0 < i ∧ (dk.getD i noDeck).from_ ≤ (dk.getD (i - 1) noDeck).from_ then 7 else 0) := rfl
              have HST : Hid (deckAtErr dk i ≠ 0 → R = deckAtErr dk i) := fun h => by
                have h9 := first_some (f := deckAtErr dk) HZ.out hlt2 h
                rw [HSTOP.out (by rw [HER3.out, h9]; exact h), HER3.out, h9]
              have HNI : Hid (deckAtErr dk i = 0 → ∀ j, j < i + 1 → deckAtErr dk j = 0) := fun h j hj => by
                rcases Nat.lt_succ_iff_lt_or_eq.1 hj with h9 | rfl
                · exact HZ.out j h9
                · exact h
              have HPI : Hid (0 < i → wo.cell? ⟨b2, off2 + (i - 1) * 5, none⟩ = some (.int .i64 (dk.getD (i - 1) noDeck).from_)) := fun h => (HCC.out (i - 1) (by omega)).1
              clear q0 q1 q2 q3 q4 hc HCC HZ
              generalize deckAtErr dk i = Y at HEI HST HNI
              generalize dk.getD i noDeck = d at c0 c1 c2 c3 c4 HFI HEI
              generalize dk.getD (i - 1) noDeck = y at HEI HPI
              obtain ⟨df, ds, dl, dp, ra, rn, rc, rates⟩ := d
              obtain ⟨yf, ys, yl, yp, ya, yn, yc, yrates⟩ := y
              simp only at c0 c1 c2 c3 c4 HEI HPI
              have HDV : Hid (∀ W, DeckFine W ⟨df, ds, dl, dp, ra, rn, rc, rates⟩ → Calls Tryz.prog 68 #[.agg #[.int .i64 df, .int .i64 ds, .int .i64 dl, .int .i64 dp, .slice ra rn rc]] W (ErrPost (deckErr ⟨df, ds, dl, dp, ra, rn, rc, rates⟩) W)) := fun W h => checkDeck_any W _ h
              generalize deckErr ⟨df, ds, dl, dp, ra, rn, rc, rates⟩ = E at HEI HDV
              as_aux_lemma =>
                go_wp2_with fail
                refine (HDV.out _ (HFI.out.below (ext_alloc (Below.refl _ _)))).mono ?_
                rintro e w5 ⟨rfl, hb5⟩
                obtain ⟨qc9, qf⟩ := bcell hb5
                have hz5 : wr.heap.size < w5.heap.size := by have := hb5.size; simp at this; omega
                have f0 : w5.cell? ⟨wr.heap.size, 0, none⟩ = some (.int .i64 df) := (qc9 _ 0 (by simp)).trans (by go_simp)
                have HB5 : Hid (Below wo.heap.size wo w5) := ext_trans (ext_alloc HB.out) hb5
                have HBn := Lib.hid (ext_trans HB3.out HB5.out)
                have d2 := (HB5.out.cell (p := ⟨T, 2, none⟩) hz3).trans e2
                generalize wr.heap.size = T2 at f0 hz5 ⊢
                clear qc9 qf hb5 c0 c1 c2 c3 c4 HDV HFI
                by_cases hE : E = 0
                case neg =>
                  have hEb : (E != 0) = true := by simp [hE]
                  obtain rfl : Y = E := by rw [HEI.out, if_pos hE]
                  obtain rfl : R = Y := HST.out hE
                  clear HEI HST HNI HPI HNX HSTOP HER3
                  skip
                  as_aux_lemma =>
                    go_wp2_with fail
                    go_ret
                    exact ⟨rfl, HBn.out⟩
                subst hE
                have HEI1 : Hid (Y = if 0 < i ∧ df ≤ yf then 7 else 0) := by show _ = _; rw [HEI.out, if_neg (by simp)]
                clear HEI
                by_cases hi0 : i = 0
                · subst hi0
                  have HZ2 := Lib.hid (HNI.out (by rw [HEI1.out, if_neg (fun h => by omega)]))
                  clear HEI1 HNI HST HPI
                  skip
                  as_aux_lemma =>
                    go_wp2_with fail
                    go_quiet (fail)
                    go_wp2_with fail
                    go_roundw
                    case rel => exact ⟨1, by omega, by go_num, HZ2.out, ext_drewN HB5.out⟩
                    case measure => simp [intOf]; omega
                obtain ⟨v, rfl⟩ : ∃ v, i = v + 1 := ⟨i - 1, by omega⟩
                have p0 := HPI.out (by omega)
                rw [Nat.add_sub_cancel] at p0
                have g0 := (HB5.out.cell (p := ⟨b2, off2 + v * 5, none⟩) hb2).trans p0
                have w1 : IntKind.i64.wrap (v : Int) = v := IntWalk.i64_in _ (by omega)
                have w2 : IntKind.i64.wrap ((v : Int) + 1 - 1) = v := by rw [Int.add_sub_cancel]; exact w1
                have w3' : (v : Int) < dn := by omega
                have w4 : (0 : Int) ≤ (v : Int) := by omega
                clear HPI p0 hi0
                by_cases hff : df ≤ yf
                · obtain rfl : Y = 7 := by rw [HEI1.out, if_pos ⟨by omega, hff⟩]
                  obtain rfl : R = 7 := HST.out (by decide)
                  have hfd : decide (df ≤ yf) = true := decide_eq_true hff
                  clear HEI1 HST HNI HNX HSTOP HER3
                  skip
                  as_aux_lemma =>
                    go_wp2_with fail
                    go_quiet (fail)
                    go_wp2_with fail
                    go_ret
                    exact ⟨rfl, ext_drewN HBn.out⟩
                have hfd : decide (df ≤ yf) = false := decide_eq_false hff
                have HZ2 := Lib.hid (HNI.out (by rw [HEI1.out, if_neg (fun h => hff h.2)]))
                clear HEI1 HNI HST
                skip
                as_aux_lemma =>
                  go_wp2_with fail
                  go_quiet (fail)
                  go_wp2_with fail
                  go_roundw
                  case rel => exact ⟨v + 1 + 1, by omega, by go_num, HZ2.out, ext_drewN HB5.out⟩
                  case measure => simp [intOf]; omega
      obtain ⟨j, rfl⟩ : ∃ j, k = j + 1 := ⟨k - 1, by omega⟩
      have p0 := HPV.out (by omega)
      rw [Nat.add_sub_cancel] at p0
      have g0 := (HB3.out.cell (p := ⟨b, off + j * 3, none⟩) hb).trans p0
      have w1 : IntKind.i64.wrap (j : Int) = j := IntWalk.i64_in _ (by omega)
      have w2 : IntKind.i64.wrap ((j : Int) + 1 - 1) = j := by rw [Int.add_sub_cancel]; exact w1
      have w3' : (j : Int) < n := by omega
      have w4 : (0 : Int) ≤ (j : Int) := by omega
      clear HPV p0 hk0
      cases hls : Op.bytesLess qk ck
      · obtain rfl : X = 7 := by rw [HER1.out, if_pos ⟨by omega, hls⟩]
        obtain rfl : R = 7 := HSTOP.out (by decide)
        clear HER1 HSTOP HNX
        by_cases hxe : ck = qk
        · subst hxe
          skip
          as_aux_lemma =>
            go_wp2_with fail
            go_quiet (fail)
            go_wp2_with fail
            go_ret
            exact ⟨rfl, ext_drewN HB3.out⟩
        · have hx1 : Op.bytesLess ck qk = true := less_total qk ck hls (Ne.symm hxe)
          skip
          as_aux_lemma =>
            go_wp2_with fail
            go_quiet (fail)
            go_wp2_with fail
            go_ret
            exact ⟨rfl, ext_drewN HB3.out⟩
      have HER2 : Hid (X = if inB cl 1 100000 = false then 1
        else if 20 < dn then 2
        else firstErr (deckAtErr dk) dn) := by show _ = _; rw [HER1.out, if_neg (fun h => by rw [hls] at h; cases h.2)]
      obtain ⟨hx1, hx2⟩ := less_asym hls
      have hx3 : (ck == qk) = false := beq_eq_false_iff_ne.2 (fun e => hx2 e.symm)
      clear HER1 hx2
      skip
      as_aux_lemma =>
        go_wp2_with fail
        go_quiet (fail)
        go_wp2_with fail
        refine (within_c cl 1 100000 _).mono ?_
        rintro e w4 ⟨rfl, rfl⟩
        have HB3d : Hid (Below w.heap.size w (World.drewN w3 nq)) := ext_drewN HB3.out
        generalize inB cl 1 100000 = g2 at HER2 ⊢
        cases g2
        · obtain rfl : X = 1 := by rw [HER2.out, if_pos rfl]
          obtain rfl : R = 1 := HSTOP.out (by decide)
          clear HER2 HSTOP HNX
          skip
          as_aux_lemma =>
            go_wp2_with fail
            go_ret
            exact ⟨rfl, HB3d.out⟩
        by_cases hd20 : 20 < dn
        · obtain rfl : X = 2 := by rw [HER2.out, if_neg (by decide), if_pos hd20]
          obtain rfl : R = 2 := HSTOP.out (by decide)
          have hdI : (20 : Int) < dn := by omega
          clear HER2 HSTOP HNX
          skip
          as_aux_lemma =>
            go_wp2_with fail
            go_ret
            exact ⟨rfl, HB3d.out⟩
        have HER3 : Hid (X = firstErr (deckAtErr dk) dn) := by show _ = _; rw [HER2.out, if_neg (by decide), if_neg hd20]
        have hdI : ¬ (20 : Int) < dn := by omega
        clear HER2
        skip
        as_aux_lemma =>
          go_wp2_with fail
          clear hdI
          have HDR3 := Lib.hid (HDR.out.below HB3.out)
          obtain ⟨wo, rfl⟩ : ∃ wo : World, wo = w3 := ⟨_, rfl⟩
          go_loopw [50] (fun it wr => ∃ i : Nat, i ≤ dn ∧ it = .int .i64 i ∧ Hid (∀ j, j < i → deckAtErr dk j = 0) ∧ Hid (Below wo.heap.size wo wr)) (fun it _ => dn - (intOf it).toNat)
          case atStart => exact ⟨0, Nat.zero_le _, rfl, fun j hj => by omega, ext_drewN (Below.refl _ _)⟩
          case round =>
            obtain ⟨i, hi, rfl, HZ, HB⟩ := hrel
            by_cases hlt2 : i < dn
            case neg =>
              obtain rfl : i = dn := by omega
              have HZ2 := Lib.hid (HNX.out (by rw [HER3.out]; exact first_none HZ.out))
              have HBn := Lib.hid (ext_trans HB3.out HB.out)
              clear HER3 HNX HSTOP HZ
              skip
              as_aux_lemma =>
                go_wp2_with fail
                go_roundw
                case rel => exact ⟨j + 1 + 1, by omega, by go_num, HZ2.out, HBn.out⟩
                case measure => simp [intOf]; omega
            obtain ⟨b2, off2, rfl, hb2, hc⟩ := HDR3.out.at (by omega)
            have HCC := Lib.hid hc
            obtain ⟨q0, q1, q2, q3, q4⟩ := hc i hlt2
            have c0 := (HB.out.cell (p := ⟨b2, off2 + i * 5, none⟩) hb2).trans q0
            have c1 := (HB.out.cell (p := ⟨b2, off2 + i * 5 + 1, none⟩) hb2).trans q1
            have c2 := (HB.out.cell (p := ⟨b2, off2 + i * 5 + 2, none⟩) hb2).trans q2
            have c3 := (HB.out.cell (p := ⟨b2, off2 + i * 5 + 3, none⟩) hb2).trans q3
            have c4 := (HB.out.cell (p := ⟨b2, off2 + i * 5 + 4, none⟩) hb2).trans q4
            have d2 := (HB.out.cell (p := ⟨T, 2, none⟩) hz3).trans e2
            have HFI : Hid (DeckFine wr (dk.getD i noDeck)) := (HDR3.out.each i (by rw [← HDL.out]; exact hlt2)).below HB.out
            have HEI : Hid (deckAtErr dk i = if deckErr (dk.getD i noDeck) ≠ 0 then deckErr (dk.getD i noDeck) else if 0 < i ∧ (dk.getD i noDeck).from_ ≤ (dk.getD (i - 1) noDeck).from_ then 7 else 0) := rfl
            have HST : Hid (deckAtErr dk i ≠ 0 → R = deckAtErr dk i) := fun h => by
              have h9 := first_some (f := deckAtErr dk) HZ.out hlt2 h
              rw [HSTOP.out (by rw [HER3.out, h9]; exact h), HER3.out, h9]
            have HNI : Hid (deckAtErr dk i = 0 → ∀ j, j < i + 1 → deckAtErr dk j = 0) := fun h j hj => by
              rcases Nat.lt_succ_iff_lt_or_eq.1 hj with h9 | rfl
              · exact HZ.out j h9
              · exact h
            have HPI : Hid (0 < i → wo.cell? ⟨b2, off2 + (i - 1) * 5, none⟩ = some (.int .i64 (dk.getD (i - 1) noDeck).from_)) := fun h => (HCC.out (i - 1) (by omega)).1
            clear q0 q1 q2 q3 q4 hc HCC HZ
            generalize deckAtErr dk i = Y at HEI HST HNI
            generalize dk.getD i noDeck = d at c0 c1 c2 c3 c4 HFI HEI
            generalize dk.getD (i - 1) noDeck = y at HEI HPI
            obtain ⟨df, ds, dl, dp, ra, rn, rc, rates⟩ := d
            obtain ⟨yf, ys, yl, yp, ya, yn, yc, yrates⟩ := y
            simp only at c0 c1 c2 c3 c4 HEI HPI
            have HDV : Hid (∀ W, DeckFine W ⟨df, ds, dl, dp, ra, rn, rc, rates⟩ → Calls Tryz.prog 68 #[.agg #[.int .i64 df, .int .i64 ds, .int .i64 dl, .int .i64 dp, .slice ra rn rc]] W (ErrPost (deckErr ⟨df, ds, dl, dp, ra, rn, rc, rates⟩) W)) := fun W h => checkDeck_any W _ h
            generalize deckErr ⟨df, ds, dl, dp, ra, rn, rc, rates⟩ = E at HEI HDV
            as_aux_lemma =>
              go_wp2_with fail
              refine (HDV.out _ (HFI.out.below (ext_alloc (Below.refl _ _)))).mono ?_
              rintro e w5 ⟨rfl, hb5⟩
              obtain ⟨qc9, qf⟩ := bcell hb5
              have hz5 : wr.heap.size < w5.heap.size := by have := hb5.size; simp at this; omega
              have f0 : w5.cell? ⟨wr.heap.size, 0, none⟩ = some (.int .i64 df) := (qc9 _ 0 (by simp)).trans (by go_simp)
              have HB5 : Hid (Below wo.heap.size wo w5) := ext_trans (ext_alloc HB.out) hb5
              have HBn := Lib.hid (ext_trans HB3.out HB5.out)
              have d2 := (HB5.out.cell (p := ⟨T, 2, none⟩) hz3).trans e2
              generalize wr.heap.size = T2 at f0 hz5 ⊢
              clear qc9 qf hb5 c0 c1 c2 c3 c4 HDV HFI
              by_cases hE : E = 0
              case neg =>
                have hEb : (E != 0) = true := by simp [hE]
                obtain rfl : Y = E := by rw [HEI.out, if_pos hE]
                obtain rfl : R = Y := HST.out hE
                clear HEI HST HNI HPI HNX HSTOP HER3
                skip
                as_aux_lemma =>
                  go_wp2_with fail
                  go_ret
                  exact ⟨rfl, HBn.out⟩
              subst hE
              have HEI1 : Hid (Y = if 0 < i ∧ df ≤ yf then 7 else 0) := by show _ = _; rw [HEI.out, if_neg (by simp)]
              clear HEI
              by_cases hi0 : i = 0
              · subst hi0
                have HZ2 := Lib.hid (HNI.out (by rw [HEI1.out, if_neg (fun h => by omega)]))
                clear HEI1 HNI HST HPI
                skip
                as_aux_lemma =>
                  go_wp2_with fail
                  go_quiet (fail)
                  go_wp2_with fail
                  go_roundw
                  case rel => exact ⟨1, by omega, by go_num, HZ2.out, ext_drewN HB5.out⟩
                  case measure => simp [intOf]; omega
              obtain ⟨v, rfl⟩ : ∃ v, i = v + 1 := ⟨i - 1, by omega⟩
              have p0 := HPI.out (by omega)
              rw [Nat.add_sub_cancel] at p0
              have g0 := (HB5.out.cell (p := ⟨b2, off2 + v * 5, none⟩) hb2).trans p0
              have w1 : IntKind.i64.wrap (v : Int) = v := IntWalk.i64_in _ (by omega)
              have w2 : IntKind.i64.wrap ((v : Int) + 1 - 1) = v := by rw [Int.add_sub_cancel]; exact w1
              have w3' : (v : Int) < dn := by omega
              have w4 : (0 : Int) ≤ (v : Int) := by omega
              clear HPI p0 hi0
              by_cases hff : df ≤ yf
              · obtain rfl : Y = 7 := by rw [HEI1.out, if_pos ⟨by omega, hff⟩]
                obtain rfl : R = 7 := HST.out (by decide)
                have hfd : decide (df ≤ yf) = true := decide_eq_true hff
                clear HEI1 HST HNI HNX HSTOP HER3
                skip
                as_aux_lemma =>
                  go_wp2_with fail
                  go_quiet (fail)
                  go_wp2_with fail
                  go_ret
                  exact ⟨rfl, ext_drewN HBn.out⟩
              have hfd : decide (df ≤ yf) = false := decide_eq_false hff
              have HZ2 := Lib.hid (HNI.out (by rw [HEI1.out, if_neg (fun h => hff h.2)]))
              clear HEI1 HNI HST
              skip
              as_aux_lemma =>
                go_wp2_with fail
                go_quiet (fail)
                go_wp2_with fail
                go_roundw
                case rel => exact ⟨v + 1 + 1, by omega, by go_num, HZ2.out, ext_drewN HB5.out⟩
                case measure => simp [intOf]; omega
end Go.Proofs.YtppinnjdaoaddaaGreatDoor

set_option linter.unusedVariables false
set_option linter.unusedSimpArgs false
namespace Go.Proofs.YtppinnjdaoaddaaGreatDoor
open Go.RowKit

theorem results_cell12 {fn : Func} {t u v : Tmp} {T : TypeId} (h : fn.results = #[.cell t T, .tmp u, .tmp v]) (P : Program) (w : World) (tmps : Array Value) {B k : Nat} (hA : ∀ w, (isAgg T).run P w = .ok true w) (hZ : ∀ w, (Go.sizeOf T).run P w = .ok k w) (ht : tmps.getD t undef = .pointer (some ⟨B, 0, none⟩)) (cs : List Value) (hk : cs.length = k) (hc : ∀ j v, cs[j]? = some v → w.cell? ⟨B, j, none⟩ = some v) :
    (results fn tmps).run P w = .ok (.tuple #[.agg cs.toArray, tmps.getD u undef, tmps.getD v undef]) w := by
  have h9 := load_struct (P := P) cs hk hc
  have ht' : tmps[t]?.getD undef = .pointer (some ⟨B, 0, none⟩) := by simpa using ht
  simp [results, h, ht', h9, hA, hZ, asAddr, go_sem]
theorem idxFrom_lt {α : Type} (eq : α → α → Bool) (x : α) : ∀ (zs : List α) (i : Nat), Lib.idxByFrom eq x zs i = -1 ∨ ∃ k : Nat, Lib.idxByFrom eq x zs i = ((i + k : Nat) : Int) ∧ k < zs.length
  | [], _ => Or.inl rfl
  | z :: zs, i => by
    unfold Lib.idxByFrom
    by_cases h : eq x z = true
    · rw [if_pos h]; exact Or.inr ⟨0, rfl, by simp⟩
    · rw [if_neg h]
      rcases idxFrom_lt eq x zs (i + 1) with h1 | ⟨k, h1, h2⟩
      · exact Or.inl h1
      · exact Or.inr ⟨k + 1, by rw [h1]; congr 1; omega, by simp; omega⟩
theorem idxC_lt {l : List Carr} {key : List UInt8} (h : 0 ≤ idxC l key) : (idxC l key).toNat < l.length := by
  unfold idxC Lib.idxBy at h ⊢
  rcases idxFrom_lt (fun _ (y : Carr) => decide (y.key = key)) default l 0 with h1 | ⟨k, h1, h2⟩
  · rw [h1] at h; omega
  · rw [h1]; omega
/-- The error of DeckAt; the deck. -/
def dkE (l : List Carr) (key : List UInt8) (t : Int) : Int := if carrsErr l ≠ 0 then carrsErr l else if idxC l key < 0 then 8 else if isMomB t = false then 1 else 0
def dkX (l : List Carr) (key : List UInt8) (t : Int) : Option Deck := if dkE l key t = 0 then deckV (l.getD (idxC l key).toNat noCarr).decks t else none
def DkAtPost (E : Int) (o : Option Deck) (w : World) (e : Ending) (w' : World) : Prop :=
  ∃ a c, e = .returned (.tuple #[.agg #[.int .i64 (o.getD noDeck).from_, .int .i64 (o.getD noDeck).setup, .int .i64 (o.getD noDeck).least, .int .i64 (o.getD noDeck).step, .slice a (o.getD noDeck).rn c], .bool o.isSome, .int .i64 E]) ∧ RateRow w' a (o.getD noDeck).rn (o.getD noDeck).rates ∧ Below w.heap.size w w'
theorem rate_row0 (w : World) : RateRow w none 0 [] := ⟨⟨rfl, Or.inl rfl⟩, by omega, fun i hi => by cases hi⟩
theorem dk_bad {E : Int} {w W : World} (h : Below w.heap.size w W) : DkAtPost E none w (.returned (.tuple #[.agg #[.int .i64 0, .int .i64 0, .int .i64 0, .int .i64 0, .slice none 0 0], .bool false, .int .i64 E])) W := ⟨none, 0, rfl, rate_row0 W, h⟩
theorem lastD_mem (ps : List Deck) (t : Int) : ∀ k, k ≤ ps.length → ∀ d, lastD ps t k = some d → d ∈ ps
  | 0, _, d, h => by cases h
  | k + 1, hk, d, h => by
    unfold lastD at h
    split at h
    · injection h with h; subst h; exact mem_getD _ (by omega)
    · exact lastD_mem ps t k (by omega) d h
theorem deckV_fine {w : World} {a : Option Addr} {m : Nat} {ps : List Deck} (h : DeckRow w a m ps) (t : Int) : RateRow w ((deckV ps t).getD noDeck).ra ((deckV ps t).getD noDeck).rn ((deckV ps t).getD noDeck).rates := by
  cases h9 : deckV ps t with
  | none => exact rate_row0 w
  | some d =>
    obtain ⟨j, hj, rfl⟩ := List.getElem_of_mem (lastD_mem ps t ps.length (Nat.le_refl _) d h9)
    have := (h.each j hj).row
    rw [List.getD_eq_getElem?_getD, List.getElem?_eq_getElem hj] at this
    exact this
set_option maxRecDepth 100000 in
set_option maxHeartbeats 8000000 in
theorem deckAtX_any (w : World) (a : Option Addr) (n cap : Nat) (l : List Carr) (hl : CarrRow w a n l) (hcap : n ≤ cap) (key : List UInt8) (hkl : key.length ≤ 100) (t : Int) : Calls Tryz.prog 29 #[.slice a n cap, .string ⟨key.toArray⟩, .int .i64 t] w (DkAtPost (dkE l key t) (dkX l key t) w) := by
  have HR := Lib.hid hl
  have HLEN := Lib.hid hl.len
  have hfew := hl.few
  clear hl
  have HE : Hid (dkE l key t = if carrsErr l ≠ 0 then carrsErr l else if idxC l key < 0 then 8 else if isMomB t = false then 1 else 0) := rfl
  have HBAD : Hid (∀ W E, dkE l key t = E → E ≠ 0 → Below w.heap.size w W → DkAtPost (dkE l key t) (dkX l key t) w (.returned (.tuple #[.agg #[.int .i64 0, .int .i64 0, .int .i64 0, .int .i64 0, .slice none 0 0], .bool false, .int .i64 E])) W) := fun W E h1 h2 h3 => by
    unfold dkX
    rw [h1, if_neg h2]
    exact dk_bad h3
  have HGOOD : Hid (dkE l key t = 0 → dkX l key t = deckV (l.getD (idxC l key).toNat noCarr).decks t) := fun h => by unfold dkX; rw [if_pos h]
  have HOK : Hid (∀ W d a' c', dkE l key t = 0 → (dkX l key t).getD noDeck = d → RateRow W a' d.rn d.rates → Below w.heap.size w W → DkAtPost (dkE l key t) (dkX l key t) w (.returned (.tuple #[.agg #[.int .i64 d.from_, .int .i64 d.setup, .int .i64 d.least, .int .i64 d.step, .slice a' d.rn c'], .bool (dkX l key t).isSome, .int .i64 0])) W) := fun W d a' c' h1 h2 h3 h4 => by
    subst h2
    exact ⟨a', c', by rw [h1], h3, h4⟩
  generalize hPP : DkAtPost (dkE l key t) (dkX l key t) w = PP at HBAD HOK ⊢
  clear hPP
  generalize dkE l key t = X at HE HBAD HGOOD HOK
  generalize dkX l key t = o at HGOOD HOK
  have HCC := Lib.hid (fun W (h : Below w.heap.size w W) => checkCarr_any W a n cap l (HR.out.below h) hcap)
  have HFD := Lib.hid (fun W (h : Below w.heap.size w W) => find_any W a n cap l (HR.out.below h) key)
  have HID : Hid (0 ≤ idxC l key → (idxC l key).toNat < l.length) := fun h => idxC_lt h
  generalize carrsErr l = F at HE HCC
  generalize idxC l key = K at HE HFD HGOOD HID
  go_enter Tryz.func29, Tryz.ntmps29
  go_upto_region 1 with (fail)
  have HG0 : Hid (Blk (w.alloc (.cells #[.int .i64 0, .int .i64 0, .int .i64 0, .int .i64 0, .slice none 0 0] 63)) w.heap.size [.int .i64 0, .int .i64 0, .int .i64 0, .int .i64 0, .slice none 0 0] 63) := Blk.new w [.int .i64 0, .int .i64 0, .int .i64 0, .int .i64 0, .slice none 0 0] 63
  have HB0 : Hid (Below w.heap.size w (w.alloc (.cells #[.int .i64 0, .int .i64 0, .int .i64 0, .int .i64 0, .slice none 0 0] 63))) := ext_alloc (Below.refl _ _)
  generalize (w.alloc (.cells #[.int .i64 0, .int .i64 0, .int .i64 0, .int .i64 0, .slice none 0 0] 63)) = w0 at HG0 HB0 ⊢
  as_aux_lemma =>
    go_wp2_with fail
    refine (HCC.out _ HB0.out).mono ?_
    rintro e w1 ⟨rfl, hb⟩
    have HB1 := Lib.hid (ext_trans HB0.out hb)
    have HG1 := Lib.hid (HG0.out.below hb)
    clear hb HB0 HG0 HCC
    by_cases hF : F = 0
    case neg =>
      have hX : X = F := by rw [HE.out, if_pos hF]
      subst hX
      have hXX : X = X := rfl
      clear HE HGOOD HOK HFD HID
      have HFX := Lib.hid (HBAD.out _ X rfl hF (below5 (Nat.le_refl _) HB1.out [.int .i64 0, .int .i64 0, .int .i64 0, .int .i64 0, .slice none 0 0]))
      have HR9 : Hid (Blk (w1.setCells w.heap.size 0 [.int .i64 0, .int .i64 0, .int .i64 0, .int .i64 0, .slice none 0 0]) w.heap.size [.int .i64 0, .int .i64 0, .int .i64 0, .int .i64 0, .slice none 0 0] 63) := (((((HG1.out.put 0 _).put 1 _).put 2 _).put 3 _).put 4 _)
      have HTH : Hid (w1.there w.heap.size 0 5) := HG1.out.th 5 (by simp)
      have hFb : (X == 0) = false := by simpa using hF
      clear HG1 HB1 HBAD hXX hF
      as_aux_lemma =>
        go_wp2_with (refine wpList_store_mid rfl 63 (.tmp 6) (.tmp 17) rfl w.heap.size 0 #[.int .i64 0, .int .i64 0, .int .i64 0, .int .i64 0, .slice none 0 0] rfl rfl HTH.out Tryz.deckSz (by simp [Value.oneCell']) ?_; generalize World.setCells w1 w.heap.size 0 _ = W9 at HFX HR9 ⊢)
        refine bodyPost_ret (v := .tuple #[.agg #[.int .i64 0, .int .i64 0, .int .i64 0, .int .i64 0, .slice none 0 0], .bool false, .int .i64 X]) ?_ rfl HFX.out
        exact results_cell12 (t := 6) (u := 7) (v := 8) (by rfl) _ _ _ Tryz.isAgg63 Tryz.sizeOf63 (by rfl) [.int .i64 0, .int .i64 0, .int .i64 0, .int .i64 0, .slice none 0 0] rfl (fun j v hj => HR9.out.cell j hj)
    subst hF
    have HE1 : Hid (X = if K < 0 then 8 else if isMomB t = false then 1 else 0) := by show X = _; rw [HE.out, if_neg (by simp)]
    clear HE
    as_aux_lemma =>
      go_wp2_with fail
      refine (HFD.out _ HB1.out).mono ?_
      rintro e w2 ⟨rfl, hb⟩
      have HB2 := Lib.hid (ext_trans HB1.out hb)
      have HG2 := Lib.hid (HG1.out.below hb)
      clear hb HB1 HG1 HFD
      by_cases hK : K < 0
      · obtain rfl : X = 8 := by rw [HE1.out, if_pos hK]
        clear HE1 HGOOD HOK HID
        have HFX := Lib.hid (HBAD.out _ 8 rfl (by decide) (below5 (Nat.le_refl _) HB2.out [.int .i64 0, .int .i64 0, .int .i64 0, .int .i64 0, .slice none 0 0]))
        have HR9 : Hid (Blk (w2.setCells w.heap.size 0 [.int .i64 0, .int .i64 0, .int .i64 0, .int .i64 0, .slice none 0 0]) w.heap.size [.int .i64 0, .int .i64 0, .int .i64 0, .int .i64 0, .slice none 0 0] 63) := (((((HG2.out.put 0 _).put 1 _).put 2 _).put 3 _).put 4 _)
        have HTH : Hid (w2.there w.heap.size 0 5) := HG2.out.th 5 (by simp)
        clear HG2 HB2 HBAD
        as_aux_lemma =>
          go_wp2_with (refine wpList_store_mid rfl 63 (.tmp 6) (.tmp 24) rfl w.heap.size 0 #[.int .i64 0, .int .i64 0, .int .i64 0, .int .i64 0, .slice none 0 0] rfl rfl HTH.out Tryz.deckSz (by simp [Value.oneCell']) ?_; generalize World.setCells w2 w.heap.size 0 _ = W9 at HFX HR9 ⊢)
          refine bodyPost_ret (v := .tuple #[.agg #[.int .i64 0, .int .i64 0, .int .i64 0, .int .i64 0, .slice none 0 0], .bool false, .int .i64 8]) ?_ rfl HFX.out
          exact results_cell12 (t := 6) (u := 7) (v := 8) (by rfl) _ _ _ Tryz.isAgg63 Tryz.sizeOf63 (by rfl) [.int .i64 0, .int .i64 0, .int .i64 0, .int .i64 0, .slice none 0 0] rfl (fun j v hj => HR9.out.cell j hj)
      have HE2 : Hid (X = if isMomB t = false then 1 else 0) := by show X = _; rw [HE1.out, if_neg hK]
      obtain ⟨kk, rfl⟩ := Int.eq_ofNat_of_zero_le (show 0 ≤ K by omega)
      have hkn : kk < n := by have h1 := HID.out (by omega); have h2 := HLEN.out; omega
      have hkb : ¬ ((kk : Int) < 0) := by omega
      clear HE1 HID hK
      as_aux_lemma =>
        go_wp2_with fail
        refine (isMoment_any t _).mono ?_
        rintro e w9 ⟨rfl, rfl⟩
        generalize isMomB t = g2 at HE2 ⊢
        cases g2
        · obtain rfl : X = 1 := by rw [HE2.out, if_pos rfl]
          clear HE2 HGOOD HOK
          skip
          have HFX := Lib.hid (HBAD.out _ 1 rfl (by decide) (below5 (Nat.le_refl _) HB2.out [.int .i64 0, .int .i64 0, .int .i64 0, .int .i64 0, .slice none 0 0]))
          have HR9 : Hid (Blk (w2.setCells w.heap.size 0 [.int .i64 0, .int .i64 0, .int .i64 0, .int .i64 0, .slice none 0 0]) w.heap.size [.int .i64 0, .int .i64 0, .int .i64 0, .int .i64 0, .slice none 0 0] 63) := (((((HG2.out.put 0 _).put 1 _).put 2 _).put 3 _).put 4 _)
          have HTH : Hid (w2.there w.heap.size 0 5) := HG2.out.th 5 (by simp)
          clear HG2 HB2 HBAD
          as_aux_lemma =>
            go_wp2_with (refine wpList_store_mid rfl 63 (.tmp 6) (.tmp 28) rfl w.heap.size 0 #[.int .i64 0, .int .i64 0, .int .i64 0, .int .i64 0, .slice none 0 0] rfl rfl HTH.out Tryz.deckSz (by simp [Value.oneCell']) ?_; generalize World.setCells w2 w.heap.size 0 _ = W9 at HFX HR9 ⊢)
            refine bodyPost_ret (v := .tuple #[.agg #[.int .i64 0, .int .i64 0, .int .i64 0, .int .i64 0, .slice none 0 0], .bool false, .int .i64 1]) ?_ rfl HFX.out
            exact results_cell12 (t := 6) (u := 7) (v := 8) (by rfl) _ _ _ Tryz.isAgg63 Tryz.sizeOf63 (by rfl) [.int .i64 0, .int .i64 0, .int .i64 0, .int .i64 0, .slice none 0 0] rfl (fun j v hj => HR9.out.cell j hj)
        obtain rfl : X = 0 := by rw [HE2.out, if_neg (by decide)]
        have HOX : Hid (o = deckV (l.getD kk noCarr).decks t) := HGOOD.out rfl
        have HOK2 := Lib.hid (fun W d a' c' h2 h3 h4 => HOK.out W d a' c' rfl h2 h3 h4)
        clear HE2 HGOOD HOK HBAD
        have HR2 := Lib.hid (HR.out.below HB2.out)
        obtain ⟨b, off, rfl, hb, hc⟩ := HR2.out.at (by omega)
        obtain ⟨c0, c1, c2⟩ := hc kk hkn
        have HCF : Hid (CarrFine w2 (l.getD kk noCarr)) := HR2.out.each kk (by rw [← HLEN.out]; exact hkn)
        clear hc HR2 HR
        generalize l.getD kk noCarr = cx at c0 c1 c2 HCF HOX
        obtain ⟨ky, ln, da, dn, dc, dk⟩ := cx
        simp only at c0 c1 c2 HOX
        have HDR : Hid (DeckRow w2 da dn dk) := HCF.out.row
        have hdc : dn ≤ dc := HCF.out.cap
        have hkni : (kk : Int) < (n : Int) := by omega
        clear HCF
        as_aux_lemma =>
          go_wp2_with fail
          refine (deckAt_any _ ky ln da dn dc dk HDR.out hdc t).mono ?_
          rintro e w3 ⟨rfl, hb3⟩
          rw [← HOX.out]
          have HB3 := Lib.hid (ext_trans HB2.out hb3)
          have HG3 := Lib.hid (HG2.out.below hb3)
          have HRF : Hid (RateRow w3 (o.getD noDeck).ra (o.getD noDeck).rn (o.getD noDeck).rates) := by
            show RateRow _ _ _ _
            rw [HOX.out]; exact deckV_fine (HDR.out.below hb3) t
          have hG3 : w.heap.size < w3.heap.size := HG3.out.lt
          have HOD : Hid (∀ W d a' c', o.getD noDeck = d → RateRow W a' d.rn d.rates → Below w.heap.size w W → PP (.returned (.tuple #[.agg #[.int .i64 d.from_, .int .i64 d.setup, .int .i64 d.least, .int .i64 d.step, .slice a' d.rn c'], .bool o.isSome, .int .i64 0])) W) := HOK2.out
          clear hb3 HB2 HG2 HDR HOX c0 c1 c2 HOK2
          generalize o.isSome = ob at HOD ⊢
          generalize o.getD noDeck = d at HOD HRF ⊢
          obtain ⟨df, ds, dl, dp, ra, rn, rc, rates⟩ := d
          have HOE : Hid (∀ W a' c', RateRow W a' rn rates → Below w.heap.size w W → PP (.returned (.tuple #[.agg #[.int .i64 df, .int .i64 ds, .int .i64 dl, .int .i64 dp, .slice a' rn c'], .bool ob, .int .i64 0])) W) := fun W a' c' h1 h2 => HOD.out W _ a' c' rfl h1 h2
          simp only at HRF ⊢
          have HTX : Hid ((w3.alloc (.cells #[.int .i64 0, .int .i64 0, .int .i64 0, .int .i64 0, .slice none 0 0] 63)).there w3.heap.size 0 5) := (Blk.new w3 [.int .i64 0, .int .i64 0, .int .i64 0, .int .i64 0, .slice none 0 0] 63).th 5 (by decide)
          have HX4 : Hid (Blk (World.setCells (w3.alloc (.cells #[.int .i64 0, .int .i64 0, .int .i64 0, .int .i64 0, .slice none 0 0] 63)) w3.heap.size 0 [.int .i64 df, .int .i64 ds, .int .i64 dl, .int .i64 dp, .slice ra rn rc]) w3.heap.size [.int .i64 df, .int .i64 ds, .int .i64 dl, .int .i64 dp, .slice ra rn rc] 63) := ((((((Blk.new w3 [.int .i64 0, .int .i64 0, .int .i64 0, .int .i64 0, .slice none 0 0] 63).put 0 _).put 1 _).put 2 _).put 3 _).put 4 _)
          have hA : Below w3.heap.size w3 (World.setCells (w3.alloc (.cells #[.int .i64 0, .int .i64 0, .int .i64 0, .int .i64 0, .slice none 0 0] 63)) w3.heap.size 0 [.int .i64 df, .int .i64 ds, .int .i64 dl, .int .i64 dp, .slice ra rn rc]) := below5 (Nat.le_refl _) (ext_alloc (Below.refl _ _)) _
          have HG4 := Lib.hid (HG3.out.below hA)
          have HB4 := Lib.hid (ext_trans HB3.out hA)
          have HR4 := Lib.hid (HRF.out.below hA)
          clear hA HG3 HB3 HRF HOD
          as_aux_lemma =>
            go_upto_region 10 with (refine wpList_store_mid rfl 63 (.tmp 11) (.tmp 36) rfl w3.heap.size 0 #[.int .i64 df, .int .i64 ds, .int .i64 dl, .int .i64 dp, .slice ra rn rc] rfl rfl HTX.out Tryz.deckSz (by simp [Value.oneCell']) ?_; generalize World.setCells (w3.alloc (.cells #[.int .i64 0, .int .i64 0, .int .i64 0, .int .i64 0, .slice none 0 0] 63)) w3.heap.size 0 _ = w4 at HX4 HG4 HB4 HR4 ⊢)
            generalize w3.heap.size = D at HX4 hG3 ⊢
            clear HTX
            have x4 := HX4.out.cell 4 rfl
            as_aux_lemma =>
              go_wp2_with fail
              refine (cloneR_any _ ra rn rc rates HR4.out).mono ?_
              rintro e w5 ⟨v', rfl, hown, hb5⟩
              have HX5 := Lib.hid (HX4.out.below hb5)
              have HG5 := Lib.hid (HG4.out.below hb5)
              have HB5 := Lib.hid (ext_trans HB4.out hb5)
              have hrl : rn = rates.length := HR4.out.len
              have HRR : Hid (∃ sa sc, v' = .slice sa rn sc ∧ RateRow w5 sa rn rates) := by
                obtain ⟨sa, sc, rfl, hcs⟩ := Cells.of_own hown (fun x hx => by obtain ⟨y, _, rfl⟩ := List.mem_map.1 hx; rfl) (by decide)
                exact ⟨sa, sc, rfl, ⟨hcs, HR4.out.few, HR4.out.each⟩⟩
              obtain ⟨sa, sc, rfl, hrr⟩ := HRR.out
              have hD4 : D < w4.heap.size := HX4.out.lt
              have HST : Hid (∀ (W : World) (B : Nat) (i : Nat) (u : Value), B ≤ D → RateRow W sa rn rates → RateRow (W.setCell ⟨B, i, none⟩ u) sa rn rates) := fun W B i u hB h => by
                refine ⟨⟨h.cells.len, h.cells.row.imp id ?_⟩, h.few, h.each⟩
                rintro ⟨b, off, ha, hl, hc⟩
                refine ⟨b, off, ha, by simpa using hl, fun i' hi j hj => ?_⟩
                have hbb : w4.heap.size ≤ b := by
                  rcases hown.2 with ⟨h1, _⟩ | ⟨g, cap', cur, h1, h2, h3, _⟩
                  · injection h1 with h1 h2 h3; rw [ha] at h1; cases h1
                  · injection h1 with h1 _ _; rw [ha] at h1; injection h1 with h1; injection h1 with h1 _; subst h1; exact h2
                rw [World.cell?_setCell_other _ _ _ _ (ne_blk (by omega))]
                exact hc i' hi j hj
              have HRS := Lib.hid hrr
              clear hrr HRR hown hb5 HX4 HG4 HB4 HR4 x4 hrl
              have hDG : D ≠ w.heap.size := by omega
              have x4 := HX5.out.cell 4 rfl
              have xF := HX5.out.fr
              have hDw : w.heap.size ≤ D := by omega
              have HX6 : Hid (Blk (w5.setCell ⟨D, 4, none⟩ (.slice sa rn sc)) D [.int .i64 df, .int .i64 ds, .int .i64 dl, .int .i64 dp, .slice sa rn sc] 63) := HX5.out.put 4 _
              have HG6 : Hid (Blk (w5.setCell ⟨D, 4, none⟩ (.slice sa rn sc)) w.heap.size [.int .i64 0, .int .i64 0, .int .i64 0, .int .i64 0, .slice none 0 0] 63) := HG5.out.far hDG
              have HB6 : Hid (Below w.heap.size w (w5.setCell ⟨D, 4, none⟩ (.slice sa rn sc))) := HB5.out.setCell (p := ⟨D, 4, none⟩) hDw _
              have HCL : Hid (∀ ad : Addr, ad.block ≠ D ∨ True → True) := fun _ _ => trivial
              have HR6 : Hid (RateRow (w5.setCell ⟨D, 4, none⟩ (.slice sa rn sc)) sa rn rates) := HST.out _ D 4 _ (Nat.le_refl _) HRS.out
              have HST5 : Hid (∀ W, RateRow W sa rn rates → RateRow (W.setCells w.heap.size 0 [.int .i64 df, .int .i64 ds, .int .i64 dl, .int .i64 dp, .slice sa rn sc]) sa rn rates) := fun W h => HST.out _ _ 4 _ hDw (HST.out _ _ 3 _ hDw (HST.out _ _ 2 _ hDw (HST.out _ _ 1 _ hDw (HST.out _ _ 0 _ hDw h))))
              clear HX5 HG5 HB5 HRS HCL HST
              as_aux_lemma =>
                go_upto_region 11 with (fail)
                generalize w5.setCell ⟨D, 4, none⟩ (.slice sa rn sc) = w6 at HX6 HG6 HB6 HR6 ⊢
                clear x4 xF
                have HRX : Hid (w6.rangeAt D 0 [.int .i64 df, .int .i64 ds, .int .i64 dl, .int .i64 dp, .slice sa rn sc]) := fun j v hj => by rw [Nat.zero_add]; exact HX6.out.cell j hj
                have HTG : Hid (w6.there w.heap.size 0 5) := HG6.out.th 5 (by simp)
                have HR9 : Hid (Blk (w6.setCells w.heap.size 0 [.int .i64 df, .int .i64 ds, .int .i64 dl, .int .i64 dp, .slice sa rn sc]) w.heap.size [.int .i64 df, .int .i64 ds, .int .i64 dl, .int .i64 dp, .slice sa rn sc] 63) := (((((HG6.out.put 0 _).put 1 _).put 2 _).put 3 _).put 4 _)
                have HFX : Hid (PP (.returned (.tuple #[.agg #[.int .i64 df, .int .i64 ds, .int .i64 dl, .int .i64 dp, .slice sa rn sc], .bool ob, .int .i64 0])) (w6.setCells w.heap.size 0 [.int .i64 df, .int .i64 ds, .int .i64 dl, .int .i64 dp, .slice sa rn sc])) := HOE.out _ sa sc (HST5.out _ HR6.out) (below5 (Nat.le_refl _) HB6.out _)
                clear HX6 HG6 HB6 HR6 HOE
                as_aux_lemma =>
                  go_wp2_with (first | (refine wpList_load_mid rfl 63 (.tmp 11) rfl D 0 rfl [.int .i64 df, .int .i64 ds, .int .i64 dl, .int .i64 dp, .slice sa rn sc] _ HRX.out Tryz.underlying63 rfl Tryz.deckSz ?_) | (refine wpList_store_mid rfl 63 (.tmp 6) (.tmp 42) rfl w.heap.size 0 #[.int .i64 df, .int .i64 ds, .int .i64 dl, .int .i64 dp, .slice sa rn sc] rfl rfl HTG.out Tryz.deckSz (by simp [Value.oneCell']) ?_; generalize World.setCells w6 w.heap.size 0 _ = W9 at HFX HR9 ⊢))
                  refine bodyPost_ret (v := .tuple #[.agg #[.int .i64 df, .int .i64 ds, .int .i64 dl, .int .i64 dp, .slice sa rn sc], .bool ob, .int .i64 0]) ?_ rfl HFX.out
                  exact results_cell12 (t := 6) (u := 7) (v := 8) (by rfl) _ _ _ Tryz.isAgg63 Tryz.sizeOf63 (by rfl) [.int .i64 df, .int .i64 ds, .int .i64 dl, .int .i64 dp, .slice sa rn sc] rfl (fun j v hj => HR9.out.cell j hj)
end Go.Proofs.YtppinnjdaoaddaaGreatDoor

set_option linter.unusedVariables false
set_option linter.unusedSimpArgs false
namespace Go.Proofs.YtppinnjdaoaddaaGreatDoor
open Go.RowKit Go.Sort Go.Lib

theorem good_at {l : List Carr} {t : Int} (hl : l.length ≤ 50) (hr : ∀ i, i < l.length → ∀ d ∈ (l.getD i noCarr).decks, d.rates.length ≤ 5000) (h : carrsErr l = 0) : GoodAt l t := fun k hk d hd => by
  have z1 : ∀ j, j < l.length → carrErr l j = 0 := first_zero (by unfold carrsErr at h; rw [if_neg (by omega)] at h; exact h)
  have z2 := z1 k hk
  have hm := lastD_mem _ t _ (Nat.le_refl _) d hd
  unfold carrErr at z2
  split at z2
  · cases z2
  · split at z2
    · cases z2
    · split at z2
      · cases z2
      · split at z2
        · cases z2
        · have z3 := first_zero z2
          obtain ⟨j, hj, rfl⟩ := List.getElem_of_mem hm
          have z4 := z3 j hj
          unfold deckAtErr at z4
          rw [List.getD_eq_getElem?_getD, List.getElem?_eq_getElem hj] at z4
          refine deck_good (hr k hk _ (List.getElem_mem hj)) ?_
          simp only [Option.getD_some] at z4
          by_cases h9 : deckErr (l.getD k noCarr).decks[j] = 0
          · exact h9
          · rw [if_pos h9] at z4; exact absurd z4 h9
theorem good_row {w : World} {a : Option Addr} {n : Nat} {l : List Carr} {t : Int} (h : CarrRow w a n l) (h0 : carrsErr l = 0) : GoodAt l t := by
  have hl := h.len
  have hf := h.few
  refine good_at (by omega) (fun i hi d hd => ?_) h0
  obtain ⟨j, hj, rfl⟩ := List.getElem_of_mem hd
  have h1 := ((h.each i hi).row.each j hj).row
  rw [List.getD_eq_getElem?_getD (l := (l.getD i noCarr).decks), List.getElem?_eq_getElem hj] at h1
  have h2 := h1.few
  have h3 := h1.len
  simp only [Option.getD_some] at h2 h3
  omega
/-- The error of Offers; the offers. -/
def offE (l : List Carr) (nm : List UInt8) (t : Int) : Int := if carrsErr l ≠ 0 then carrsErr l else if isNumB nm = false then 3 else if isMomB t = false then 1 else 0
def OfxPost (E : Int) (x : List Off) (w : World) (e : Ending) (w' : World) : Prop := ∃ v ys, e = .returned (.tuple #[v, .int .i64 E]) ∧ ys = (if E = 0 then x else []) ∧ OffRow w' w.heap.size v ys ∧ Below w.heap.size w w'
set_option maxRecDepth 100000 in
set_option maxHeartbeats 4000000 in
theorem offersX_any (w : World) (a : Option Addr) (n cap : Nat) (l : List Carr) (hl : CarrRow w a n l) (hcap : n ≤ cap) (hn3 : n ≤ 3) (nm : List UInt8) (hnl : nm.length ≤ 100) (t : Int) : Calls Tryz.prog 34 #[.slice a n cap, .string ⟨nm.toArray⟩, .int .i64 t] w (OfxPost (offE l nm t) (insL (ltOf cfP) (offTo l (nm.drop 1) t n)) w) := by
  have HR := Lib.hid hl
  have HCC := Lib.hid (fun W (h : Below w.heap.size w W) => checkCarr_any W a n cap l (hl.below h) hcap)
  have HGD : Hid (carrsErr l = 0 → GoodAt l t) := fun h => good_row hl h
  have HE : Hid (offE l nm t = if carrsErr l ≠ 0 then carrsErr l else if isNumB nm = false then 3 else if isMomB t = false then 1 else 0) := rfl
  have HBAD : Hid (∀ E W, offE l nm t = E → E ≠ 0 → Below w.heap.size w W → OfxPost (offE l nm t) (insL (ltOf cfP) (offTo l (nm.drop 1) t n)) w (.returned (.tuple #[.slice none 0 0, .int .i64 E])) W) := fun E W h1 h2 h3 => by
    rw [h1]; exact ⟨_, [], rfl, by rw [if_neg h2], World.ownsRow_nil _ _ _ _, h3⟩
  have HOK : Hid (∀ v W, offE l nm t = 0 → OffRow W w.heap.size v (insL (ltOf cfP) (offTo l (nm.drop 1) t n)) → Below w.heap.size w W → OfxPost (offE l nm t) (insL (ltOf cfP) (offTo l (nm.drop 1) t n)) w (.returned (.tuple #[v, .int .i64 0])) W) := fun v W h1 h2 h3 => by
    rw [h1]; exact ⟨v, _, rfl, by rw [if_pos rfl], h2, h3⟩
  have HOF : Hid (carrsErr l = 0 → isNumB nm = true → ∀ W, Below w.heap.size w W → Calls Tryz.prog 76 #[.slice a n cap, .string ⟨nm.toArray⟩, .int .i64 t] W (OfsPost (insL (ltOf cfP) (offTo l (nm.drop 1) t n)) W)) := fun h1 h2 W hW => by
    obtain ⟨d, rfl, -, h4, h5⟩ := num_parts h2
    exact offersI_any W a n cap l (hl.below hW) hn3 _ (by simp) (by simp; omega) t (good_row hl h1)
  have HLE : Hid (∀ W1 v W2, Below w.heap.size w W1 → OffRow W2 W1.heap.size v (insL (ltOf cfP) (offTo l (nm.drop 1) t n)) → OffRow W2 w.heap.size v (insL (ltOf cfP) (offTo l (nm.drop 1) t n))) := fun W1 v W2 h1 h2 => own_le h2 h1.size
  generalize hPP : OfxPost (offE l nm t) (insL (ltOf cfP) (offTo l (nm.drop 1) t n)) w = PP at HBAD HOK ⊢
  clear hPP hl
  generalize offE l nm t = X at HE HBAD HOK
  generalize insL (ltOf cfP) (offTo l (nm.drop 1) t n) = xs at HOK HOF HLE
  have HIN := Lib.hid (fun W => isNumber_l nm W (by omega))
  generalize carrsErr l = F at HCC HE HOF HGD
  generalize isNumB nm = g1 at HE HOF HIN
  go_enter Tryz.func34, Tryz.ntmps34
  go_wp2_with fail
  refine (HCC.out _ (Below.refl _ _)).mono ?_
  rintro e w1 ⟨rfl, hb⟩
  have HB1 := Lib.hid hb
  clear hb HCC
  by_cases hF : F = 0
  case neg =>
    have hX : X = F := by rw [HE.out, if_pos hF]
    subst hX
    have HFX := Lib.hid (HBAD.out _ w1 rfl hF HB1.out)
    have hFb : (X == 0) = false := by simpa using hF
    clear HE HOK HOF HBAD hF HGD
    as_aux_lemma =>
      go_wp2_with fail
      first | exact HFX.out | (go_ret2; exact HFX.out)
  subst hF
  as_aux_lemma =>
    go_wp2_with fail
    refine (HIN.out _).mono ?_
    rintro e w2 ⟨rfl, hb⟩
    have HB2 := Lib.hid (ext_trans HB1.out hb)
    clear hb HB1 HIN
    cases g1
    · obtain rfl : X = 3 := by rw [HE.out, if_neg (by simp), if_pos rfl]
      have HFX := Lib.hid (HBAD.out _ w2 rfl (by decide) HB2.out)
      clear HE HOK HOF HBAD HGD
      skip
      as_aux_lemma =>
        go_wp2_with fail
        first | exact HFX.out | (go_ret2; exact HFX.out)
    have HE2 : Hid (X = if isMomB t = false then 1 else 0) := by show X = _; rw [HE.out, if_neg (by simp), if_neg (by decide)]
    clear HE
    as_aux_lemma =>
      go_wp2_with fail
      refine (isMoment_any t _).mono ?_
      rintro e w9 ⟨rfl, rfl⟩
      generalize isMomB t = g2 at HE2 ⊢
      cases g2
      · obtain rfl : X = 1 := by rw [HE2.out, if_pos rfl]
        have HFX := Lib.hid (HBAD.out _ w2 rfl (by decide) HB2.out)
        clear HE2 HOK HOF HBAD HGD
        skip
        as_aux_lemma =>
          go_wp2_with fail
          first | exact HFX.out | (go_ret2; exact HFX.out)
      obtain rfl : X = 0 := by rw [HE2.out, if_neg (by decide)]
      have HOF2 := Lib.hid (HOF.out (by trivial) (by trivial) w2 HB2.out)
      clear HE2 HBAD HOF HGD
      skip
      as_aux_lemma =>
        go_wp2_with fail
        refine HOF2.out.mono ?_
        rintro e w3 ⟨v, rfl, ho, hb⟩
        have HFX := Lib.hid (HOK.out v w3 (by trivial) (HLE.out w2 v w3 HB2.out ho) (ext_trans HB2.out hb))
        clear ho hb HB2 HOK HLE HOF2
        go_wp2_with fail
        first | exact HFX.out | (go_ret2; exact HFX.out)
end Go.Proofs.YtppinnjdaoaddaaGreatDoor

set_option linter.unusedVariables false
set_option linter.unusedSimpArgs false
namespace Go.Proofs.YtppinnjdaoaddaaGreatDoor
open Go.RowKit Go.Sort Go.Lib

def eqO (x y : Off) : Bool := x.c == y.c && x.price == y.price
theorem neqO : NeqAt Tryz.prog 80 (fun x : Off => .agg (Off.cells x).toArray) eqO := by
  refine ⟨fun x y w => ?_, GuardAt.agg _ (by kernel_rfl)⟩
  obtain ⟨c, n1⟩ := x
  obtain ⟨c', m1⟩ := y
  show (binOp .neq 80 (.agg #[.string ⟨c.toArray⟩, .int .i64 n1]) (.agg #[.string ⟨c'.toArray⟩, .int .i64 m1])).run Tryz.prog w = _
  go_simp
  unfold eqO
  by_cases h1 : c = c' <;> by_cases h2 : n1 = m1 <;> simp [*]
theorem allEqO_self : ∀ (l : List Off), Lib.allEq eqO l l = true
  | [] => rfl
  | x :: l => by
    show (eqO x x && Lib.allEq eqO l l) = true
    rw [show eqO x x = true by simp [eqO], allEqO_self l]; rfl
theorem equalO_none (w : World) (a a2 : Option Addr) (c c2 : Nat) : Calls Tryz.prog 36 #[.slice a 0 c, .slice a2 0 c2] w fun e w' => e = .returned (.bool true) ∧ Below w.heap.size w w' := by
  go_enter Tryz.func36, Tryz.ntmps36
  go_wp2_with fail
  go_loopw [13] (fun i wr => i = .int .i64 0 ∧ Hid (Below w.heap.size w wr)) (fun _ _ => 0)
  case atStart => exact ⟨rfl, (by (try show Below _ _ _); repeat (with_reducible first | exact Below.refl _ _ | assumption | exact Hid.out (by assumption) | refine ext_alloc ?_ | refine ext_drewN ?_ | refine ext_drew ?_ | refine ext_setCell ?_ (Nat.le_refl _) | refine ext_setCell ?_ (Nat.le_succ _) | refine ext_trans ?_ (by assumption) | (refine ext_setCell ?_ (by simp)) | (refine ext_setCell ?_ (by simp at *; omega))))⟩
  case round =>
    obtain ⟨rfl, HB⟩ := hrel
    go_wp2_with fail
    go_ret
    exact ⟨rfl, (by (try show Below _ _ _); repeat (with_reducible first | exact Below.refl _ _ | assumption | exact Hid.out (by assumption) | refine ext_alloc ?_ | refine ext_drewN ?_ | refine ext_drew ?_ | refine ext_setCell ?_ (Nat.le_refl _) | refine ext_setCell ?_ (Nat.le_succ _) | refine ext_trans ?_ (by assumption) | (refine ext_setCell ?_ (by simp)) | (refine ext_setCell ?_ (by simp at *; omega))))⟩
theorem bang_getDO {l : List Off} {j : Nat} (h : j < l.length) : l[j]! = l.getD j noOff := by
  simp [List.getD_eq_getElem?_getD, h]
theorem equal_offers {w : World} {base base2 : Nat} {v v2 : Value} {xs ys : List Off} (h : OffRow w base v xs) (h2 : OffRow w base2 v2 ys) (he : xs = ys) (hn : xs.length ≤ 100000) :
    Calls Tryz.prog 36 #[v, v2] w fun e w' => e = .returned (.bool true) ∧ Below w.heap.size w w' := by
  subst he
  unfold OffRow at h h2
  by_cases h0 : xs.length = 0
  · obtain ⟨a, c, rfl⟩ := own_shape h
    obtain ⟨a2, c2, rfl⟩ := own_shape h2
    rw [h0]
    exact equalO_none w a a2 c c2
  · obtain ⟨a, c, rfl⟩ := own_shape h
    obtain ⟨a2, c2, rfl⟩ := own_shape h2
    obtain ⟨g, rfl, -, -⟩ := own_pos h (by omega)
    obtain ⟨g2, rfl, -, -⟩ := own_pos h2 (by omega)
    refine (Tryz.slices_eqO Off.cells (fun _ => rfl) eqO neqO g 0 xs.length c g2 0 xs.length c2 xs xs w (Nat.le_refl _) (Nat.le_refl _) (by omega) (by omega) (fun j hj i v hv => ?_) (fun j hj i v hv => ?_)).mono ?_
    · rw [bang_getDO hj] at hv
      rw [Nat.zero_add]
      exact own_field Off.cells (fun _ => rfl) h j i noOff hj (by have := (List.getElem?_eq_some_iff.1 hv).1; exact this) hv
    · rw [bang_getDO hj] at hv
      rw [Nat.zero_add]
      exact own_field Off.cells (fun _ => rfl) h2 j i noOff hj (by have := (List.getElem?_eq_some_iff.1 hv).1; exact this) hv
    · rintro e w' ⟨rfl, q, rfl⟩
      rw [List.take_length, allEqO_self]
      exact ⟨rfl, ext_drewN (Below.refl _ _)⟩
/-- Keys of the first carriers ascend. -/
theorem keys_less {l : List Carr} (hl : l.length ≤ 50) (h : carrsErr l = 0) : ∀ (i d : Nat), i + (d + 1) < l.length → Op.bytesLess (l.getD i noCarr).key (l.getD (i + (d + 1)) noCarr).key = true := by
  have z1 : ∀ j, j < l.length → carrErr l j = 0 := first_zero (by unfold carrsErr at h; rw [if_neg (by omega)] at h; exact h)
  have step : ∀ j, j + 1 < l.length → Op.bytesLess (l.getD j noCarr).key (l.getD (j + 1) noCarr).key = true := fun j hj => by
    have z2 := z1 (j + 1) hj
    unfold carrErr at z2
    split at z2
    · cases z2
    · split at z2
      · cases z2
      · rename_i h2
        cases h4 : Op.bytesLess (l.getD j noCarr).key (l.getD (j + 1) noCarr).key with
        | true => rfl
        | false => exact absurd ⟨by omega, h4⟩ h2
  intro i d
  induction d with
  | zero => exact fun hi => step i hi
  | succ d ih => exact fun hi => less_trans (ih (by omega)) (step (i + (d + 1)) hi)
/-- Offers stand in the order of their carriers. -/
theorem offTo_keys {l : List Carr} (s : List UInt8) (t : Int) : ∀ k, k ≤ l.length → ∀ x ∈ offTo l s t k, ∃ i, i < k ∧ x.c = (l.getD i noCarr).key
  | 0, _, x, h => by cases h
  | k + 1, hk, x, h => by
    unfold offTo at h
    rcases List.mem_append.1 h with h | h
    · obtain ⟨i, h1, h2⟩ := offTo_keys s t k (by omega) x h
      exact ⟨i, by omega, h2⟩
    · split at h
      · rw [List.mem_singleton.1 h]; exact ⟨k, by omega, rfl⟩
      · cases h
theorem offTo_asc {l : List Carr} (hl : l.length ≤ 50) (h : carrsErr l = 0) (s : List UInt8) (t : Int) : ∀ k, k ≤ l.length → (offTo l s t k).Pairwise fun x y => Op.bytesLess x.c y.c = true
  | 0, _ => List.Pairwise.nil
  | k + 1, hk => by
    have ih := offTo_asc hl h s t k (by omega)
    unfold offTo
    split
    · rw [List.pairwise_append]
      refine ⟨ih, List.pairwise_singleton _ _, fun x hx y hy => ?_⟩
      obtain ⟨i, h1, h2⟩ := offTo_keys s t k (by omega) x hx
      rw [List.mem_singleton.1 hy, h2]
      have := keys_less hl h i (k - i - 1) (by omega)
      rwa [show i + (k - i - 1 + 1) = k by omega] at this
    · simpa using ih
theorem sort_same {l : List Carr} (hl : l.length ≤ 50) (h : carrsErr l = 0) (s : List UInt8) (t : Int) (k : Nat) (hk : k ≤ l.length) (h3 : k ≤ 3) : insL (ltOf cfP) (offTo l s t k) = insL (ltOf cfPC) (offTo l s t k) := by
  have hp := offTo_asc hl h s t k hk
  have hlen := offTo_len l s t k
  generalize offTo l s t k = xs at hp hlen ⊢
  refine insL_same _ _ xs (by omega) (fun i j hij hj => ?_)
  have h1 := List.pairwise_iff_getElem.1 hp i j (by omega) hj hij
  have e1 : xs.getD i default = xs[i] := by rw [List.getD_eq_getElem?_getD, List.getElem?_eq_getElem (show i < xs.length by omega)]; rfl
  have e2 : xs.getD j default = xs[j] := by rw [List.getD_eq_getElem?_getD, List.getElem?_eq_getElem hj]; rfl
  rw [e1, e2]
  generalize xs[i] = x at h1
  generalize xs[j] = y at h1
  unfold ltOf cfP cfPC firstE
  by_cases hc : Lib.compareInt y.price x.price = 0
  · rw [if_neg (by simp [hc]), hc]
    have : ¬ Lib.compareBytes y.c x.c < 0 := fun h9 => by
      rw [cmp_neg] at h9
      have := less_trans h1 h9
      rw [less_irrefl] at this; cases this
    simp [this]
  · rw [if_pos hc]
end Go.Proofs.YtppinnjdaoaddaaGreatDoor

set_option linter.unusedVariables false
set_option linter.unusedSimpArgs false
namespace Go.Proofs.YtppinnjdaoaddaaGreatDoor
open Go.RowKit

instance : Inhabited Rate := ⟨noRate⟩
def eqR (x y : Rate) : Bool := x.p == y.p && (x.price == y.price && x.closed == y.closed)
theorem neqR : NeqAt Tryz.prog 120 (fun x : Rate => .agg (Rate.cells x).toArray) eqR := by
  refine ⟨fun x y w => ?_, GuardAt.agg _ (by kernel_rfl)⟩
  obtain ⟨c, n1, b1⟩ := x
  obtain ⟨c', m1, b2⟩ := y
  show (binOp .neq 120 (.agg #[.string ⟨c.toArray⟩, .int .i64 n1, .bool b1]) (.agg #[.string ⟨c'.toArray⟩, .int .i64 m1, .bool b2])).run Tryz.prog w = _
  go_simp
  unfold eqR
  by_cases h1 : c = c' <;> by_cases h2 : n1 = m1 <;> by_cases h3 : b1 = b2 <;> simp [*]
theorem allEqR_self : ∀ (l : List Rate), Lib.allEq eqR l l = true
  | [] => rfl
  | x :: l => by
    show (eqR x x && Lib.allEq eqR l l) = true
    rw [show eqR x x = true by simp [eqR], allEqR_self l]; rfl
theorem bang_getDR {l : List Rate} {j : Nat} (h : j < l.length) : l[j]! = l.getD j noRate := by
  simp [List.getD_eq_getElem?_getD, h]
theorem equalR_none (w : World) (a a2 : Option Addr) (c c2 : Nat) : Calls Tryz.prog 74 #[.slice a 0 c, .slice a2 0 c2] w fun e w' => e = .returned (.bool true) ∧ Below w.heap.size w w' := by
  go_enter Tryz.func74, Tryz.ntmps74
  go_wp2_with fail
  go_loopw [13] (fun i wr => i = .int .i64 0 ∧ Hid (Below w.heap.size w wr)) (fun _ _ => 0)
  case atStart => exact ⟨rfl, (by (try show Below _ _ _); repeat (with_reducible first | exact Below.refl _ _ | assumption | exact Hid.out (by assumption) | refine ext_alloc ?_ | refine ext_drewN ?_ | refine ext_drew ?_ | refine ext_setCell ?_ (Nat.le_refl _) | refine ext_setCell ?_ (Nat.le_succ _) | refine ext_trans ?_ (by assumption) | (refine ext_setCell ?_ (by simp)) | (refine ext_setCell ?_ (by simp at *; omega))))⟩
  case round =>
    obtain ⟨rfl, HB⟩ := hrel
    go_wp2_with fail
    go_ret
    exact ⟨rfl, (by (try show Below _ _ _); repeat (with_reducible first | exact Below.refl _ _ | assumption | exact Hid.out (by assumption) | refine ext_alloc ?_ | refine ext_drewN ?_ | refine ext_drew ?_ | refine ext_setCell ?_ (Nat.le_refl _) | refine ext_setCell ?_ (Nat.le_succ _) | refine ext_trans ?_ (by assumption) | (refine ext_setCell ?_ (by simp)) | (refine ext_setCell ?_ (by simp at *; omega))))⟩
theorem rate_get {w : World} {b off n : Nat} {l : List Rate} (h : RateRow w (some ⟨b, off, none⟩) n l) (j : Nat) (hj : j < l.length) (i : Nat) (v : Value) (hv : (Rate.cells l[j]!)[i]? = some v) : w.cell? ⟨b, off + j * 3 + i, none⟩ = some v := by
  have hl := h.len
  rw [bang_getDR hj] at hv
  obtain ⟨b', off', e, -, hc⟩ := h.at (by omega)
  injection e with e
  injection e with e1 e2 e3
  subst e1
  subst e2
  obtain ⟨c0, c1, c2⟩ := hc j (by omega)
  match i, hv with
  | 0, hv => simp [Rate.cells] at hv; subst hv; rw [Nat.add_zero]; exact c0
  | 1, hv => simp [Rate.cells] at hv; subst hv; exact c1
  | 2, hv => simp [Rate.cells] at hv; subst hv; exact c2
theorem equalR_any (w : World) (a a2 : Option Addr) (n c c2 : Nat) (l : List Rate) (h : RateRow w a n l) (h2 : RateRow w a2 n l) : Calls Tryz.prog 74 #[.slice a n c, .slice a2 n c2] w fun e w' => e = .returned (.bool true) ∧ Below w.heap.size w w' := by
  by_cases h0 : n = 0
  · subst h0
    exact equalR_none w a a2 c c2
  · have hl := h.len
    have hf := h.few
    obtain ⟨b, off, rfl, -, -⟩ := h.at (by omega)
    obtain ⟨b2, off2, rfl, -, -⟩ := h2.at (by omega)
    refine (Tryz.slices_eqR Rate.cells (fun _ => rfl) eqR neqR b off n c b2 off2 n c2 l l w (by omega) (by omega) (by omega) (by omega) (fun j hj i v hv => rate_get h j hj i v hv) (fun j hj i v hv => rate_get h2 j hj i v hv)).mono ?_
    rintro e w' ⟨rfl, q, rfl⟩
    rw [List.take_of_length_le (by omega), allEqR_self]
    exact ⟨rfl, ext_drewN (Below.refl _ _)⟩
set_option maxRecDepth 100000 in
set_option maxHeartbeats 4000000 in
theorem sameDeck_any (w : World) (df ds dl dp : Int) (ra sa : Option Addr) (rn rc sc : Nat) (rates : List Rate) (h : RateRow w ra rn rates) (h2 : RateRow w sa rn rates) : Calls Tryz.prog 33 #[.agg #[.int .i64 df, .int .i64 ds, .int .i64 dl, .int .i64 dp, .slice ra rn rc], .agg #[.int .i64 df, .int .i64 ds, .int .i64 dl, .int .i64 dp, .slice sa rn sc]] w fun e w' => e = .returned (.bool true) ∧ Below w.heap.size w w' := by
  have HEQ := Lib.hid (fun W (hW : Below w.heap.size w W) => equalR_any W ra sa rn rc sc rates (h.below hW) (h2.below hW))
  clear h h2
  go_enter Tryz.func33, Tryz.ntmps33
  go_upto_region 1 with (fail)
  have HD : Hid (Blk ((w.alloc (.cells #[.int .i64 df, .int .i64 ds, .int .i64 dl, .int .i64 dp, .slice ra rn rc] 63)).alloc (.cells #[.int .i64 df, .int .i64 ds, .int .i64 dl, .int .i64 dp, .slice sa rn sc] 63)) w.heap.size [.int .i64 df, .int .i64 ds, .int .i64 dl, .int .i64 dp, .slice ra rn rc] 63) := (Blk.new w [.int .i64 df, .int .i64 ds, .int .i64 dl, .int .i64 dp, .slice ra rn rc] 63).alloc _
  have HE : Hid (Blk ((w.alloc (.cells #[.int .i64 df, .int .i64 ds, .int .i64 dl, .int .i64 dp, .slice ra rn rc] 63)).alloc (.cells #[.int .i64 df, .int .i64 ds, .int .i64 dl, .int .i64 dp, .slice sa rn sc] 63)) (w.heap.size + 1) [.int .i64 df, .int .i64 ds, .int .i64 dl, .int .i64 dp, .slice sa rn sc] 63) := by
    have := Blk.new (w.alloc (.cells #[.int .i64 df, .int .i64 ds, .int .i64 dl, .int .i64 dp, .slice ra rn rc] 63)) [.int .i64 df, .int .i64 ds, .int .i64 dl, .int .i64 dp, .slice sa rn sc] 63
    show Blk _ _ _ _
    simpa using this
  have HB : Hid (Below w.heap.size w ((w.alloc (.cells #[.int .i64 df, .int .i64 ds, .int .i64 dl, .int .i64 dp, .slice ra rn rc] 63)).alloc (.cells #[.int .i64 df, .int .i64 ds, .int .i64 dl, .int .i64 dp, .slice sa rn sc] 63))) := ext_alloc (ext_alloc (Below.refl _ _))
  generalize World.alloc (World.alloc w _) _ = W at HD HE HB ⊢
  have d0 := HD.out.cell 0 rfl
  have d1 := HD.out.cell 1 rfl
  have d2 := HD.out.cell 2 rfl
  have d3 := HD.out.cell 3 rfl
  have d4 := HD.out.cell 4 rfl
  have e0 := HE.out.cell 0 rfl
  have e1 := HE.out.cell 1 rfl
  have e2 := HE.out.cell 2 rfl
  have e3 := HE.out.cell 3 rfl
  have e4 := HE.out.cell 4 rfl
  clear HD HE
  as_aux_lemma =>
    go_wp2_with fail
    refine (HEQ.out _ HB.out).mono ?_
    rintro e w1 ⟨rfl, hb⟩
    have HB1 := Lib.hid (ext_trans HB.out hb)
    clear hb HB HEQ d0 d1 d2 d3 d4 e0 e1 e2 e3 e4
    go_wp2_with fail
    go_ret
    exact ⟨rfl, HB1.out⟩
end Go.Proofs.YtppinnjdaoaddaaGreatDoor

set_option linter.unusedVariables false
set_option linter.unusedSimpArgs false
namespace Go.Proofs.YtppinnjdaoaddaaGreatDoor
open Go.RowKit

theorem hasPre_c (s p : List UInt8) (w : World) : Calls Tryz.prog 95 #[.string ⟨s.toArray⟩, .string ⟨p.toArray⟩] w fun e w' => e = .returned (.bool (Lib.hasPrefix s p)) ∧ w = w' := (Tryz.strings_HasPrefix ⟨s.toArray⟩ ⟨p.toArray⟩ w).mono (fun e w' h => ⟨h.1, h.2.symm⟩)
/-- The rate with the longest prefix, among the first. -/
def refTo (cs : List Rate) (s : List UInt8) : Nat → Option Rate
  | 0 => none
  | k + 1 => if Lib.hasPrefix s (cs.getD k noRate).p = true ∧ ((refTo cs s k).isSome = false ∨ ((refTo cs s k).getD noRate).p.length < (cs.getD k noRate).p.length) then some (cs.getD k noRate) else refTo cs s k
/-- What both searches find. -/
def BestR (cs : List Rate) (s : List UInt8) (o : Option Rate) : Prop :=
  match o with
  | none => ∀ r ∈ cs, Lib.hasPrefix s r.p = false
  | some r => r ∈ cs ∧ Lib.hasPrefix s r.p = true ∧ ∀ q ∈ cs, Lib.hasPrefix s q.p = true → q.p.length ≤ r.p.length
theorem refTo_best (cs : List Rate) (s : List UInt8) : ∀ k, k ≤ cs.length → (match refTo cs s k with
    | none => ∀ i, i < k → Lib.hasPrefix s (cs.getD i noRate).p = false
    | some r => r ∈ cs ∧ Lib.hasPrefix s r.p = true ∧ ∀ i, i < k → Lib.hasPrefix s (cs.getD i noRate).p = true → (cs.getD i noRate).p.length ≤ r.p.length)
  | 0, _ => by intro i hi; omega
  | k + 1, hk => by
    have ih := refTo_best cs s k (by omega)
    unfold refTo
    cases h9 : refTo cs s k with
    | none =>
      rw [h9] at ih
      simp only at ih
      by_cases h1 : Lib.hasPrefix s (cs.getD k noRate).p = true
      · rw [if_pos ⟨h1, Or.inl rfl⟩]
        refine ⟨mem_getD _ (by omega), h1, fun i hi h2 => ?_⟩
        rcases Nat.lt_succ_iff_lt_or_eq.1 hi with h3 | rfl
        · rw [ih i h3] at h2; cases h2
        · exact Nat.le_refl _
      · rw [if_neg (fun h => h1 h.1)]
        intro i hi
        rcases Nat.lt_succ_iff_lt_or_eq.1 hi with h3 | rfl
        · exact ih i h3
        · simpa using h1
    | some r =>
      rw [h9] at ih
      simp only at ih
      obtain ⟨i1, i2, i3⟩ := ih
      by_cases h1 : Lib.hasPrefix s (cs.getD k noRate).p = true ∧ r.p.length < (cs.getD k noRate).p.length
      · rw [if_pos ⟨h1.1, Or.inr h1.2⟩]
        refine ⟨mem_getD _ (by omega), h1.1, fun i hi h2 => ?_⟩
        rcases Nat.lt_succ_iff_lt_or_eq.1 hi with h3 | rfl
        · have := i3 i h3 h2; omega
        · exact Nat.le_refl _
      · rw [if_neg (fun h => h1 ⟨h.1, h.2.resolve_left (by simp)⟩)]
        refine ⟨i1, i2, fun i hi h2 => ?_⟩
        rcases Nat.lt_succ_iff_lt_or_eq.1 hi with h3 | rfl
        · exact i3 i h3 h2
        · by_cases h4 : (cs.getD i noRate).p.length ≤ r.p.length
          · exact h4
          · exact absurd ⟨h2, by omega⟩ h1
theorem refTo_is (cs : List Rate) (s : List UInt8) : BestR cs s (refTo cs s cs.length) := by
  have h := refTo_best cs s cs.length (Nat.le_refl _)
  unfold BestR
  cases h9 : refTo cs s cs.length with
  | none =>
    rw [h9] at h
    intro r hr
    obtain ⟨j, hj, rfl⟩ := List.getElem_of_mem hr
    have := h j hj
    rwa [List.getD_eq_getElem?_getD, List.getElem?_eq_getElem hj] at this
  | some r =>
    rw [h9] at h
    obtain ⟨h1, h2, h3⟩ := h
    refine ⟨h1, h2, fun q hq h4 => ?_⟩
    obtain ⟨j, hj, rfl⟩ := List.getElem_of_mem hq
    have := h3 j hj
    rw [List.getD_eq_getElem?_getD, List.getElem?_eq_getElem hj] at this
    exact this h4
theorem pre_take {s p : List UInt8} (h : Lib.hasPrefix s p = true) : s.take p.length = p := by
  have h1 := Lib.hasPrefix_of_take s p
  rw [h] at h1
  simp only [Bool.and_eq_true, decide_eq_true_eq] at h1
  simpa using h1.2
theorem prefix_len {s p : List UInt8} (h : Lib.hasPrefix s p = true) : p.length ≤ s.length := by
  have h1 := Lib.hasPrefix_of_take s p
  rw [h] at h1
  simp only [Bool.and_eq_true, decide_eq_true_eq] at h1
  exact h1.1
theorem take_pre {s : List UInt8} (k : Nat) : Lib.hasPrefix s (s.take k) = true := by
  rw [← Lib.hasPrefix_of_take]
  simp [Nat.min_le_right]
theorem findR_none {cs : List Rate} {t : List UInt8} (h : findR cs t = none) : ∀ r ∈ cs, r.p ≠ t := fun r hr h9 => by
  unfold findR at h
  rw [List.find?_eq_none] at h
  exact h r hr (by simpa using h9)
theorem findR_some {cs : List Rate} {t : List UInt8} {r : Rate} (h : findR cs t = some r) : r.p = t := by
  unfold findR at h
  have := List.find?_some h
  simpa using this
theorem rateTo_best (cs : List Rate) (s : List UInt8) : ∀ k, k ≤ s.length → (match rateTo cs s k with
    | none => ∀ r ∈ cs, r.p.length ≤ k → Lib.hasPrefix s r.p = false
    | some r => r ∈ cs ∧ Lib.hasPrefix s r.p = true ∧ ∀ q ∈ cs, q.p.length ≤ k → Lib.hasPrefix s q.p = true → q.p.length ≤ r.p.length)
  | 0, _ => by
    unfold rateTo
    cases h9 : findR cs (s.take 0) with
    | none =>
      intro r hr h1
      cases h2 : Lib.hasPrefix s r.p with
      | false => rfl
      | true =>
        have h3 := pre_take h2
        exact absurd (by rw [show r.p.length = 0 by omega] at h3; exact h3.symm) (findR_none h9 r hr)
    | some r =>
      have h1 := findR_some h9
      refine ⟨findR_mem h9, by rw [h1]; exact take_pre 0, fun q hq h2 _ => by omega⟩
  | k + 1, hk => by
    have ih := rateTo_best cs s k (by omega)
    unfold rateTo
    cases h9 : findR cs (s.take (k + 1)) with
    | some r =>
      have h1 := findR_some h9
      refine ⟨findR_mem h9, by rw [h1]; exact take_pre _, fun q hq h2 _ => by rw [h1, List.length_take]; omega⟩
    | none =>
      have hno : ∀ q ∈ cs, q.p.length ≤ k + 1 → Lib.hasPrefix s q.p = true → q.p.length ≤ k := fun q hq h2 h3 => by
        rcases Nat.lt_or_ge k q.p.length with h4 | h4
        · have h5 := pre_take h3
          exact absurd (by rw [show q.p.length = k + 1 by omega] at h5; exact h5.symm) (findR_none h9 q hq)
        · exact h4
      show (match (none : Option Rate).or (rateTo cs s k) with | none => _ | some r => _)
      simp only [Option.none_or]
      cases h8 : rateTo cs s k with
      | none =>
        rw [h8] at ih
        intro r hr h1
        cases h2 : Lib.hasPrefix s r.p with
        | false => rfl
        | true => rw [ih r hr (hno r hr h1 h2)] at h2; cases h2
      | some r =>
        rw [h8] at ih
        obtain ⟨i1, i2, i3⟩ := ih
        exact ⟨i1, i2, fun q hq h1 h2 => i3 q hq (hno q hq h1 h2) h2⟩
theorem rateOf_is (cs : List Rate) (s : List UInt8) (hs : s.length ≤ 15) : BestR cs s (rateOf cs s 15) := by
  have h := rateTo_best cs s s.length (Nat.le_refl _)
  unfold rateOf
  rw [show min s.length 15 = s.length by omega]
  unfold BestR
  cases h9 : rateTo cs s s.length with
  | none =>
    rw [h9] at h
    intro r hr
    cases h2 : Lib.hasPrefix s r.p with
    | false => rfl
    | true => rw [h r hr (prefix_len h2)] at h2; cases h2
  | some r =>
    rw [h9] at h
    obtain ⟨h1, h2, h3⟩ := h
    exact ⟨h1, h2, fun q hq h4 => h3 q hq (prefix_len h4) h4⟩
theorem RSorted.inj {cs : List Rate} (h : RSorted cs) {a b : Rate} (ha : a ∈ cs) (hb : b ∈ cs) (hp : a.p = b.p) : a = b := by
  obtain ⟨i, hi, rfl⟩ := List.getElem_of_mem ha
  obtain ⟨j, hj, rfl⟩ := List.getElem_of_mem hb
  have e1 : cs.getD i noRate = cs[i] := by simp [List.getD_eq_getElem?_getD, List.getElem?_eq_getElem hi]
  have e2 : cs.getD j noRate = cs[j] := by simp [List.getD_eq_getElem?_getD, List.getElem?_eq_getElem hj]
  rcases Nat.lt_trichotomy i j with h1 | rfl | h1
  · have h2 := h.lt' h1 hj
    rw [e1, e2, hp, less_irrefl] at h2; cases h2
  · rfl
  · have h2 := h.lt' h1 hi
    rw [e1, e2, hp, less_irrefl] at h2; cases h2
theorem best_same {cs : List Rate} {s : List UInt8} (h : RSorted cs) {o q : Option Rate} (ho : BestR cs s o) (hq : BestR cs s q) : o = q := by
  cases o with
  | none =>
    cases q with
    | none => rfl
    | some r => obtain ⟨h1, h2, -⟩ := hq; rw [ho r h1] at h2; cases h2
  | some r =>
    cases q with
    | none => obtain ⟨h1, h2, -⟩ := ho; rw [hq r h1] at h2; cases h2
    | some r' =>
      obtain ⟨h1, h2, h3⟩ := ho
      obtain ⟨g1, g2, g3⟩ := hq
      have hl : r.p.length = r'.p.length := Nat.le_antisymm (g3 r h1 h2) (h3 r' g1 g2)
      have hp : r.p = r'.p := by rw [← pre_take h2, ← pre_take g2, hl]
      rw [h.inj h1 g1 hp]
theorem ref_same {cs : List Rate} {s : List UInt8} (h : RSorted cs) (hs : s.length ≤ 15) : refTo cs s cs.length = rateOf cs s 15 := best_same h (refTo_is cs s) (rateOf_is cs s hs)

/-- Division, rounded up. -/
def upD (a b : Int) : Int := (a + b - 1) / b
set_option maxHeartbeats 2000000 in
theorem upward_any (a b : Int) (ha : 0 ≤ a ∧ a ≤ 1000000000000000000) (hb : 1 ≤ b ∧ b ≤ 1000000000000) (w : World) : Calls Tryz.prog 106 #[.int .i64 a, .int .i64 b] w fun e w' => e = .returned (.int .i64 (upD a b)) ∧ w = w' := by
  have q1 : a.tdiv b = a / b := Int.tdiv_eq_ediv_of_nonneg ha.1
  have q2 : a.tmod b = a % b := Int.tmod_eq_emod_of_nonneg ha.1
  have m0 := Int.emod_nonneg a (show b ≠ 0 by omega)
  have m1 := Int.emod_lt_of_pos a (show 0 < b by omega)
  have d1 : b * (a / b) + a % b = a := Int.mul_ediv_add_emod a b
  have d0 : 0 ≤ a / b := Int.ediv_nonneg ha.1 (by omega)
  have d2 : a / b ≤ a := Int.ediv_le_self b ha.1
  have hU : Hid (upD a b = if 0 < a % b then a / b + 1 else a / b) := by
    show (a + b - 1) / b = _
    split
    · rename_i h
      rw [show a + b - 1 = (a % b - 1) + (a / b + 1) * b by have := Int.mul_comm b (a / b); rw [Int.add_mul]; omega, Int.add_mul_ediv_right _ _ (by omega), Int.ediv_eq_zero_of_lt (by omega) (by omega)]
      omega
    · rename_i h
      rw [show a + b - 1 = (b - 1) + (a / b) * b by have := Int.mul_comm b (a / b); omega, Int.add_mul_ediv_right _ _ (by omega), Int.ediv_eq_zero_of_lt (by omega) (by omega)]
      omega
  generalize upD a b = U at hU ⊢
  generalize a / b = q at q1 d0 d1 d2 hU
  generalize a % b = r at q2 m0 m1 d1 hU
  have w1 : IntKind.i64.wrap q = q := IntWalk.i64_in _ (by omega)
  have w2 : IntKind.i64.wrap r = r := IntWalk.i64_in _ (by omega)
  have w3 : IntKind.i64.wrap (q + 1) = q + 1 := IntWalk.i64_in _ (by omega)
  have hb0 : ¬ b = 0 := by omega
  clear d1 m0 m1 d0 d2
  by_cases h : 0 < r
  · have HU : Hid (U = q + 1) := by show U = _; rw [hU.out, if_pos h]
    clear hU
    go_enter Tryz.func106, Tryz.ntmps106
    go_wp2_with fail
    go_ret
    exact ⟨by rw [HU.out]; rfl, rfl⟩
  · have HU : Hid (U = q) := by show U = _; rw [hU.out, if_neg h]
    clear hU
    go_enter Tryz.func106, Tryz.ntmps106
    go_wp2_with fail
    go_ret
    exact ⟨by rw [HU.out]; rfl, rfl⟩
end Go.Proofs.YtppinnjdaoaddaaGreatDoor

set_option linter.unusedVariables false
set_option linter.unusedSimpArgs false
namespace Go.Proofs.YtppinnjdaoaddaaGreatDoor
open Go.RowKit

theorem rbox_far {w W : World} {G : Nat} (n : Nat) (hG : w.heap.size ≤ G) (h : Below w.heap.size w W) (u0 u1 u2 : Value) : Below w.heap.size w (((W.setCell ⟨G, 0, none⟩ u0).setCell ⟨G, 1, none⟩ u1).setCell ⟨G, 2, none⟩ u2) :=
  ((h.setCell (p := ⟨G, 0, none⟩) hG u0).setCell (p := ⟨G, 1, none⟩) hG u1).setCell (p := ⟨G, 2, none⟩) hG u2
theorem Blk.far3 {W : World} {B G : Nat} {cs : List Value} {ty : TypeId} (h : Blk W B cs ty) (hn : G ≠ B) (u0 u1 u2 : Value) : Blk (((W.setCell ⟨G, 0, none⟩ u0).setCell ⟨G, 1, none⟩ u1).setCell ⟨G, 2, none⟩ u2) B cs ty := ((h.far (p := ⟨G, 0, none⟩) hn).far (p := ⟨G, 1, none⟩) hn).far (p := ⟨G, 2, none⟩) hn
theorem Blk.put3 {W : World} {G : Nat} {a b c : Value} {ty : TypeId} (h : Blk W G [a, b, c] ty) (u0 u1 u2 : Value) : Blk (((W.setCell ⟨G, 0, none⟩ u0).setCell ⟨G, 1, none⟩ u1).setCell ⟨G, 2, none⟩ u2) G [u0, u1, u2] ty := ((h.put 0 u0).put 1 u1).put 2 u2
def rz : List Value := [.string ⟨#[]⟩, .int .i64 0, .bool false]
def rv (o : Option Rate) : List Value := [.string ⟨(o.getD noRate).p.toArray⟩, .int .i64 (o.getD noRate).price, .bool (o.getD noRate).closed]
set_option maxRecDepth 100000 in
set_option maxHeartbeats 8000000 in
theorem rateFor_any (w : World) (ra : Option Addr) (rn rc : Nat) (cs : List Rate) (s : List UInt8) (hr : RateRow w ra rn cs) (hs : s.length ≤ 1000) :
    Calls Tryz.prog 137 #[.slice ra rn rc, .string ⟨s.toArray⟩] w (RatePost (refTo cs s cs.length) w) := by
  have HR := Lib.hid hr
  have HLEN := Lib.hid hr.len
  have hfew := hr.few
  clear hr
  go_enter Tryz.func137, Tryz.ntmps137
  go_upto_region 2 with (fail)
  have HG0 : Hid (Blk ((w.alloc (.cells #[.string ⟨#[]⟩, .int .i64 0, .bool false] 120)).alloc (.cells #[.string ⟨#[]⟩, .int .i64 0, .bool false] 120)) w.heap.size rz 120) := (Blk.new w rz 120).alloc _
  have HY0 : Hid (Blk ((w.alloc (.cells #[.string ⟨#[]⟩, .int .i64 0, .bool false] 120)).alloc (.cells #[.string ⟨#[]⟩, .int .i64 0, .bool false] 120)) (w.heap.size + 1) (rv none) 120) := by
    have := Blk.new (w.alloc (.cells #[.string ⟨#[]⟩, .int .i64 0, .bool false] 120)) (rv none) 120
    show Blk _ _ _ _
    simpa [rv, noRate] using this
  have HB0 : Hid (Below w.heap.size w ((w.alloc (.cells #[.string ⟨#[]⟩, .int .i64 0, .bool false] 120)).alloc (.cells #[.string ⟨#[]⟩, .int .i64 0, .bool false] 120))) := ext_alloc (ext_alloc (Below.refl _ _))
  generalize World.alloc (World.alloc w _) _ = W0 at HG0 HY0 HB0 ⊢
  as_aux_lemma =>
    go_wp2_with fail
    go_loopw [7, 13] (fun v7 it wr => ∃ k : Nat, k ≤ rn ∧ it = .int .i64 k ∧ v7 = .bool (refTo cs s k).isSome ∧ Hid (Blk wr w.heap.size rz 120) ∧ Hid (Blk wr (w.heap.size + 1) (rv (refTo cs s k)) 120) ∧ Hid (Below w.heap.size w wr)) (fun _ it _ => rn - (intOf it).toNat)
    case atStart => exact ⟨0, Nat.zero_le _, rfl, rfl, HG0.out, HY0.out, HB0.out⟩
    case round =>
      clear HG0 HY0 HB0
      obtain ⟨k, hk, rfl, rfl, HG, HY, HB⟩ := hrel
      have y0 := HY.out.cell 0 rfl
      have y1 := HY.out.cell 1 rfl
      have y2 := HY.out.cell 2 rfl
      have yF := HY.out.fr
      by_cases hlt : k < rn
      case neg =>
        obtain rfl : k = rn := by omega
        have hge : ¬ (k : Int) < (k : Int) := by omega
        have g0 := HG.out.cell 0 rfl
        have g1 := HG.out.cell 1 rfl
        have g2 := HG.out.cell 2 rfl
        have gF := HG.out.fr
        have hle : k = cs.length := HLEN.out
        subst hle
        clear hlt
        as_aux_lemma =>
          go_wp2_with fail
          refine bodyPost_ret (v := .tuple #[.agg #[.string ⟨((refTo cs s cs.length).getD noRate).p.toArray⟩, .int .i64 ((refTo cs s cs.length).getD noRate).price, .bool ((refTo cs s cs.length).getD noRate).closed], .bool (refTo cs s cs.length).isSome]) (by simp [results, Tryz.results137, go_sem, g0, g1, g2]) rfl ⟨rbox_far 0 (Nat.le_refl _) HB.out _ _ _, rfl⟩
      have hlti : (k : Int) < (rn : Int) := by omega
      obtain ⟨b, off, rfl, hb, hc⟩ := (HR.out.below HB.out).at (by omega)
      obtain ⟨c0, c1, c2⟩ := hc k hlt
      have hw1 : w.heap.size + 1 < wr.heap.size := HY.out.lt
      have HE : Hid (refTo cs s (k + 1) = if Lib.hasPrefix s (cs.getD k noRate).p = true ∧ ((refTo cs s k).isSome = false ∨ ((refTo cs s k).getD noRate).p.length < (cs.getD k noRate).p.length) then some (cs.getD k noRate) else refTo cs s k) := rfl
      have hkl : (cs.getD k noRate).p.length ≤ 100 := (HR.out.each k (by rw [← HLEN.out]; exact hlt)).1
      clear hc
      generalize refTo cs s k = o at HE HY y0 y1 y2 ⊢
      generalize hcl : cs.getD k noRate = cl at c0 c1 c2 HE hkl
      obtain ⟨cp, cpr, ccl⟩ := cl
      simp only at c0 c1 c2 HE hkl
      clear hcl
      as_aux_lemma =>
        go_wp2_with fail
        refine (hasPre_c s cp _).mono ?_
        rintro e w' ⟨rfl, rfl⟩
        generalize Lib.hasPrefix s cp = g at HE ⊢
        have hA : Below wr.heap.size wr (wr.alloc (.cells #[.string ⟨cp.toArray⟩, .int .i64 cpr, .bool ccl] 120)) := ext_alloc (Below.refl _ _)
        have HGA := Lib.hid (HG.out.below hA)
        have HYA := Lib.hid (HY.out.below hA)
        have HBA := Lib.hid (ext_trans HB.out hA)
        have HXA : Hid (Blk (wr.alloc (.cells #[.string ⟨cp.toArray⟩, .int .i64 cpr, .bool ccl] 120)) wr.heap.size [.string ⟨cp.toArray⟩, .int .i64 cpr, .bool ccl] 120) := Blk.new wr [.string ⟨cp.toArray⟩, .int .i64 cpr, .bool ccl] 120
        generalize wr.alloc (.cells #[.string ⟨cp.toArray⟩, .int .i64 cpr, .bool ccl] 120) = wa at HGA HYA HBA HXA ⊢
        generalize wr.heap.size = X at HXA hw1 ⊢
        have x0 := HXA.out.cell 0 rfl
        have x1 := HXA.out.cell 1 rfl
        have x2 := HXA.out.cell 2 rfl
        have y0 := HYA.out.cell 0 rfl
        have y1 := HYA.out.cell 1 rfl
        have y2 := HYA.out.cell 2 rfl
        have yF := HYA.out.fr
        clear hA HG HY HB c0 c1 c2 HXA
        cases g with
        | false =>
          have HO2 : Hid (refTo cs s (k + 1) = o) := by show _ = _; rw [HE.out, if_neg (by simp)]
          clear HE
          as_aux_lemma =>
            go_wp2_with fail
            go_roundw
            case rel => exact ⟨k + 1, by omega, by go_num, by first | (rw [HO2.out]; done) | (rw [HO2.out]; rfl), HGA.out, by rw [HO2.out]; exact HYA.out, HBA.out⟩
            case measure => simp [intOf]; omega
        | true =>
          cases o with
          | none =>
            have HO2 : Hid (refTo cs s (k + 1) = some ⟨cp, cpr, ccl⟩) := by show _ = _; rw [HE.out, if_pos ⟨rfl, Or.inl rfl⟩]
            clear HE
            as_aux_lemma =>
              go_wp2_with fail
              go_roundw
              case rel => exact ⟨k + 1, by omega, by go_num, by first | (rw [HO2.out]; done) | (rw [HO2.out]; rfl), HGA.out.far3 (by omega) _ _ _, by rw [HO2.out]; exact HYA.out.put3 _ _ _, rbox_far 0 (by omega) HBA.out _ _ _⟩
              case measure => simp [intOf]; omega
          | some r =>
            obtain ⟨rp, rpr, rcl⟩ := r
            simp only [Option.getD_some, Option.isSome_some] at y0 y1 y2 HE ⊢
            by_cases hl : rp.length < cp.length
            · have HO2 : Hid (refTo cs s (k + 1) = some ⟨cp, cpr, ccl⟩) := by show _ = _; rw [HE.out, if_pos ⟨by trivial, Or.inr hl⟩]
              have hli : (rp.length : Int) < (cp.length : Int) := by omega
              clear HE hl
              as_aux_lemma =>
                go_wp2_with fail
                go_roundw
                case rel => exact ⟨k + 1, by omega, by go_num, by first | (rw [HO2.out]; done) | (rw [HO2.out]; rfl), HGA.out.far3 (by omega) _ _ _, by rw [HO2.out]; exact HYA.out.put3 _ _ _, rbox_far 0 (by omega) HBA.out _ _ _⟩
                case measure => simp [intOf]; omega
            · have HO2 : Hid (refTo cs s (k + 1) = some ⟨rp, rpr, rcl⟩) := by show _ = _; rw [HE.out, if_neg (fun h => hl (h.2.resolve_left (by simp)))]
              have hli : ¬ (rp.length : Int) < (cp.length : Int) := by omega
              clear HE hl
              as_aux_lemma =>
                go_wp2_with fail
                go_roundw
                case rel => exact ⟨k + 1, by omega, by go_num, by first | (rw [HO2.out]; done) | (rw [HO2.out]; rfl), HGA.out, by rw [HO2.out]; exact HYA.out, HBA.out⟩
                case measure => simp [intOf]; omega
end Go.Proofs.YtppinnjdaoaddaaGreatDoor

