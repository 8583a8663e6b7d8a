/- What is proved here: what Shared and Least of package dialplan answer; the patterns and the dialled strings that a stream makes. Condition: as stated. -/
import Derived.Test.YtkfflafhlgephaaDoorPatShare
import Derived.Test.YtkfflafhlgephaaDoorPicks
set_option linter.unusedVariables false
set_option linter.unusedSimpArgs false
namespace Go.Proofs.YtkfflafhlgephaaDoor
open Go.RowKit

theorem shareV_eq (o : Option (List Nat)) : shareV o = .tuple #[.string ⟨((o.getD []).map signN).toArray⟩, .bool o.isSome] := by cases o <;> rfl
def SharedPost (o : Option (List Nat)) (w : World) (e : Ending) (w' : World) : Prop := e = .returned (.tuple #[.string ⟨((o.getD []).map signN).toArray⟩, .bool o.isSome, .int .i64 0]) ∧ Below w.heap.size w w'
def LeastPost (o : Option (List Nat)) (w : World) (e : Ending) (w' : World) : Prop := e = .returned (.tuple #[.string ⟨((o.getD []).map signN).toArray⟩, .int .i64 0]) ∧ Below w.heap.size w w'

theorem pats_one {w : World} {q : Nat} {a : Option Addr} {n cap : Nat} {p : Pat} (hq : q < w.heap.size) (h0 : w.cell? ⟨q, 0, none⟩ = some (.slice a n cap)) (h1 : w.cell? ⟨q, 1, none⟩ = some (.int .u8 p.tail)) (hp : PatAt w a n p) (ho : PatOk p) : PatsAt w q [⟨a, n, cap, p⟩] := by
  have one : ∀ i, i < 1 → i = 0 := fun i hi => by omega
  refine ⟨hq, fun i hi => ?_, fun i hi => ?_, fun i hi => ?_⟩ <;> (have h9 := one i (by simpa using hi); subst h9)
  · simpa using h0
  · simpa using h1
  · exact ⟨hp, ho⟩
theorem pats_two {w : World} {q : Nat} {a : Option Addr} {n cap : Nat} {p : Pat} {a2 : Option Addr} {n2 cap2 : Nat} {p2 : Pat} (hq : q < w.heap.size) (h0 : w.cell? ⟨q, 0, none⟩ = some (.slice a n cap)) (h1 : w.cell? ⟨q, 1, none⟩ = some (.int .u8 p.tail)) (h2 : w.cell? ⟨q, 2, none⟩ = some (.slice a2 n2 cap2)) (h3 : w.cell? ⟨q, 3, none⟩ = some (.int .u8 p2.tail)) (hp : PatAt w a n p) (ho : PatOk p) (hp2 : PatAt w a2 n2 p2) (ho2 : PatOk p2) : PatsAt w q [⟨a, n, cap, p⟩, ⟨a2, n2, cap2, p2⟩] := by
  have two : ∀ i, i < 2 → i = 0 ∨ i = 1 := fun i hi => by omega
  refine ⟨hq, fun i hi => ?_, fun i hi => ?_, fun i hi => ?_⟩ <;> rcases two i (by simpa using hi) with rfl | rfl
  · simpa using h0
  · simpa using h2
  · simpa using h1
  · simpa using h3
  · exact ⟨hp, ho⟩
  · exact ⟨hp2, ho2⟩

set_option maxRecDepth 100000 in
set_option maxHeartbeats 2000000 in
theorem Shared_any (w : World) (x y : Els) (hx : ElsOk x) (hy : ElsOk y) (s t : ByteArray) (hs : s.data.toList = x.str) (ht : t.data.toList = y.str) (htab : TabAt w) : Calls Tryd.prog 17 #[.string s, .string t] w (SharedPost (shareL [x.pat, y.pat]) w) := by
  have HX := Lib.hid hx
  have HY := Lib.hid hy
  have HS := Lib.hid hs
  have HT := Lib.hid ht
  have HTAB := Lib.hid htab
  clear hx hy hs ht htab
  go_enter Tryd.func17, Tryd.ntmps17
  go_wp2_with fail
  refine (read_any _ x HX.out s HS.out).mono ?_
  rintro e1 w1 ⟨a, n, cap, rfl, hp, hb1⟩
  have HP := Lib.hid hp
  have HB1 := Lib.hid hb1
  clear hp hb1
  unfold patVal
  go_wp2_with fail
  refine (read_any _ y HY.out t HT.out).mono ?_
  rintro e1 w2 ⟨a2, n2, cap2, rfl, hp2, hb2⟩
  have HP2 := Lib.hid hp2
  have HB2 := Lib.hid (ext_trans (ext_alloc (Below.refl _ w1)) hb2)
  have c0 := (hb2.cell (p := ⟨w1.heap.size, 0, none⟩) (by simp)).trans (show _ = some (.slice a n cap) by go_simp)
  have c1 := (hb2.cell (p := ⟨w1.heap.size, 1, none⟩) (by simp)).trans (show _ = some (.int .u8 x.pat.tail) by go_simp)
  have z2 : w1.heap.size < w2.heap.size := by have := hb2.size; simp at this; omega
  clear hp2 hb2
  unfold patVal
  go_wp2_with fail
  have hall := shared_any ((w2.alloc (.cells #[.slice a2 n2 cap2, .int .u8 y.pat.tail] 95)).alloc (.cells #[.slice a n cap, .int .u8 x.pat.tail, .slice a2 n2 cap2, .int .u8 y.pat.tail] 95)) (w2.heap.size + 1) [⟨a, n, cap, x.pat⟩, ⟨a2, n2, cap2, y.pat⟩] 2 (pats_two (by simp) (by go_simp) (by go_simp) (by go_simp) (by go_simp) ((HP.out.below HB2.out).below (ext_alloc (ext_alloc (Below.refl _ _)))) (Els.ok HX.out) (HP2.out.below (ext_alloc (ext_alloc (Below.refl _ _)))) (Els.ok HY.out)) (by simp) (HTAB.out.below (ext_alloc (ext_alloc (ext_trans HB1.out HB2.out))))
  refine (show Calls _ _ _ _ (SharePost (shareL [x.pat, y.pat]) _) from hall).mono ?_
  rintro e1 w3 ⟨rfl, hb3⟩
  rw [shareV_eq]
  have HB3 := Lib.hid (ext_trans (ext_trans HB1.out HB2.out) (ext_trans (ext_alloc (ext_alloc (Below.refl _ w2))) hb3))
  clear hb3 hall
  go_wp2_with fail
  go_ret3
  exact ⟨rfl, HB3.out⟩

set_option maxRecDepth 100000 in
set_option maxHeartbeats 2000000 in
theorem Least_any (w : World) (x : Els) (hx : ElsOk x) (s : ByteArray) (hs : s.data.toList = x.str) (htab : TabAt w) : Calls Tryd.prog 19 #[.string s] w (LeastPost (shareL [x.pat]) w) := by
  have HX := Lib.hid hx
  have HS := Lib.hid hs
  have HTAB := Lib.hid htab
  clear hx hs htab
  go_enter Tryd.func19, Tryd.ntmps19
  go_wp2_with fail
  refine (read_any _ x HX.out s HS.out).mono ?_
  rintro e1 w1 ⟨a, n, cap, rfl, hp, hb1⟩
  have HP := Lib.hid hp
  have HB1 := Lib.hid hb1
  clear hp hb1
  unfold patVal
  go_wp2_with fail
  have hall := shared_any ((w1.alloc (.cells #[.slice a n cap, .int .u8 x.pat.tail] 95)).alloc (.cells #[.slice a n cap, .int .u8 x.pat.tail] 95)) (w1.heap.size + 1) [⟨a, n, cap, x.pat⟩] 1 (pats_one (by simp) (by go_simp) (by go_simp) (HP.out.below (ext_alloc (ext_alloc (Below.refl _ _)))) (Els.ok HX.out)) (by simp) (HTAB.out.below (ext_alloc (ext_alloc HB1.out)))
  refine (show Calls _ _ _ _ (SharePost (shareL [x.pat]) _) from hall).mono ?_
  rintro e1 w3 ⟨rfl, hb3⟩
  rw [shareV_eq]
  have HB3 := Lib.hid (ext_trans HB1.out (ext_trans (ext_alloc (ext_alloc (Below.refl _ w1))) hb3))
  clear hb3 hall
  go_wp2_with fail
  go_ret2
  exact ⟨rfl, HB3.out⟩

/-! ### What a stream makes -/
theorem str_app (x y : List UInt8) : ((⟨x.toArray⟩ : ByteArray) ++ ⟨y.toArray⟩) = ⟨(x ++ y).toArray⟩ := by
  apply ByteArray.ext
  simp
def elVals : List (List UInt8) := [[49], [50], [50], [57], [48], [42], [88], [88], [78], [90], [91, 49, 50, 93], [91, 50, 45, 52, 93], [91, 49, 45, 51, 53, 93], [91, 50, 57, 93]]
def tlVals : List (List UInt8) := [[], [], [], [46], [33]]
def dgVals : List (List UInt8) := [[49], [50], [50], [51], [57], [48], [42], [35]]
def RPatPost (S k : Nat) (w : World) (e : Ending) (w' : World) : Prop := ∃ x : Els, ElsOk x ∧ e = .returned (.string ⟨x.str.toArray⟩) ∧ StreamOk w' S k ∧ Keeps S w w'

set_option maxRecDepth 100000 in
set_option maxHeartbeats 2000000 in
theorem rightPattern_any (S k : Nat) (w : World) (h : StreamOk w S k) (hk : k ≤ 1000000) : Calls Tryd.prog 14 #[.pointer (some ⟨S, 0, none⟩)] w (RPatPost S (k + 6) w) := by
  have hS := h.lt
  have H := Lib.hid h
  clear h
  go_enter Tryd.func14, Tryd.ntmps14
  go_wp2_with fail
  refine (range_any S k 1 4 _ H.out (by omega) (by omega) (by omega) (by omega)).mono ?_
  rintro e w1 ⟨m, rfl, m0, m1, hst1, hkp1⟩
  obtain ⟨m, rfl⟩ := Int.eq_ofNat_of_zero_le (show 0 ≤ m by omega)
  have HST1 := Lib.hid hst1
  have HK1 := Lib.hid hkp1
  clear hst1 hkp1
  go_wp2_with fail
  go_loopw [3, 6] (fun sv it wr => ∃ (q : Nat) (els : List Nat) (st : List UInt8), q ≤ m ∧ it = .int .i64 q ∧ sv = .string ⟨st.toArray⟩ ∧ st.length ≤ 6 * q ∧ Hid (st = els.flatMap elS) ∧ Hid (els.length = q) ∧ Hid (∀ x ∈ els, x < 12) ∧ Hid (StreamOk wr S (k + 1 + q)) ∧ Hid (Keeps S w wr)) (fun _ it _ => m - (intOf it).toNat)
  case atStart => exact ⟨0, [], [], Nat.zero_le _, rfl, rfl, by simp, rfl, rfl, (fun x hx => by cases hx), HST1, HK1⟩
  case round =>
    obtain ⟨q, els, st, hq, rfl, rfl, hsl, HSS, HL, HE, HST, HK⟩ := hrel
    have zr : w.heap.size ≤ wr.heap.size := HK.out.size
    by_cases hlt : q < m
    · go_wp2_with fail
      refine (some_any S (k + 1 + q) _ 14 14 elVals (fun r => ∃ n, n < 12 ∧ r = elS n) _ (HST.out.below (ext_alloc (Below.refl _ _))) (by omega) (by simp) (by omega) (by omega) (by omega) (fun i hi => by match i, hi with | 0, _ => (first | (go_simp; done) | (go_simp; rfl)) | 1, _ => (first | (go_simp; done) | (go_simp; rfl)) | 2, _ => (first | (go_simp; done) | (go_simp; rfl)) | 3, _ => (first | (go_simp; done) | (go_simp; rfl)) | 4, _ => (first | (go_simp; done) | (go_simp; rfl)) | 5, _ => (first | (go_simp; done) | (go_simp; rfl)) | 6, _ => (first | (go_simp; done) | (go_simp; rfl)) | 7, _ => (first | (go_simp; done) | (go_simp; rfl)) | 8, _ => (first | (go_simp; done) | (go_simp; rfl)) | 9, _ => (first | (go_simp; done) | (go_simp; rfl)) | 10, _ => (first | (go_simp; done) | (go_simp; rfl)) | 11, _ => (first | (go_simp; done) | (go_simp; rfl)) | 12, _ => (first | (go_simp; done) | (go_simp; rfl)) | 13, _ => (first | (go_simp; done) | (go_simp; rfl))) (fun i hi => by match i, hi with | 0, _ => exact ⟨2, by omega, rfl⟩ | 1, _ => exact ⟨3, by omega, rfl⟩ | 2, _ => exact ⟨3, by omega, rfl⟩ | 3, _ => exact ⟨4, by omega, rfl⟩ | 4, _ => exact ⟨1, by omega, rfl⟩ | 5, _ => exact ⟨0, by omega, rfl⟩ | 6, _ => exact ⟨11, by omega, rfl⟩ | 7, _ => exact ⟨11, by omega, rfl⟩ | 8, _ => exact ⟨9, by omega, rfl⟩ | 9, _ => exact ⟨10, by omega, rfl⟩ | 10, _ => exact ⟨5, by omega, rfl⟩ | 11, _ => exact ⟨7, by omega, rfl⟩ | 12, _ => exact ⟨8, by omega, rfl⟩ | 13, _ => exact ⟨6, by omega, rfl⟩)).mono ?_
      rintro e w2 ⟨r, rfl, ⟨n, hn, rfl⟩, hst2, hkp2⟩
      have HST2 := Lib.hid hst2
      have HK2 := Lib.hid (HK.out.trans (Keeps.trans (Keeps.of_below (ext_alloc (Below.refl _ wr))) hkp2))
      clear hst2 hkp2
      have hrl := (elS_len n).2
      generalize hsg : elS n = sg at hrl ⊢
      have HSG := Lib.hid hsg
      clear hsg
      go_wp2_with fail
      go_roundw
      case rel => exact ⟨q + 1, els ++ [n], st ++ sg, by omega, by go_num, (by rw [str_app]), (by rw [List.length_append]; omega), (by show _ = _; rw [HSS.out, ← HSG.out]; simp), (by show _ = _; rw [List.length_append, HL.out]; rfl), (fun x hx => by
        rcases List.mem_append.1 hx with hx | hx
        · exact HE.out x hx
        · simp at hx; omega), HST2.out, HK2⟩
      case measure => simp [intOf]; omega
    · obtain rfl : q = m := by omega
      go_wp2_with fail
      refine (some_any S (k + 1 + q) _ 5 5 tlVals (fun r => ∃ n, 12 ≤ n ∧ n ≤ 14 ∧ r = tlS n) _ (HST.out.below (ext_alloc (Below.refl _ _))) (by omega) (by simp) (by omega) (by omega) (by omega) (fun i hi => by match i, hi with | 0, _ => (first | (go_simp; done) | (go_simp; rfl)) | 1, _ => (first | (go_simp; done) | (go_simp; rfl)) | 2, _ => (first | (go_simp; done) | (go_simp; rfl)) | 3, _ => (first | (go_simp; done) | (go_simp; rfl)) | 4, _ => (first | (go_simp; done) | (go_simp; rfl))) (fun i hi => by match i, hi with | 0, _ => exact ⟨13, by omega, by omega, rfl⟩ | 1, _ => exact ⟨13, by omega, by omega, rfl⟩ | 2, _ => exact ⟨13, by omega, by omega, rfl⟩ | 3, _ => exact ⟨12, by omega, by omega, rfl⟩ | 4, _ => exact ⟨14, by omega, by omega, rfl⟩)).mono ?_
      rintro e w2 ⟨r, rfl, ⟨n, hn0, hn1, rfl⟩, hst2, hkp2⟩
      have HST2 := Lib.hid hst2
      have HK2 := Lib.hid (HK.out.trans (Keeps.trans (Keeps.of_below (ext_alloc (Below.refl _ wr))) hkp2))
      clear hst2 hkp2
      have hrl : (tlS n).length ≤ 6 := by unfold tlS; split <;> simp
      generalize hsg : tlS n = sg at hrl ⊢
      have HSG := Lib.hid hsg
      clear hsg
      go_wp2_with fail
      go_ret
      exact ⟨⟨els, n⟩, ⟨HE.out, hn0, hn1, by show 1 ≤ els.length; rw [HL.out]; omega, by show els.length ≤ 4; rw [HL.out]; omega⟩, by rw [show Els.str ⟨els, n⟩ = els.flatMap elS ++ tlS n from rfl, HSG.out, ← HSS.out, ← str_app]; rfl, HST2.out.mono (by omega), HK2.out⟩

def RDialPost (S k : Nat) (w : World) (e : Ending) (w' : World) : Prop := ∃ d : List Nat, (∀ j, j < d.length → d.getD j 0 < 12) ∧ 1 ≤ d.length ∧ d.length ≤ 6 ∧ e = .returned (.string ⟨(d.map signN).toArray⟩) ∧ StreamOk w' S k ∧ Keeps S w w'
set_option maxRecDepth 100000 in
set_option maxHeartbeats 2000000 in
theorem rightDialled_any (S k : Nat) (w : World) (h : StreamOk w S k) (hk : k ≤ 1000000) : Calls Tryd.prog 15 #[.pointer (some ⟨S, 0, none⟩)] w (RDialPost S (k + 7) w) := by
  have hS := h.lt
  have H := Lib.hid h
  clear h
  go_enter Tryd.func15, Tryd.ntmps15
  go_wp2_with fail
  refine (range_any S k 1 6 _ H.out (by omega) (by omega) (by omega) (by omega)).mono ?_
  rintro e w1 ⟨m, rfl, m0, m1, hst1, hkp1⟩
  obtain ⟨m, rfl⟩ := Int.eq_ofNat_of_zero_le (show 0 ≤ m by omega)
  have HST1 := Lib.hid hst1
  have HK1 := Lib.hid hkp1
  clear hst1 hkp1
  go_wp2_with fail
  go_loopw [3, 6] (fun sv it wr => ∃ (q : Nat) (d : List Nat) (st : List UInt8), q ≤ m ∧ it = .int .i64 q ∧ sv = .string ⟨st.toArray⟩ ∧ st.length ≤ 6 * q ∧ Hid (st = d.map signN) ∧ Hid (d.length = q) ∧ Hid (∀ x ∈ d, x < 12) ∧ Hid (StreamOk wr S (k + 1 + q)) ∧ Hid (Keeps S w wr)) (fun _ it _ => m - (intOf it).toNat)
  case atStart => exact ⟨0, [], [], Nat.zero_le _, rfl, rfl, by simp, rfl, rfl, (fun x hx => by cases hx), HST1, HK1⟩
  case round =>
    obtain ⟨q, d, st, hq, rfl, rfl, hsl, HSS, HL, HE, HST, HK⟩ := hrel
    have zr : w.heap.size ≤ wr.heap.size := HK.out.size
    by_cases hlt : q < m
    · go_wp2_with fail
      refine (some_any S (k + 1 + q) _ 8 8 dgVals (fun r => ∃ n, n < 12 ∧ r = [signN n]) _ (HST.out.below (ext_alloc (Below.refl _ _))) (by omega) (by simp) (by omega) (by omega) (by omega) (fun i hi => by match i, hi with | 0, _ => (first | (go_simp; done) | (go_simp; rfl)) | 1, _ => (first | (go_simp; done) | (go_simp; rfl)) | 2, _ => (first | (go_simp; done) | (go_simp; rfl)) | 3, _ => (first | (go_simp; done) | (go_simp; rfl)) | 4, _ => (first | (go_simp; done) | (go_simp; rfl)) | 5, _ => (first | (go_simp; done) | (go_simp; rfl)) | 6, _ => (first | (go_simp; done) | (go_simp; rfl)) | 7, _ => (first | (go_simp; done) | (go_simp; rfl))) (fun i hi => by match i, hi with | 0, _ => exact ⟨3, by omega, rfl⟩ | 1, _ => exact ⟨4, by omega, rfl⟩ | 2, _ => exact ⟨4, by omega, rfl⟩ | 3, _ => exact ⟨5, by omega, rfl⟩ | 4, _ => exact ⟨11, by omega, rfl⟩ | 5, _ => exact ⟨2, by omega, rfl⟩ | 6, _ => exact ⟨1, by omega, rfl⟩ | 7, _ => exact ⟨0, by omega, rfl⟩)).mono ?_
      rintro e w2 ⟨r, rfl, ⟨n, hn, rfl⟩, hst2, hkp2⟩
      have HST2 := Lib.hid hst2
      have HK2 := Lib.hid (HK.out.trans (Keeps.trans (Keeps.of_below (ext_alloc (Below.refl _ wr))) hkp2))
      clear hst2 hkp2
      have hrl : ([signN n] : List UInt8).length ≤ 6 := by simp
      generalize hsg : [signN n] = sg at hrl ⊢
      have HSG := Lib.hid hsg
      clear hsg
      go_wp2_with fail
      go_roundw
      case rel => exact ⟨q + 1, d ++ [n], st ++ sg, by omega, by go_num, (by rw [str_app]), (by rw [List.length_append]; omega), (by show _ = _; rw [HSS.out, ← HSG.out]; simp), (by show _ = _; rw [List.length_append, HL.out]; rfl), (fun x hx => by
        rcases List.mem_append.1 hx with hx | hx
        · exact HE.out x hx
        · simp at hx; omega), HST2.out, HK2⟩
      case measure => simp [intOf]; omega
    · obtain rfl : q = m := by omega
      go_wp2_with fail
      go_ret
      exact ⟨d, fun j hj => by rw [List.getD_eq_getElem?_getD, List.getElem?_eq_getElem hj]; exact HE.out _ (List.getElem_mem hj), by rw [HL.out]; omega, by rw [HL.out]; omega, by rw [← HSS.out]; rfl, HST.out.mono (by omega), HK.out⟩
end Go.Proofs.YtkfflafhlgephaaDoor
