/- What is proved here: what takes, begins, isDialled and Matches of package dialplan answer. Condition: the pattern lies in memory as stated. -/
import Derived.Test.YtkfflafhlgephaaDoorPatRead
set_option linter.unusedVariables false
set_option linter.unusedSimpArgs false
namespace Go.Proofs.YtkfflafhlgephaaDoor
open Go.RowKit

set_option maxRecDepth 100000 in
set_option maxHeartbeats 1000000 in
theorem takes_any (w : World) (a : Option Addr) (n cap : Nat) (p : Pat) (h : PatAt w a n p) (hp : PatOk p) (i : Nat) (hi : i ≤ 1000) :
    Calls Tryd.prog 81 #[patVal a n cap p, .int .i64 i] w fun e w' => e = .returned (.tuple #[.int .u16 (p.at_ i), .bool (p.fin i)]) ∧ Below w.heap.size w w' := by
  have hn : n ≤ 4 := by have := hp.len; have := h.len; omega
  unfold patVal
  by_cases hlt : i < n
  · have e1 : p.at_ i = p.sets.getD i 0 := by unfold Pat.at_; rw [if_pos (by rw [← h.len]; exact hlt)]
    have e2 : p.fin i = false := by unfold Pat.fin; rw [if_pos (by rw [← h.len]; exact hlt)]
    rcases h.row with h0 | ⟨g, rfl, hg, hc⟩
    · omega
    have c0 := hc i hlt
    rw [e1, e2]
    clear e1 e2 hc h
    generalize p.sets.getD i 0 = m at c0 ⊢
    go_enter Tryd.func81, Tryd.ntmps81
    go_wp2_with fail
    go_ret2
    exact ⟨rfl, (by (try show Below _ _ _); repeat (with_reducible first | exact Below.refl _ _ | assumption | exact Hid.out (by assumption) | refine ext_alloc ?_ | refine ext_drewN ?_ | refine ext_drew ?_ | refine ext_setCell ?_ (Nat.le_refl _) | refine ext_setCell ?_ (Nat.le_succ _) | refine ext_trans ?_ (by assumption) | (refine ext_setCell ?_ (by simp)) | (refine ext_setCell ?_ (by simp at *; omega))))⟩
  · have hlt2 : ¬ i < p.sets.length := by rw [← h.len]; exact hlt
    have e1 : p.at_ i = if p.tail = 0 then 0 else 4095 := by unfold Pat.at_; rw [if_neg hlt2]
    have e2 : p.fin i = if p.tail = 46 then decide (n < i) else if p.tail = 33 then true else decide (i = n) := by unfold Pat.fin; rw [if_neg hlt2, ← h.len]
    rcases hp.tail with ht | ht | ht
    · rw [ht] at e1 e2 ⊢
      rw [e1, e2]
      clear e1 e2 ht h
      have hni : ¬ (i : Int) < n := by omega
      go_enter Tryd.func81, Tryd.ntmps81
      go_wp2_with fail
      go_quiet (fail)
      go_wp2_with fail
      go_ret2
      refine ⟨?_, (by (try show Below _ _ _); repeat (with_reducible first | exact Below.refl _ _ | assumption | exact Hid.out (by assumption) | refine ext_alloc ?_ | refine ext_drewN ?_ | refine ext_drew ?_ | refine ext_setCell ?_ (Nat.le_refl _) | refine ext_setCell ?_ (Nat.le_succ _) | refine ext_trans ?_ (by assumption) | (refine ext_setCell ?_ (by simp)) | (refine ext_setCell ?_ (by simp at *; omega))))⟩
      simp
      rw [Bool.eq_iff_iff]; simp; omega
    · rw [ht] at e1 e2 ⊢
      rw [e1, e2]
      clear e1 e2 ht h
      have hni : ¬ (i : Int) < n := by omega
      go_enter Tryd.func81, Tryd.ntmps81
      go_wp2_with fail
      go_quiet (fail)
      go_wp2_with fail
      go_ret2
      refine ⟨?_, (by (try show Below _ _ _); repeat (with_reducible first | exact Below.refl _ _ | assumption | exact Hid.out (by assumption) | refine ext_alloc ?_ | refine ext_drewN ?_ | refine ext_drew ?_ | refine ext_setCell ?_ (Nat.le_refl _) | refine ext_setCell ?_ (Nat.le_succ _) | refine ext_trans ?_ (by assumption) | (refine ext_setCell ?_ (by simp)) | (refine ext_setCell ?_ (by simp at *; omega))))⟩
      simp
    · rw [ht] at e1 e2 ⊢
      rw [e1, e2]
      clear e1 e2 ht h
      have hni : ¬ (i : Int) < n := by omega
      go_enter Tryd.func81, Tryd.ntmps81
      go_wp2_with fail
      go_ret2
      refine ⟨?_, (by (try show Below _ _ _); repeat (with_reducible first | exact Below.refl _ _ | assumption | exact Hid.out (by assumption) | refine ext_alloc ?_ | refine ext_drewN ?_ | refine ext_drew ?_ | refine ext_setCell ?_ (Nat.le_refl _) | refine ext_setCell ?_ (Nat.le_succ _) | refine ext_trans ?_ (by assumption) | (refine ext_setCell ?_ (by simp)) | (refine ext_setCell ?_ (by simp at *; omega))))⟩
      simp

theorem u16_and (m i : Nat) (hm : m < 4096) (hi : i < 12) : bits BinOp.and IntKind.u16 (m : Int) ((2 ^ i : Nat) : Int) = if m.testBit i then ((2 ^ i : Nat) : Int) else 0 := by
  have hb : m &&& 2 ^ i = if m.testBit i then 2 ^ i else 0 := by
    apply Nat.eq_of_testBit_eq
    intro j
    rw [Nat.testBit_and, Nat.testBit_two_pow]
    by_cases hij : i = j
    · subst hij
      cases hb : m.testBit i
      · simp
      · simp [Nat.testBit_two_pow]
    · cases m.testBit i <;> simp [hij, Nat.testBit_two_pow]
  have hpow : 2 ^ i < 4096 := Nat.pow_lt_pow_right (a := 2) (by omega) (show i < 12 from hi)
  show IntKind.u16.wrap (((BitVec.ofInt 16 m &&& BitVec.ofInt 16 ((2 ^ i : Nat) : Int)).toNat : Nat) : Int) = _
  rw [BitVec.toNat_and, BitVec.ofInt_natCast, BitVec.ofInt_natCast, BitVec.toNat_ofNat, BitVec.toNat_ofNat, Nat.mod_eq_of_lt (by omega), Nat.mod_eq_of_lt (by omega), hb, IntKind.wrap_u16]
  generalize 2 ^ i = pw at *
  split <;> omega

def BeginsPost (b : Bool) (w : World) (e : Ending) (w' : World) : Prop := ∃ x : Bool, e = .returned (.tuple #[.bool x, .bool b]) ∧ Below w.heap.size w w'
theorem match_no {p : Pat} {d : List Nat} {k : Nat} (hk : k < d.length) (h : (p.at_ k).testBit (d.getD k 0) = false) : matchB p d = false := by
  cases hm : matchB p d
  · rfl
  · rw [(matchB_iff.1 hm).1 k hk] at h; cases h
theorem match_yes {p : Pat} {d : List Nat} (h : ∀ i, i < d.length → (p.at_ i).testBit (d.getD i 0) = true) : matchB p d = p.fin d.length := by
  cases hm : p.fin d.length
  · cases hq : matchB p d
    · rfl
    · rw [(matchB_iff.1 hq).2] at hm; cases hm
  · exact matchB_iff.2 ⟨h, hm⟩

def boxP (a : Option Addr) (n cap : Nat) (t : Nat) : Obj := .cells #[.slice a n cap, .int .u8 t] 95
set_option maxRecDepth 100000 in
set_option maxHeartbeats 2000000 in
theorem begins_any (w : World) (a : Option Addr) (n cap : Nat) (p : Pat) (h : PatAt w a n p) (hp : PatOk p) (s : ByteArray) (d : List Nat) (hs : s.data.toList = d.map signN) (hd : ∀ j, j < d.length → d.getD j 0 < 12) (hl : d.length ≤ 100) :
    Calls Tryd.prog 43 #[patVal a n cap p, .string s] w (BeginsPost (matchB p d) w) := by
  have hsz : s.size = d.length := by
    show s.data.size = _
    rw [← Array.length_toList, hs, List.length_map]
  have HP := Lib.hid h
  have HOK := Lib.hid hp
  have HS := Lib.hid hs
  have HD := Lib.hid hd
  have HSZ := Lib.hid hsz
  have hl2 : s.size ≤ 100 := by omega
  have HPV : Hid (∀ x, Value.agg #[.slice a n cap, .int .u8 x] = Value.agg #[.slice a n cap, .int .u8 x]) := fun x => rfl
  clear h hp hs hd hsz
  unfold patVal
  go_enter Tryd.func43, Tryd.ntmps43
  go_wp2_with fail
  go_loopw [12] (fun it wr => ∃ k : Nat, k ≤ s.size ∧ it = .int .i64 k ∧ Hid (∀ i, i < k → (p.at_ i).testBit (d.getD i 0) = true) ∧ Hid (Below (w.alloc (boxP a n cap p.tail)).heap.size (w.alloc (boxP a n cap p.tail)) wr)) (fun it _ => s.size - (intOf it).toNat)
  case atStart => exact ⟨0, Nat.zero_le _, rfl, (fun i hi => by omega), Below.refl _ _⟩
  case round =>
    obtain ⟨k, hk, rfl, HALL, HB⟩ := hrel
    have c0 := (HB.out.cell (p := ⟨w.heap.size, 0, none⟩) (by simp)).trans (show _ = some (.slice a n cap) by unfold boxP; go_simp)
    have c1 := (HB.out.cell (p := ⟨w.heap.size, 1, none⟩) (by simp)).trans (show _ = some (.int .u8 p.tail) by unfold boxP; go_simp)
    have HBW : Hid (Below w.heap.size w wr) := ext_trans (ext_alloc (Below.refl _ _)) HB.out
    have HPk := Lib.hid (HP.out.below HBW.out)
    by_cases hlt : k < s.size
    · have hkd : k < d.length := by rw [← HSZ.out]; exact hlt
      have hdk := HD.out k hkd
      have x0 : (s[k]'hlt).toNat = (signN (d.getD k 0)).toNat := byte_at s k _ hlt (by rw [HS.out, List.getElem?_map, List.getElem?_eq_getElem hkd]; simp [List.getD_eq_getElem?_getD, List.getElem?_eq_getElem hkd])
      have hat := Pat.at_lt HOK.out k
      have HMN : Hid ((p.at_ k).testBit (d.getD k 0) = false → matchB p d = false) := match_no hkd
      have HNX : Hid ((p.at_ k).testBit (d.getD k 0) = true → ∀ i, i < k + 1 → (p.at_ i).testBit (d.getD i 0) = true) := fun e i hi => by
        by_cases h9 : i = k
        · subst h9; exact e
        · exact HALL.out i (by omega)
      have hand := u16_and (p.at_ k) (d.getD k 0) hat hdk
      have HOA : Hid (∀ w, Calls Tryd.prog 84 #[.int .u8 (signN (d.getD k 0)).toNat] w fun e w' => e = .returned (.int .u16 ((2 ^ (d.getD k 0) : Nat) : Int)) ∧ w = w') := fun w => only_at _ hdk w
      have hpos : 0 < 2 ^ (d.getD k 0) := Nat.pow_pos (by omega)
      generalize (signN (d.getD k 0)).toNat = c at x0 HOA
      generalize 2 ^ (d.getD k 0) = pw at hand HOA hpos
      go_wp2_with fail
      refine (takes_any _ a n cap p HPk.out HOK.out k (by omega)).mono ?_
      rintro e w1 ⟨rfl, hB1⟩
      have HB1 := Lib.hid (HB.out.trans (hB1.mono (HB.out.size)))
      have HBW1 := Lib.hid (ext_trans HBW.out hB1)
      clear hB1 c0 c1
      generalize p.at_ k = m at hand hat HMN HNX
      generalize p.fin k = fk
      cases htb : m.testBit (d.getD k 0)
      · rw [htb] at hand
        simp only [Bool.false_eq_true, if_false] at hand
        have HF := Lib.hid (HMN.out htb)
        clear htb HMN HNX
        go_wp2_with (go_at_call 84; refine (HOA.out _).mono ?_; rintro e w' ⟨rfl, rfl⟩)
        go_ret2
        exact ⟨false, by rw [HF.out]; rfl, HBW1.out⟩
      · rw [htb, if_pos rfl] at hand
        have hne : ((pw : Int) == 0) = false := by simp; omega
        have HN := Lib.hid (HNX.out htb)
        clear htb HMN HNX
        go_wp2_with (go_at_call 84; refine (HOA.out _).mono ?_; rintro e w' ⟨rfl, rfl⟩)
        go_roundw
        case rel => exact ⟨k + 1, by omega, by go_num, HN, HB1⟩
        case measure => simp [intOf]; omega
    · obtain rfl : k = s.size := by omega
      have HFIN : Hid (matchB p d = p.fin s.size) := by
        show _ = _
        rw [HSZ.out]
        exact match_yes (fun i hi => HALL.out i (by rw [HSZ.out]; exact hi))
      have hat := Pat.at_lt HOK.out s.size
      go_wp2_with fail
      refine (takes_any _ a n cap p HPk.out HOK.out s.size (by omega)).mono ?_
      rintro e w1 ⟨rfl, hB1⟩
      have HBW1 := Lib.hid (ext_trans HBW.out hB1)
      clear hB1 c0 c1
      generalize p.at_ s.size = m at hat ⊢
      generalize p.fin s.size = fk at HFIN ⊢
      by_cases hm : m = 0
      · subst hm
        go_wp2_with fail
        go_ret2
        exact ⟨fk, by rw [HFIN.out]; rfl, HBW1.out⟩
      · have hm2 : ((m : Int) != 0) = true := by simp; exact hm
        clear hm
        go_wp2_with fail
        go_ret2
        exact ⟨true, by rw [HFIN.out]; rfl, HBW1.out⟩

/-! ### What is dialled -/
theorem drop_all (l cs : List UInt8) (h : ∀ c ∈ l, c ∈ cs) : l.dropWhile (cs.contains ·) = [] := by
  induction l with
  | nil => rfl
  | cons x l ih =>
    have hx : cs.contains x = true := by simpa using h x (by simp)
    rw [List.dropWhile_cons, if_pos hx]
    exact ih (fun c hc => h c (by simp [hc]))
theorem trim_all (l cs : List UInt8) (h : ∀ c ∈ l, c ∈ cs) : Lib.trimS l cs = [] := by
  unfold Lib.trimS Lib.trimRightS Lib.trimLeftS
  rw [drop_all l.reverse cs (fun c hc => h c (by simpa using hc))]
  rfl
theorem trim_signs (s : ByteArray) (w : World) (hs : s.size ≤ 1000) (h : ∀ c ∈ s.data.toList, c ∈ signsL) :
    Calls Tryd.prog 83 #[.string s, .string ⟨#[35, 42, 48, 49, 50, 51, 52, 53, 54, 55, 56, 57]⟩] w fun e w' => e = .returned (.string ⟨#[]⟩) ∧ Below w.heap.size w w' := by
  have := Tryd.strings_Trim_set s ⟨#[35, 42, 48, 49, 50, 51, 52, 53, 54, 55, 56, 57]⟩ w (by omega) (by decide) (by
    intro j b hj
    have hm := List.mem_of_getElem? hj
    have : ∀ b ∈ signsL, b.toNat < 128 := by decide
    exact this b hm)
  have e : Lib.trimS s.data.toList signsL = [] := trim_all _ _ h
  have e2 : Lib.trimS s.data.toList (⟨#[35, 42, 48, 49, 50, 51, 52, 53, 54, 55, 56, 57]⟩ : ByteArray).data.toList = [] := e
  rw [e2] at this
  exact this
theorem sign_mem (d : List Nat) (hd : ∀ j, j < d.length → d.getD j 0 < 12) : ∀ c ∈ d.map signN, c ∈ signsL := by
  intro c hc
  obtain ⟨i, hi, rfl⟩ := List.mem_map.1 hc
  obtain ⟨j, hj, rfl⟩ := List.getElem_of_mem hi
  have := hd j hj
  rw [List.getD_eq_getElem?_getD, List.getElem?_eq_getElem hj, Option.getD_some] at this
  unfold signN
  rw [List.getD_eq_getElem?_getD, List.getElem?_eq_getElem (show d[j] < signsL.length from this)]
  exact List.getElem_mem _

set_option maxHeartbeats 1000000 in
theorem isDialled_yes (w : World) (s : ByteArray) (d : List Nat) (hs : s.data.toList = d.map signN) (hd : ∀ j, j < d.length → d.getD j 0 < 12) (h1 : 1 ≤ d.length) (h2 : d.length ≤ 30) :
    Calls Tryd.prog 42 #[.string s, .int .i64 1] w fun e w' => e = .returned (.bool true) ∧ Below w.heap.size w w' := by
  have hsz : s.size = d.length := by
    show s.data.size = _
    rw [← Array.length_toList, hs, List.length_map]
  have z1 : 1 ≤ s.size := by omega
  have z2 : s.size ≤ 30 := by omega
  have HT : Hid (∀ w, Calls Tryd.prog 83 #[.string s, .string ⟨#[35, 42, 48, 49, 50, 51, 52, 53, 54, 55, 56, 57]⟩] w fun e w' => e = .returned (.string ⟨#[]⟩) ∧ Below w.heap.size w w') := fun w => trim_signs s w (by omega) (by rw [hs]; exact sign_mem d hd)
  clear hs hd hsz h1 h2
  go_enter Tryd.func42, Tryd.ntmps42
  go_wp2_with fail
  refine (HT.out _).mono ?_
  rintro e w1 ⟨rfl, hB1⟩
  go_wp2_with fail
  go_ret
  exact ⟨rfl, hB1⟩

set_option maxRecDepth 100000 in
set_option maxHeartbeats 1000000 in
theorem matches_any (w : World) (e : Els) (he : ElsOk e) (str : ByteArray) (hstr : str.data.toList = e.str) (s : ByteArray) (d : List Nat) (hs : s.data.toList = d.map signN) (hd : ∀ j, j < d.length → d.getD j 0 < 12) (h1 : 1 ≤ d.length) (h2 : d.length ≤ 30) :
    Calls Tryd.prog 18 #[.string str, .string s] w fun e1 w' => e1 = .returned (.tuple #[.bool (matchB e.pat d), .int .i64 0]) ∧ Below w.heap.size w w' := by
  have HE := Lib.hid he
  have HST := Lib.hid hstr
  have HS := Lib.hid hs
  have HD := Lib.hid hd
  clear he hstr hs hd
  go_enter Tryd.func18, Tryd.ntmps18
  go_wp2_with fail
  refine (read_any _ e HE.out str HST.out).mono ?_
  rintro e1 w1 ⟨a, n, cap, rfl, hp, hb1⟩
  have HP := Lib.hid hp
  have HB1 := Lib.hid hb1
  clear hp hb1
  unfold patVal
  go_wp2_with fail
  refine (isDialled_yes _ s d HS.out HD.out h1 h2).mono ?_
  rintro e1 w2 ⟨rfl, hb2⟩
  have HB2 := Lib.hid (ext_trans (ext_alloc (Below.refl _ w1)) hb2)
  have c0 := (hb2.cell (p := ⟨w1.heap.size, 0, none⟩) (by simp)).trans (show _ = some (.slice a n cap) by go_simp)
  have c1 := (hb2.cell (p := ⟨w1.heap.size, 1, none⟩) (by simp)).trans (show _ = some (.int .u8 e.pat.tail) by go_simp)
  clear hb2
  go_wp2_with fail
  refine (begins_any _ a n cap e.pat (HP.out.below HB2.out) (Els.ok HE.out) s d HS.out HD.out (by omega)).mono ?_
  rintro e1 w3 ⟨x, rfl, hb3⟩
  have HB3 := Lib.hid (ext_trans (ext_trans HB1.out HB2.out) hb3)
  clear hb3
  go_wp2_with fail
  go_ret2
  exact ⟨rfl, HB3.out⟩
end Go.Proofs.YtkfflafhlgephaaDoor
