/- What is proved here: what shared, Shared and Least of package dialplan answer. Condition: the patterns lie in memory as stated, and a table of the library as its initialiser lays it. -/
import Derived.Test.YtkfflafhlgephaaDoorPatBefore
set_option linter.unusedVariables false
set_option linter.unusedSimpArgs false
namespace Go.Proofs.YtkfflafhlgephaaDoor
open Go.RowKit

theorem zeros_at_0 (m : Nat) (hm : m ≠ 0) (hb : bits BinOp.and IntKind.u16 (m : Int) (IntKind.u16.wrap (-(m : Int))) = 1) (w : World) (h : TabAt w) : Calls Tryd.prog 82 #[.int .u16 m] w fun e w' => e = .returned (.int .i64 0) ∧ w = w' := by
  have hc : w.cell? ⟨0, 0, none⟩ = some (.int .u8 0) := h.2 0 (by omega)
  have hz : ((m : Int) == 0) = false := by simp; exact hm
  clear h hm
  go_enter Tryd.func82, Tryd.ntmps82
  go_wp2
  go_ret
  exact ⟨rfl, rfl⟩
theorem zeros_at_1 (m : Nat) (hm : m ≠ 0) (hb : bits BinOp.and IntKind.u16 (m : Int) (IntKind.u16.wrap (-(m : Int))) = 2) (w : World) (h : TabAt w) : Calls Tryd.prog 82 #[.int .u16 m] w fun e w' => e = .returned (.int .i64 1) ∧ w = w' := by
  have hc : w.cell? ⟨0, 1, none⟩ = some (.int .u8 1) := h.2 1 (by omega)
  have hz : ((m : Int) == 0) = false := by simp; exact hm
  clear h hm
  go_enter Tryd.func82, Tryd.ntmps82
  go_wp2
  go_ret
  exact ⟨rfl, rfl⟩
theorem zeros_at_2 (m : Nat) (hm : m ≠ 0) (hb : bits BinOp.and IntKind.u16 (m : Int) (IntKind.u16.wrap (-(m : Int))) = 4) (w : World) (h : TabAt w) : Calls Tryd.prog 82 #[.int .u16 m] w fun e w' => e = .returned (.int .i64 2) ∧ w = w' := by
  have hc : w.cell? ⟨0, 3, none⟩ = some (.int .u8 2) := h.2 3 (by omega)
  have hz : ((m : Int) == 0) = false := by simp; exact hm
  clear h hm
  go_enter Tryd.func82, Tryd.ntmps82
  go_wp2
  go_ret
  exact ⟨rfl, rfl⟩
theorem zeros_at_3 (m : Nat) (hm : m ≠ 0) (hb : bits BinOp.and IntKind.u16 (m : Int) (IntKind.u16.wrap (-(m : Int))) = 8) (w : World) (h : TabAt w) : Calls Tryd.prog 82 #[.int .u16 m] w fun e w' => e = .returned (.int .i64 3) ∧ w = w' := by
  have hc : w.cell? ⟨0, 7, none⟩ = some (.int .u8 3) := h.2 7 (by omega)
  have hz : ((m : Int) == 0) = false := by simp; exact hm
  clear h hm
  go_enter Tryd.func82, Tryd.ntmps82
  go_wp2
  go_ret
  exact ⟨rfl, rfl⟩
theorem zeros_at_4 (m : Nat) (hm : m ≠ 0) (hb : bits BinOp.and IntKind.u16 (m : Int) (IntKind.u16.wrap (-(m : Int))) = 16) (w : World) (h : TabAt w) : Calls Tryd.prog 82 #[.int .u16 m] w fun e w' => e = .returned (.int .i64 4) ∧ w = w' := by
  have hc : w.cell? ⟨0, 14, none⟩ = some (.int .u8 4) := h.2 14 (by omega)
  have hz : ((m : Int) == 0) = false := by simp; exact hm
  clear h hm
  go_enter Tryd.func82, Tryd.ntmps82
  go_wp2
  go_ret
  exact ⟨rfl, rfl⟩
theorem zeros_at_5 (m : Nat) (hm : m ≠ 0) (hb : bits BinOp.and IntKind.u16 (m : Int) (IntKind.u16.wrap (-(m : Int))) = 32) (w : World) (h : TabAt w) : Calls Tryd.prog 82 #[.int .u16 m] w fun e w' => e = .returned (.int .i64 5) ∧ w = w' := by
  have hc : w.cell? ⟨0, 29, none⟩ = some (.int .u8 5) := h.2 29 (by omega)
  have hz : ((m : Int) == 0) = false := by simp; exact hm
  clear h hm
  go_enter Tryd.func82, Tryd.ntmps82
  go_wp2
  go_ret
  exact ⟨rfl, rfl⟩
theorem zeros_at_6 (m : Nat) (hm : m ≠ 0) (hb : bits BinOp.and IntKind.u16 (m : Int) (IntKind.u16.wrap (-(m : Int))) = 64) (w : World) (h : TabAt w) : Calls Tryd.prog 82 #[.int .u16 m] w fun e w' => e = .returned (.int .i64 6) ∧ w = w' := by
  have hc : w.cell? ⟨0, 27, none⟩ = some (.int .u8 6) := h.2 27 (by omega)
  have hz : ((m : Int) == 0) = false := by simp; exact hm
  clear h hm
  go_enter Tryd.func82, Tryd.ntmps82
  go_wp2
  go_ret
  exact ⟨rfl, rfl⟩
theorem zeros_at_7 (m : Nat) (hm : m ≠ 0) (hb : bits BinOp.and IntKind.u16 (m : Int) (IntKind.u16.wrap (-(m : Int))) = 128) (w : World) (h : TabAt w) : Calls Tryd.prog 82 #[.int .u16 m] w fun e w' => e = .returned (.int .i64 7) ∧ w = w' := by
  have hc : w.cell? ⟨0, 23, none⟩ = some (.int .u8 7) := h.2 23 (by omega)
  have hz : ((m : Int) == 0) = false := by simp; exact hm
  clear h hm
  go_enter Tryd.func82, Tryd.ntmps82
  go_wp2
  go_ret
  exact ⟨rfl, rfl⟩
theorem zeros_at_8 (m : Nat) (hm : m ≠ 0) (hb : bits BinOp.and IntKind.u16 (m : Int) (IntKind.u16.wrap (-(m : Int))) = 256) (w : World) (h : TabAt w) : Calls Tryd.prog 82 #[.int .u16 m] w fun e w' => e = .returned (.int .i64 8) ∧ w = w' := by
  have hc : w.cell? ⟨0, 15, none⟩ = some (.int .u8 8) := h.2 15 (by omega)
  have hz : ((m : Int) == 0) = false := by simp; exact hm
  clear h hm
  go_enter Tryd.func82, Tryd.ntmps82
  go_wp2
  go_ret
  exact ⟨rfl, rfl⟩
theorem zeros_at_9 (m : Nat) (hm : m ≠ 0) (hb : bits BinOp.and IntKind.u16 (m : Int) (IntKind.u16.wrap (-(m : Int))) = 512) (w : World) (h : TabAt w) : Calls Tryd.prog 82 #[.int .u16 m] w fun e w' => e = .returned (.int .i64 9) ∧ w = w' := by
  have hc : w.cell? ⟨0, 31, none⟩ = some (.int .u8 9) := h.2 31 (by omega)
  have hz : ((m : Int) == 0) = false := by simp; exact hm
  clear h hm
  go_enter Tryd.func82, Tryd.ntmps82
  go_wp2
  go_ret
  exact ⟨rfl, rfl⟩
theorem zeros_at_10 (m : Nat) (hm : m ≠ 0) (hb : bits BinOp.and IntKind.u16 (m : Int) (IntKind.u16.wrap (-(m : Int))) = 1024) (w : World) (h : TabAt w) : Calls Tryd.prog 82 #[.int .u16 m] w fun e w' => e = .returned (.int .i64 10) ∧ w = w' := by
  have hc : w.cell? ⟨0, 30, none⟩ = some (.int .u8 10) := h.2 30 (by omega)
  have hz : ((m : Int) == 0) = false := by simp; exact hm
  clear h hm
  go_enter Tryd.func82, Tryd.ntmps82
  go_wp2
  go_ret
  exact ⟨rfl, rfl⟩
theorem zeros_at_11 (m : Nat) (hm : m ≠ 0) (hb : bits BinOp.and IntKind.u16 (m : Int) (IntKind.u16.wrap (-(m : Int))) = 2048) (w : World) (h : TabAt w) : Calls Tryd.prog 82 #[.int .u16 m] w fun e w' => e = .returned (.int .i64 11) ∧ w = w' := by
  have hc : w.cell? ⟨0, 28, none⟩ = some (.int .u8 11) := h.2 28 (by omega)
  have hz : ((m : Int) == 0) = false := by simp; exact hm
  clear h hm
  go_enter Tryd.func82, Tryd.ntmps82
  go_wp2
  go_ret
  exact ⟨rfl, rfl⟩
theorem low_bits : ∀ h : Nat, h < 32 → ∀ l : Nat, l < 128 → (128 * h + l) = 0 ∨ bits BinOp.and IntKind.u16 ((128 * h + l : Nat) : Int) (IntKind.u16.wrap (-((128 * h + l : Nat) : Int))) = ((2 ^ tzN (128 * h + l) : Nat) : Int) := by decide +kernel
theorem low_bit (m : Nat) (hm : m < 4096) : m = 0 ∨ bits BinOp.and IntKind.u16 (m : Int) (IntKind.u16.wrap (-(m : Int))) = ((2 ^ tzN m : Nat) : Int) := by
  have h := low_bits (m / 128) (by omega) (m % 128) (by omega)
  rw [show 128 * (m / 128) + m % 128 = m by omega] at h
  exact h
theorem zeros_any (m : Nat) (h0 : m ≠ 0) (h1 : m < 4096) (w : World) (h : TabAt w) : Calls Tryd.prog 82 #[.int .u16 m] w fun e w' => e = .returned (.int .i64 (tzN m)) ∧ w = w' := by
  have hb := (low_bit m h1).resolve_left h0
  have ht := (tz_bit h0 h1).2.1
  generalize tzN m = t at hb ht ⊢
  match t, ht with
  | 0, _ => exact zeros_at_0 m h0 hb w h
  | 1, _ => exact zeros_at_1 m h0 hb w h
  | 2, _ => exact zeros_at_2 m h0 hb w h
  | 3, _ => exact zeros_at_3 m h0 hb w h
  | 4, _ => exact zeros_at_4 m h0 hb w h
  | 5, _ => exact zeros_at_5 m h0 hb w h
  | 6, _ => exact zeros_at_6 m h0 hb w h
  | 7, _ => exact zeros_at_7 m h0 hb w h
  | 8, _ => exact zeros_at_8 m h0 hb w h
  | 9, _ => exact zeros_at_9 m h0 hb w h
  | 10, _ => exact zeros_at_10 m h0 hb w h
  | 11, _ => exact zeros_at_11 m h0 hb w h

theorem u16_and2 (x y : Nat) (hx : x < 4096) (hy : y < 4096) : bits BinOp.and IntKind.u16 (x : Int) (y : Int) = ((x &&& y : Nat) : Int) := by
  have hle : x &&& y ≤ x := Nat.and_le_left
  show IntKind.u16.wrap (((BitVec.ofInt 16 x &&& BitVec.ofInt 16 y).toNat : Nat) : Int) = _
  rw [BitVec.toNat_and, BitVec.ofInt_natCast, BitVec.ofInt_natCast, BitVec.toNat_ofNat, BitVec.toNat_ofNat, Nat.mod_eq_of_lt (by omega), Nat.mod_eq_of_lt (by omega), IntKind.wrap_u16]
  generalize x &&& y = z at *
  omega

/-- Patterns in a row. -/
structure PatV where
  a : Option Addr
  n : Nat
  cap : Nat
  p : Pat
def noPatV : PatV := ⟨none, 0, 0, ⟨[], 0⟩⟩
structure PatsAt (w : World) (q : Nat) (l : List PatV) : Prop where
  lt : q < w.heap.size
  c0 : ∀ i, i < l.length → w.cell? ⟨q, i * 2, none⟩ = some (.slice (l.getD i noPatV).a (l.getD i noPatV).n (l.getD i noPatV).cap)
  c1 : ∀ i, i < l.length → w.cell? ⟨q, i * 2 + 1, none⟩ = some (.int .u8 (l.getD i noPatV).p.tail)
  each : ∀ i, i < l.length → PatAt w (l.getD i noPatV).a (l.getD i noPatV).n (l.getD i noPatV).p ∧ PatOk (l.getD i noPatV).p
theorem PatsAt.below {w w' : World} {q : Nat} {l : List PatV} (h : PatsAt w q l) (hb : Below w.heap.size w w') : PatsAt w' q l :=
  ⟨Nat.lt_of_lt_of_le h.lt hb.size, fun i hi => (hb.cell (p := ⟨q, i * 2, none⟩) h.lt).trans (h.c0 i hi), fun i hi => (hb.cell (p := ⟨q, i * 2 + 1, none⟩) h.lt).trans (h.c1 i hi), fun i hi => ⟨(h.each i hi).1.below hb, (h.each i hi).2⟩⟩
def patsOf (l : List PatV) : List Pat := l.map PatV.p

theorem take_getD (l : List PatV) (i : Nat) (hi : i < l.length) : (patsOf l).take (i + 1) = (patsOf l).take i ++ [(l.getD i noPatV).p] := by
  unfold patsOf
  rw [List.take_succ_eq_append_getElem (by simpa using hi)]
  simp [List.getD_eq_getElem?_getD, List.getElem?_eq_getElem hi]
theorem all_succ (l : List PatV) (i k : Nat) (hi : i < l.length) : allAt ((patsOf l).take (i + 1)) k = allAt ((patsOf l).take i) k &&& ((l.getD i noPatV).p).at_ k := by
  rw [take_getD l i hi]
  unfold allAt
  rw [List.foldl_append]
  rfl
def finTo (l : List PatV) (i k : Nat) : Bool := decide (0 < k) && ((patsOf l).take i).all (fun p => p.fin k)
theorem fin_succ (l : List PatV) (i k : Nat) (hi : i < l.length) : finTo l (i + 1) k = (finTo l i k && ((l.getD i noPatV).p).fin k) := by
  unfold finTo
  rw [take_getD l i hi, List.all_append, Bool.and_assoc]
  simp
theorem patsOf_len (l : List PatV) : (patsOf l).length = l.length := by simp [patsOf]

/-- What shared answers. -/
def shareV (x : Option (List Nat)) : Value := match x with | some d => .tuple #[.string ⟨(d.map signN).toArray⟩, .bool true] | none => .tuple #[.string ⟨#[]⟩, .bool false]
def SharePost (x : Option (List Nat)) (w : World) (e : Ending) (w' : World) : Prop := e = .returned (shareV x) ∧ Below w.heap.size w w'

theorem share_step (l : List Pat) (f k : Nat) (acc : List Nat) (x : Option (List Nat)) (hx : x = (shareGo l (f + 1) k).map (acc ++ ·)) :
    (finAt l k = true → x = some acc) ∧ (finAt l k = false → allAt l k = 0 → x = none) ∧ (finAt l k = false → allAt l k ≠ 0 → x = (shareGo l f (k + 1)).map ((acc ++ [tzN (allAt l k)]) ++ ·)) := by
  unfold shareGo at hx
  refine ⟨fun h => ?_, fun h h0 => ?_, fun h h0 => ?_⟩
  · rw [if_pos h] at hx; simpa using hx
  · rw [if_neg (by rw [h]; simp), if_pos h0] at hx; simpa using hx
  · rw [if_neg (by rw [h]; simp), if_neg h0] at hx
    rw [hx, Option.map_map]
    congr 1
    funext y
    simp

def signV (i : Nat) : Value := .int .u8 (signN i).toNat
theorem sign_ba (t : Nat) (ht : t < 12) : ∀ h, ((⟨#[35, 42, 48, 49, 50, 51, 52, 53, 54, 55, 56, 57]⟩ : ByteArray)[t]'h).toNat = (signN t).toNat := by
  intro h
  match t, ht with
  | 0, _ | 1, _ | 2, _ | 3, _ | 4, _ | 5, _ | 6, _ | 7, _ | 8, _ | 9, _ | 10, _ | 11, _ => rfl

set_option maxRecDepth 100000 in
set_option maxHeartbeats 4000000 in
theorem shared_any (w : World) (q : Nat) (l : List PatV) (c : Nat) (h : PatsAt w q l) (hl : l.length ≤ 100) (ht : TabAt w) :
    Calls Tryd.prog 41 #[.slice (some ⟨q, 0, none⟩) l.length c] w (SharePost (shareL (patsOf l)) w) := by
  obtain ⟨i0, hi, hz0, hz1, hz2⟩ := info_parts Tryd.infoByte
  have HP := Lib.hid h
  have HT := Lib.hid ht
  clear h ht
  have HX0 : Hid (shareL (patsOf l) = (shareGo (patsOf l) (30 - 0 + 1) 0).map ([] ++ ·)) := by
    show shareL (patsOf l) = _
    simp [shareL]
  generalize shareL (patsOf l) = X at HX0 ⊢
  go_enter Tryd.func41, Tryd.ntmps41
  go_wp2_with fail
  go_loopw [4, 5] (fun v it wr => ∃ (k : Nat) (acc : List Nat), k ≤ 31 ∧ it = .int .i64 k ∧ Hid (acc.length = k) ∧ Hid (∀ j ∈ acc, j < 12) ∧ Hid (k ≤ 30 → X = (shareGo (patsOf l) (30 - k + 1) k).map (acc ++ ·)) ∧ Hid (k = 31 → X = none) ∧ Hid (wr.ownsRow w.heap.size 5 1 v k (acc.map signV)) ∧ Hid (Below w.heap.size w wr)) (fun _ it _ => 31 - (intOf it).toNat)
  case atStart => exact ⟨0, [], by omega, rfl, rfl, (fun j hj => by cases hj), fun _ => HX0.out, (fun h9 => by omega), World.ownsRow_nil _ _ _ _, Below.refl _ _⟩
  case round =>
    obtain ⟨k, acc, hk, rfl, HA, HA12, HX, HN, HO, HB⟩ := hrel
    by_cases hlt : k ≤ 30
    · obtain ⟨wa, rfl⟩ : ∃ wa : World, wa = wr := ⟨_, rfl⟩
      obtain ⟨s1, s2, s3⟩ := share_step (patsOf l) (30 - k) k acc X (HX.out hlt)
      have S1 := Lib.hid s1
      have S2 := Lib.hid s2
      have S3 := Lib.hid s3
      obtain ⟨dk, hdk⟩ : ∃ dk, decide (0 < k) = dk := ⟨_, rfl⟩
      have hd0 : Hid (finTo l 0 k = dk) := by show _ = _; rw [← hdk]; unfold finTo; simp
      clear s1 s2 s3
      have hle30 : decide ((k : Int) ≤ 30) = true := by simp; omega
      go_wp2_with fail
      clear hle30
      have HDK := Lib.hid hdk
      clear hdk
      go_loopw [6, 7, 20] (fun av ev it wr => ∃ i : Nat, i ≤ l.length ∧ it = .int .i64 i ∧ av = .int .u16 (allAt ((patsOf l).take i) k) ∧ ev = .bool (finTo l i k) ∧ Hid (Below wa.heap.size wa wr)) (fun _ _ it _ => l.length - (intOf it).toNat)
      case atStart => exact ⟨0, Nat.zero_le _, rfl, rfl, by rw [hd0.out], Below.refl _ _⟩
      case round =>
        obtain ⟨i, hil, rfl, rfl, rfl, HBi⟩ := hrel
        have HBW := Lib.hid (ext_trans HB.out HBi.out)
        by_cases hli : i < l.length
        · have HPw := Lib.hid (HP.out.below HBW.out)
          have g0 := HPw.out.c0 i hli
          have g1 := HPw.out.c1 i hli
          obtain ⟨hpa, hpok⟩ := HPw.out.each i hli
          have HPA := Lib.hid hpa
          have HPO := Lib.hid hpok
          have hA := all_lt ((patsOf l).take i) k
          have hM := Pat.at_lt hpok k
          have hand := u16_and2 _ _ hA hM
          rw [← all_succ l i k hli] at hand
          have HFS := Lib.hid (fin_succ l i k hli)
          have hqz := HPw.out.lt
          clear hpa hpok
          generalize l.getD i noPatV = pv at g0 g1 HPA HPO hM hand HFS
          obtain ⟨pa, pn, pc, pp⟩ := pv
          simp only at g0 g1 hM hand
          go_wp2_with fail
          refine (takes_any _ pa pn pc pp (HPA.out.below (ext_alloc (Below.refl _ _))) HPO.out k (by omega)).mono ?_
          rintro e w1 ⟨rfl, hb1⟩
          have HB1 := Lib.hid (ext_trans HBi.out (ext_trans (ext_alloc (Below.refl _ wr)) hb1))
          clear hb1 g0 g1
          generalize allAt ((patsOf l).take i) k = A at hand hA ⊢
          have HFS2 : Hid (finTo l (i + 1) k = (finTo l i k && pp.fin k)) := HFS.out
          generalize pp.at_ k = M at hand hM ⊢
          generalize pp.fin k = fe at HFS2 ⊢
          generalize finTo l i k = fb at HFS2 ⊢
          clear HFS HPA HPO HPw
          cases fb
          · go_wp2_with fail
            go_roundw
            case rel => exact ⟨i + 1, by omega, by go_num, rfl, by rw [HFS2.out]; rfl, HB1⟩
            case measure => simp [intOf]; omega
          · go_wp2_with fail
            go_roundw
            case rel => exact ⟨i + 1, by omega, by go_num, rfl, by rw [HFS2.out]; rfl, HB1⟩
            case measure => simp [intOf]; omega
        · obtain rfl : i = l.length := by omega
          have etk : (patsOf l).take l.length = patsOf l := by rw [← patsOf_len, List.take_length]
          have HFA : Hid (finTo l l.length k = finAt (patsOf l) k) := by show _ = _; unfold finTo finAt; rw [etk]
          rw [etk, HFA.out]
          have HOw := Lib.hid (HO.out.kept_below HBi.out)
          have hAlt := all_lt (patsOf l) k
          cases hfin : finAt (patsOf l) k
          · have S2' := Lib.hid (S2.out hfin)
            have S3' := Lib.hid (S3.out hfin)
            by_cases hz : allAt (patsOf l) k = 0
            · have HE := Lib.hid (S2'.out hz)
              rw [hz]
              clear hfin hz hAlt
              go_wp2_with fail
              go_ret2
              exact ⟨by rw [HE.out]; rfl, HBW.out⟩
            · have HE := Lib.hid (S3'.out hz)
              have ht12 := (tz_bit hz hAlt).2.1
              have HZ : Hid (∀ w, TabAt w → Calls Tryd.prog 82 #[.int .u16 (allAt (patsOf l) k)] w fun e w' => e = .returned (.int .i64 (tzN (allAt (patsOf l) k))) ∧ w = w') := fun w ht => zeros_any _ hz hAlt w ht
              have hzz : ((allAt (patsOf l) k : Int) == 0) = false := by simp; exact hz
              have HSB := Lib.hid (sign_ba _ ht12)
              generalize allAt (patsOf l) k = A at HE HZ hzz ht12 HSB ⊢
              generalize tzN A = t at HE HZ ht12 HSB
              have ts : t < (⟨#[35, 42, 48, 49, 50, 51, 52, 53, 54, 55, 56, 57]⟩ : ByteArray).size := ht12
              have hsb := HSB.out
              have n5 : Hid (k + 1 ≤ maxLen) := by show _ ≤ _; unfold maxLen; omega
              have zwr := HBW.out.size
              clear hz hAlt hfin
              go_wp2_with (first | (go_at_call 82; refine (HZ.out _ (HT.out.below HBW.out)).mono ?_; rintro e w' ⟨rfl, rfl⟩) | (at_builtin; refine wpList_append_own _ rfl (.tmp 43) (.tmp 47) 148 rfl w.heap.size 5 i0 (.int .u8 0) 1 1 Tryd.underlying148 hi hz0 hz1 hz2 rfl (by decide) u4 k (acc.map signV) rfl (HOw.out.alloc _) ⟨wr.heap.size, 0, none⟩ 1 1 [signV t] rfl rfl (news_one (by first | (go_simp; done) | (go_simp; rfl))) (by simp [Value.oneCell', signV]) n5.out (by omega) (by simp; omega) ?_; intro v6 w6 hown6 hgr6 _))
              have hB6 : Below w.heap.size w w6 := HBW.out.trans (upto_grown hgr6 zwr (fun b e9 => (HOw.out.lt b e9).1))
              go_roundw
              case rel => exact ⟨k + 1, acc ++ [t], by omega, by go_num, (by show _ = _; rw [List.length_append, HA.out]; rfl), (fun j hj => by
                rcases List.mem_append.1 hj with hj | hj
                · exact HA12.out j hj
                · simp at hj; omega), (fun h9 => by rw [HE.out]; congr 1; congr 1; omega), (fun h9 => by rw [HE.out, show 30 - k = 0 by omega]; rfl), (by show World.ownsRow _ _ _ _ _ _ _; rw [List.map_append]; exact hown6), hB6⟩
              case measure => simp [intOf]; omega
          · have HE := Lib.hid (S1.out hfin)
            have hk0 : 0 < k := by unfold finAt at hfin; simp at hfin; exact hfin.1
            clear hfin
            rcases HOw.out.2 with ⟨_, h9⟩ | ⟨g, cap, cur, hv, hgb, hg, _⟩
            · omega
            subst hv
            have hconv : (convert 148 9 (.slice (some ⟨g, 0, none⟩) k cap)).run Tryd.prog wr = .ok (.string ⟨(acc.map signN).toArray⟩) wr := conv_bytes wr g k cap (acc.map signN) (by rw [List.length_map, HA.out]) (fun j hj => by
              rw [HOw.out.cellAt j (by omega), List.map_map]; rfl)
            clear hg
            go_wp2_with fail
            go_ret2
            exact ⟨by rw [HE.out]; rfl, HBW.out⟩
    · have HE := Lib.hid (HN.out (by omega))
      have hle : ¬ (k : Int) ≤ 30 := by omega
      clear hlt
      go_wp2_with fail
      go_ret2
      exact ⟨by rw [HE.out]; rfl, HB.out⟩
end Go.Proofs.YtkfflafhlgephaaDoor
