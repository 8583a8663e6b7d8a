/- What is proved here: lemmas and contracts for the statement, put together out of smaller texts (PatShare, PatShared, PlanDraw, PortLit, DplMk, DplHrs, DplCtx, DplRing, DplChk). No condition beyond those stated. -/
import Derived.Test.YtkdadbpajhdelaaGreatDoorCePkE
import Derived.Test.YtkdadbpajhdelaaGreatDoorCePkC
import Derived.Test.YtkdadbpajhdelaaGreatDoorCePkA
import Derived.Test.YtkdadbpajhdelaaGreatDoorCePkB
import Derived.Test.YtkdadbpajhdelaaGreatDoorCePkD
import Derived.Test.YtkdadbpajhdelaaGreatDoorShelfHas
import Derived.Laws.EntriesVeiled
set_option linter.unusedVariables false
set_option linter.unusedSimpArgs false
namespace Go.Proofs.YtkdadbpajhdelaaGreatDoor
open Go.RowKit

theorem zeros_at_0 (m : Nat) (hm : m ≠ 0) (hb : bits BinOp.and IntKind.u16 (m : Int) (IntKind.u16.wrap (-(m : Int))) = 1) (w : World) (h : TabAt w) : Calls Tryz.prog 134 #[.int .u16 m] w fun e w' => e = .returned (.int .i64 0) ∧ w = w' := by
  have hc : w.cell? ⟨1, 0, none⟩ = some (.int .u8 0) := h.2 0 (by omega)
  have hz : ((m : Int) == 0) = false := by simp; exact hm
  clear h hm
  go_enter Tryz.func134, Tryz.ntmps134
  go_wp2
  go_ret
  exact ⟨rfl, rfl⟩
theorem zeros_at_1 (m : Nat) (hm : m ≠ 0) (hb : bits BinOp.and IntKind.u16 (m : Int) (IntKind.u16.wrap (-(m : Int))) = 2) (w : World) (h : TabAt w) : Calls Tryz.prog 134 #[.int .u16 m] w fun e w' => e = .returned (.int .i64 1) ∧ w = w' := by
  have hc : w.cell? ⟨1, 1, none⟩ = some (.int .u8 1) := h.2 1 (by omega)
  have hz : ((m : Int) == 0) = false := by simp; exact hm
  clear h hm
  go_enter Tryz.func134, Tryz.ntmps134
  go_wp2
  go_ret
  exact ⟨rfl, rfl⟩
theorem zeros_at_2 (m : Nat) (hm : m ≠ 0) (hb : bits BinOp.and IntKind.u16 (m : Int) (IntKind.u16.wrap (-(m : Int))) = 4) (w : World) (h : TabAt w) : Calls Tryz.prog 134 #[.int .u16 m] w fun e w' => e = .returned (.int .i64 2) ∧ w = w' := by
  have hc : w.cell? ⟨1, 3, none⟩ = some (.int .u8 2) := h.2 3 (by omega)
  have hz : ((m : Int) == 0) = false := by simp; exact hm
  clear h hm
  go_enter Tryz.func134, Tryz.ntmps134
  go_wp2
  go_ret
  exact ⟨rfl, rfl⟩
theorem zeros_at_3 (m : Nat) (hm : m ≠ 0) (hb : bits BinOp.and IntKind.u16 (m : Int) (IntKind.u16.wrap (-(m : Int))) = 8) (w : World) (h : TabAt w) : Calls Tryz.prog 134 #[.int .u16 m] w fun e w' => e = .returned (.int .i64 3) ∧ w = w' := by
  have hc : w.cell? ⟨1, 7, none⟩ = some (.int .u8 3) := h.2 7 (by omega)
  have hz : ((m : Int) == 0) = false := by simp; exact hm
  clear h hm
  go_enter Tryz.func134, Tryz.ntmps134
  go_wp2
  go_ret
  exact ⟨rfl, rfl⟩
theorem zeros_at_4 (m : Nat) (hm : m ≠ 0) (hb : bits BinOp.and IntKind.u16 (m : Int) (IntKind.u16.wrap (-(m : Int))) = 16) (w : World) (h : TabAt w) : Calls Tryz.prog 134 #[.int .u16 m] w fun e w' => e = .returned (.int .i64 4) ∧ w = w' := by
  have hc : w.cell? ⟨1, 14, none⟩ = some (.int .u8 4) := h.2 14 (by omega)
  have hz : ((m : Int) == 0) = false := by simp; exact hm
  clear h hm
  go_enter Tryz.func134, Tryz.ntmps134
  go_wp2
  go_ret
  exact ⟨rfl, rfl⟩
theorem zeros_at_5 (m : Nat) (hm : m ≠ 0) (hb : bits BinOp.and IntKind.u16 (m : Int) (IntKind.u16.wrap (-(m : Int))) = 32) (w : World) (h : TabAt w) : Calls Tryz.prog 134 #[.int .u16 m] w fun e w' => e = .returned (.int .i64 5) ∧ w = w' := by
  have hc : w.cell? ⟨1, 29, none⟩ = some (.int .u8 5) := h.2 29 (by omega)
  have hz : ((m : Int) == 0) = false := by simp; exact hm
  clear h hm
  go_enter Tryz.func134, Tryz.ntmps134
  go_wp2
  go_ret
  exact ⟨rfl, rfl⟩
theorem zeros_at_6 (m : Nat) (hm : m ≠ 0) (hb : bits BinOp.and IntKind.u16 (m : Int) (IntKind.u16.wrap (-(m : Int))) = 64) (w : World) (h : TabAt w) : Calls Tryz.prog 134 #[.int .u16 m] w fun e w' => e = .returned (.int .i64 6) ∧ w = w' := by
  have hc : w.cell? ⟨1, 27, none⟩ = some (.int .u8 6) := h.2 27 (by omega)
  have hz : ((m : Int) == 0) = false := by simp; exact hm
  clear h hm
  go_enter Tryz.func134, Tryz.ntmps134
  go_wp2
  go_ret
  exact ⟨rfl, rfl⟩
theorem zeros_at_7 (m : Nat) (hm : m ≠ 0) (hb : bits BinOp.and IntKind.u16 (m : Int) (IntKind.u16.wrap (-(m : Int))) = 128) (w : World) (h : TabAt w) : Calls Tryz.prog 134 #[.int .u16 m] w fun e w' => e = .returned (.int .i64 7) ∧ w = w' := by
  have hc : w.cell? ⟨1, 23, none⟩ = some (.int .u8 7) := h.2 23 (by omega)
  have hz : ((m : Int) == 0) = false := by simp; exact hm
  clear h hm
  go_enter Tryz.func134, Tryz.ntmps134
  go_wp2
  go_ret
  exact ⟨rfl, rfl⟩
theorem zeros_at_8 (m : Nat) (hm : m ≠ 0) (hb : bits BinOp.and IntKind.u16 (m : Int) (IntKind.u16.wrap (-(m : Int))) = 256) (w : World) (h : TabAt w) : Calls Tryz.prog 134 #[.int .u16 m] w fun e w' => e = .returned (.int .i64 8) ∧ w = w' := by
  have hc : w.cell? ⟨1, 15, none⟩ = some (.int .u8 8) := h.2 15 (by omega)
  have hz : ((m : Int) == 0) = false := by simp; exact hm
  clear h hm
  go_enter Tryz.func134, Tryz.ntmps134
  go_wp2
  go_ret
  exact ⟨rfl, rfl⟩
theorem zeros_at_9 (m : Nat) (hm : m ≠ 0) (hb : bits BinOp.and IntKind.u16 (m : Int) (IntKind.u16.wrap (-(m : Int))) = 512) (w : World) (h : TabAt w) : Calls Tryz.prog 134 #[.int .u16 m] w fun e w' => e = .returned (.int .i64 9) ∧ w = w' := by
  have hc : w.cell? ⟨1, 31, none⟩ = some (.int .u8 9) := h.2 31 (by omega)
  have hz : ((m : Int) == 0) = false := by simp; exact hm
  clear h hm
  go_enter Tryz.func134, Tryz.ntmps134
  go_wp2
  go_ret
  exact ⟨rfl, rfl⟩
theorem zeros_at_10 (m : Nat) (hm : m ≠ 0) (hb : bits BinOp.and IntKind.u16 (m : Int) (IntKind.u16.wrap (-(m : Int))) = 1024) (w : World) (h : TabAt w) : Calls Tryz.prog 134 #[.int .u16 m] w fun e w' => e = .returned (.int .i64 10) ∧ w = w' := by
  have hc : w.cell? ⟨1, 30, none⟩ = some (.int .u8 10) := h.2 30 (by omega)
  have hz : ((m : Int) == 0) = false := by simp; exact hm
  clear h hm
  go_enter Tryz.func134, Tryz.ntmps134
  go_wp2
  go_ret
  exact ⟨rfl, rfl⟩
theorem zeros_at_11 (m : Nat) (hm : m ≠ 0) (hb : bits BinOp.and IntKind.u16 (m : Int) (IntKind.u16.wrap (-(m : Int))) = 2048) (w : World) (h : TabAt w) : Calls Tryz.prog 134 #[.int .u16 m] w fun e w' => e = .returned (.int .i64 11) ∧ w = w' := by
  have hc : w.cell? ⟨1, 28, none⟩ = some (.int .u8 11) := h.2 28 (by omega)
  have hz : ((m : Int) == 0) = false := by simp; exact hm
  clear h hm
  go_enter Tryz.func134, Tryz.ntmps134
  go_wp2
  go_ret
  exact ⟨rfl, rfl⟩
theorem low_bits : ∀ h : Nat, h < 32 → ∀ l : Nat, l < 128 → (128 * h + l) = 0 ∨ bits BinOp.and IntKind.u16 ((128 * h + l : Nat) : Int) (IntKind.u16.wrap (-((128 * h + l : Nat) : Int))) = ((2 ^ tzN (128 * h + l) : Nat) : Int) := by decide +kernel
theorem low_bit (m : Nat) (hm : m < 4096) : m = 0 ∨ bits BinOp.and IntKind.u16 (m : Int) (IntKind.u16.wrap (-(m : Int))) = ((2 ^ tzN m : Nat) : Int) := by
  have h := low_bits (m / 128) (by omega) (m % 128) (by omega)
  rw [show 128 * (m / 128) + m % 128 = m by omega] at h
  exact h
theorem zeros_any (m : Nat) (h0 : m ≠ 0) (h1 : m < 4096) (w : World) (h : TabAt w) : Calls Tryz.prog 134 #[.int .u16 m] w fun e w' => e = .returned (.int .i64 (tzN m)) ∧ w = w' := by
  have hb := (low_bit m h1).resolve_left h0
  have ht := (tz_bit h0 h1).2.1
  generalize tzN m = t at hb ht ⊢
  match t, ht with
  | 0, _ => exact zeros_at_0 m h0 hb w h
  | 1, _ => exact zeros_at_1 m h0 hb w h
  | 2, _ => exact zeros_at_2 m h0 hb w h
  | 3, _ => exact zeros_at_3 m h0 hb w h
  | 4, _ => exact zeros_at_4 m h0 hb w h
  | 5, _ => exact zeros_at_5 m h0 hb w h
  | 6, _ => exact zeros_at_6 m h0 hb w h
  | 7, _ => exact zeros_at_7 m h0 hb w h
  | 8, _ => exact zeros_at_8 m h0 hb w h
  | 9, _ => exact zeros_at_9 m h0 hb w h
  | 10, _ => exact zeros_at_10 m h0 hb w h
  | 11, _ => exact zeros_at_11 m h0 hb w h

theorem u16_and2 (x y : Nat) (hx : x < 4096) (hy : y < 4096) : bits BinOp.and IntKind.u16 (x : Int) (y : Int) = ((x &&& y : Nat) : Int) := by
  have hle : x &&& y ≤ x := Nat.and_le_left
  show IntKind.u16.wrap (((BitVec.ofInt 16 x &&& BitVec.ofInt 16 y).toNat : Nat) : Int) = _
  rw [BitVec.toNat_and, BitVec.ofInt_natCast, BitVec.ofInt_natCast, BitVec.toNat_ofNat, BitVec.toNat_ofNat, Nat.mod_eq_of_lt (by omega), Nat.mod_eq_of_lt (by omega), IntKind.wrap_u16]
  generalize x &&& y = z at *
  omega

/-- Patterns in a row. -/
structure PatV where
  a : Option Addr
  n : Nat
  cap : Nat
  p : Pat
def noPatV : PatV := ⟨none, 0, 0, ⟨[], 0⟩⟩
structure PatsAt (w : World) (q : Nat) (l : List PatV) : Prop where
  lt : q < w.heap.size
  c0 : ∀ i, i < l.length → w.cell? ⟨q, i * 2, none⟩ = some (.slice (l.getD i noPatV).a (l.getD i noPatV).n (l.getD i noPatV).cap)
  c1 : ∀ i, i < l.length → w.cell? ⟨q, i * 2 + 1, none⟩ = some (.int .u8 (l.getD i noPatV).p.tail)
  each : ∀ i, i < l.length → PatAt w (l.getD i noPatV).a (l.getD i noPatV).n (l.getD i noPatV).p ∧ PatOk (l.getD i noPatV).p
theorem PatsAt.below {w w' : World} {q : Nat} {l : List PatV} (h : PatsAt w q l) (hb : Below w.heap.size w w') : PatsAt w' q l :=
  ⟨Nat.lt_of_lt_of_le h.lt hb.size, fun i hi => (hb.cell (p := ⟨q, i * 2, none⟩) h.lt).trans (h.c0 i hi), fun i hi => (hb.cell (p := ⟨q, i * 2 + 1, none⟩) h.lt).trans (h.c1 i hi), fun i hi => ⟨(h.each i hi).1.below hb, (h.each i hi).2⟩⟩
def patsOf (l : List PatV) : List Pat := l.map PatV.p

theorem take_getD (l : List PatV) (i : Nat) (hi : i < l.length) : (patsOf l).take (i + 1) = (patsOf l).take i ++ [(l.getD i noPatV).p] := by
  unfold patsOf
  rw [List.take_succ_eq_append_getElem (by simpa using hi)]
  simp [List.getD_eq_getElem?_getD, List.getElem?_eq_getElem hi]
theorem all_succ (l : List PatV) (i k : Nat) (hi : i < l.length) : allAt ((patsOf l).take (i + 1)) k = allAt ((patsOf l).take i) k &&& ((l.getD i noPatV).p).at_ k := by
  rw [take_getD l i hi]
  unfold allAt
  rw [List.foldl_append]
  rfl
def finTo (l : List PatV) (i k : Nat) : Bool := decide (0 < k) && ((patsOf l).take i).all (fun p => p.fin k)
theorem fin_succ (l : List PatV) (i k : Nat) (hi : i < l.length) : finTo l (i + 1) k = (finTo l i k && ((l.getD i noPatV).p).fin k) := by
  unfold finTo
  rw [take_getD l i hi, List.all_append, Bool.and_assoc]
  simp
theorem patsOf_len (l : List PatV) : (patsOf l).length = l.length := by simp [patsOf]

/-- What shared answers. -/
def shareV (x : Option (List Nat)) : Value := match x with | some d => .tuple #[.string ⟨(d.map signN).toArray⟩, .bool true] | none => .tuple #[.string ⟨#[]⟩, .bool false]
def SharePost (x : Option (List Nat)) (w : World) (e : Ending) (w' : World) : Prop := e = .returned (shareV x) ∧ Below w.heap.size w w'

theorem share_step (l : List Pat) (f k : Nat) (acc : List Nat) (x : Option (List Nat)) (hx : x = (shareGo l (f + 1) k).map (acc ++ ·)) :
    (finAt l k = true → x = some acc) ∧ (finAt l k = false → allAt l k = 0 → x = none) ∧ (finAt l k = false → allAt l k ≠ 0 → x = (shareGo l f (k + 1)).map ((acc ++ [tzN (allAt l k)]) ++ ·)) := by
  unfold shareGo at hx
  refine ⟨fun h => ?_, fun h h0 => ?_, fun h h0 => ?_⟩
  · rw [if_pos h] at hx; simpa using hx
  · rw [if_neg (by rw [h]; simp), if_pos h0] at hx; simpa using hx
  · rw [if_neg (by rw [h]; simp), if_neg h0] at hx
    rw [hx, Option.map_map]
    congr 1
    funext y
    simp

def signV (i : Nat) : Value := .int .u8 (signN i).toNat
theorem sign_ba (t : Nat) (ht : t < 12) : ∀ h, ((⟨#[35, 42, 48, 49, 50, 51, 52, 53, 54, 55, 56, 57]⟩ : ByteArray)[t]'h).toNat = (signN t).toNat := by
  intro h
  match t, ht with
  | 0, _ | 1, _ | 2, _ | 3, _ | 4, _ | 5, _ | 6, _ | 7, _ | 8, _ | 9, _ | 10, _ | 11, _ => rfl

set_option maxRecDepth 100000 in
set_option maxHeartbeats 4000000 in
theorem shared_any (w : World) (q : Nat) (l : List PatV) (c : Nat) (h : PatsAt w q l) (hl : l.length ≤ 100) (ht : TabAt w) :
    Calls Tryz.prog 83 #[.slice (some ⟨q, 0, none⟩) l.length c] w (SharePost (shareL (patsOf l)) w) := by
  obtain ⟨i0, hi, hz0, hz1, hz2⟩ := info_parts infoByteR
  have HP := Lib.hid h
  have HT := Lib.hid ht
  clear h ht
  have HX0 : Hid (shareL (patsOf l) = (shareGo (patsOf l) (30 - 0 + 1) 0).map ([] ++ ·)) := by
    show shareL (patsOf l) = _
    simp [shareL]
  generalize shareL (patsOf l) = X at HX0 ⊢
  go_enter Tryz.func83, Tryz.ntmps83
  go_wp2_with fail
  go_loopw [4, 5] (fun v it wr => ∃ (k : Nat) (acc : List Nat), k ≤ 31 ∧ it = .int .i64 k ∧ Hid (acc.length = k) ∧ Hid (∀ j ∈ acc, j < 12) ∧ Hid (k ≤ 30 → X = (shareGo (patsOf l) (30 - k + 1) k).map (acc ++ ·)) ∧ Hid (k = 31 → X = none) ∧ Hid (wr.ownsRow w.heap.size 5 1 v k (acc.map signV)) ∧ Hid (Below w.heap.size w wr)) (fun _ it _ => 31 - (intOf it).toNat)
  case atStart => exact ⟨0, [], by omega, rfl, rfl, (fun j hj => by cases hj), fun _ => HX0.out, (fun h9 => by omega), World.ownsRow_nil _ _ _ _, Below.refl _ _⟩
  case round =>
    obtain ⟨k, acc, hk, rfl, HA, HA12, HX, HN, HO, HB⟩ := hrel
    by_cases hlt : k ≤ 30
    · obtain ⟨wa, rfl⟩ : ∃ wa : World, wa = wr := ⟨_, rfl⟩
      obtain ⟨s1, s2, s3⟩ := share_step (patsOf l) (30 - k) k acc X (HX.out hlt)
      have S1 := Lib.hid s1
      have S2 := Lib.hid s2
      have S3 := Lib.hid s3
      obtain ⟨dk, hdk⟩ : ∃ dk, decide (0 < k) = dk := ⟨_, rfl⟩
      have hd0 : Hid (finTo l 0 k = dk) := by show _ = _; rw [← hdk]; unfold finTo; simp
      clear s1 s2 s3
      have hle30 : decide ((k : Int) ≤ 30) = true := by simp; omega
      go_wp2_with fail
      clear hle30
      have HDK := Lib.hid hdk
      clear hdk
      go_loopw [6, 7, 20] (fun av ev it wr => ∃ i : Nat, i ≤ l.length ∧ it = .int .i64 i ∧ av = .int .u16 (allAt ((patsOf l).take i) k) ∧ ev = .bool (finTo l i k) ∧ Hid (Below wa.heap.size wa wr)) (fun _ _ it _ => l.length - (intOf it).toNat)
      case atStart => exact ⟨0, Nat.zero_le _, rfl, rfl, by rw [hd0.out], Below.refl _ _⟩
      case round =>
        obtain ⟨i, hil, rfl, rfl, rfl, HBi⟩ := hrel
        have HBW := Lib.hid (ext_trans HB.out HBi.out)
        by_cases hli : i < l.length
        · have HPw := Lib.hid (HP.out.below HBW.out)
          have g0 := HPw.out.c0 i hli
          have g1 := HPw.out.c1 i hli
          obtain ⟨hpa, hpok⟩ := HPw.out.each i hli
          have HPA := Lib.hid hpa
          have HPO := Lib.hid hpok
          have hA := all_lt ((patsOf l).take i) k
          have hM := Pat.at_lt hpok k
          have hand := u16_and2 _ _ hA hM
          rw [← all_succ l i k hli] at hand
          have HFS := Lib.hid (fin_succ l i k hli)
          have hqz := HPw.out.lt
          clear hpa hpok
          generalize l.getD i noPatV = pv at g0 g1 HPA HPO hM hand HFS
          obtain ⟨pa, pn, pc, pp⟩ := pv
          simp only at g0 g1 hM hand
          go_wp2_with fail
          refine (takes_any _ pa pn pc pp (HPA.out.below (ext_alloc (Below.refl _ _))) HPO.out k (by omega)).mono ?_
          rintro e w1 ⟨rfl, hb1⟩
          have HB1 := Lib.hid (ext_trans HBi.out (ext_trans (ext_alloc (Below.refl _ wr)) hb1))
          clear hb1 g0 g1
          generalize allAt ((patsOf l).take i) k = A at hand hA ⊢
          have HFS2 : Hid (finTo l (i + 1) k = (finTo l i k && pp.fin k)) := HFS.out
          generalize pp.at_ k = M at hand hM ⊢
          generalize pp.fin k = fe at HFS2 ⊢
          generalize finTo l i k = fb at HFS2 ⊢
          clear HFS HPA HPO HPw
          cases fb
          · go_wp2_with fail
            go_roundw
            case rel => exact ⟨i + 1, by omega, by go_num, rfl, by rw [HFS2.out]; rfl, HB1⟩
            case measure => simp [intOf]; omega
          · go_wp2_with fail
            go_roundw
            case rel => exact ⟨i + 1, by omega, by go_num, rfl, by rw [HFS2.out]; rfl, HB1⟩
            case measure => simp [intOf]; omega
        · obtain rfl : i = l.length := by omega
          have etk : (patsOf l).take l.length = patsOf l := by rw [← patsOf_len, List.take_length]
          have HFA : Hid (finTo l l.length k = finAt (patsOf l) k) := by show _ = _; unfold finTo finAt; rw [etk]
          rw [etk, HFA.out]
          have HOw := Lib.hid (HO.out.kept_below HBi.out)
          have hAlt := all_lt (patsOf l) k
          cases hfin : finAt (patsOf l) k
          · have S2' := Lib.hid (S2.out hfin)
            have S3' := Lib.hid (S3.out hfin)
            by_cases hz : allAt (patsOf l) k = 0
            · have HE := Lib.hid (S2'.out hz)
              rw [hz]
              clear hfin hz hAlt
              go_wp2_with fail
              go_ret2
              exact ⟨by rw [HE.out]; rfl, HBW.out⟩
            · have HE := Lib.hid (S3'.out hz)
              have ht12 := (tz_bit hz hAlt).2.1
              have HZ : Hid (∀ w, TabAt w → Calls Tryz.prog 134 #[.int .u16 (allAt (patsOf l) k)] w fun e w' => e = .returned (.int .i64 (tzN (allAt (patsOf l) k))) ∧ w = w') := fun w ht => zeros_any _ hz hAlt w ht
              have hzz : ((allAt (patsOf l) k : Int) == 0) = false := by simp; exact hz
              have HSB := Lib.hid (sign_ba _ ht12)
              generalize allAt (patsOf l) k = A at HE HZ hzz ht12 HSB ⊢
              generalize tzN A = t at HE HZ ht12 HSB
              have ts : t < (⟨#[35, 42, 48, 49, 50, 51, 52, 53, 54, 55, 56, 57]⟩ : ByteArray).size := ht12
              have hsb := HSB.out
              have n5 : Hid (k + 1 ≤ maxLen) := by show _ ≤ _; unfold maxLen; omega
              have zwr := HBW.out.size
              clear hz hAlt hfin
              go_wp2_with (first | (go_at_call 134; refine (HZ.out _ (HT.out.below HBW.out)).mono ?_; rintro e w' ⟨rfl, rfl⟩) | (at_builtin; refine wpList_append_own _ rfl (.tmp 43) (.tmp 47) 112 rfl w.heap.size 5 i0 (.int .u8 0) 1 1 Tryz.underlying112 hi hz0 hz1 hz2 rfl (by decide) u4 k (acc.map signV) rfl (HOw.out.alloc _) ⟨wr.heap.size, 0, none⟩ 1 1 [signV t] rfl rfl (news_one (by first | (go_simp; done) | (go_simp; rfl))) (by simp [Value.oneCell', signV]) n5.out (by omega) (by simp; omega) ?_; intro v6 w6 hown6 hgr6 _))
              have hB6 : Below w.heap.size w w6 := HBW.out.trans (upto_grown hgr6 zwr (fun b e9 => (HOw.out.lt b e9).1))
              go_roundw
              case rel => exact ⟨k + 1, acc ++ [t], by omega, by go_num, (by show _ = _; rw [List.length_append, HA.out]; rfl), (fun j hj => by
                rcases List.mem_append.1 hj with hj | hj
                · exact HA12.out j hj
                · simp at hj; omega), (fun h9 => by rw [HE.out]; congr 1; congr 1; omega), (fun h9 => by rw [HE.out, show 30 - k = 0 by omega]; rfl), (by show World.ownsRow _ _ _ _ _ _ _; rw [List.map_append]; exact hown6), hB6⟩
              case measure => simp [intOf]; omega
          · have HE := Lib.hid (S1.out hfin)
            have hk0 : 0 < k := by unfold finAt at hfin; simp at hfin; exact hfin.1
            clear hfin
            rcases HOw.out.2 with ⟨_, h9⟩ | ⟨g, cap, cur, hv, hgb, hg, _⟩
            · omega
            subst hv
            have hconv : (convert 112 9 (.slice (some ⟨g, 0, none⟩) k cap)).run Tryz.prog wr = .ok (.string ⟨(acc.map signN).toArray⟩) wr := conv_bytes wr g k cap (acc.map signN) (by rw [List.length_map, HA.out]) (fun j hj => by
              rw [HOw.out.cellAt j (by omega), List.map_map]; rfl)
            clear hg
            go_wp2_with fail
            go_ret2
            exact ⟨by rw [HE.out]; rfl, HBW.out⟩
    · have HE := Lib.hid (HN.out (by omega))
      have hle : ¬ (k : Int) ≤ 30 := by omega
      clear hlt
      go_wp2_with fail
      go_ret2
      exact ⟨by rw [HE.out]; rfl, HB.out⟩
end Go.Proofs.YtkdadbpajhdelaaGreatDoor

set_option linter.unusedVariables false
set_option linter.unusedSimpArgs false
namespace Go.Proofs.YtkdadbpajhdelaaGreatDoor
open Go.RowKit

theorem shareV_eq (o : Option (List Nat)) : shareV o = .tuple #[.string ⟨((o.getD []).map signN).toArray⟩, .bool o.isSome] := by cases o <;> rfl
def SharedPost (o : Option (List Nat)) (w : World) (e : Ending) (w' : World) : Prop := e = .returned (.tuple #[.string ⟨((o.getD []).map signN).toArray⟩, .bool o.isSome, .int .i64 0]) ∧ Below w.heap.size w w'
def LeastPost (o : Option (List Nat)) (w : World) (e : Ending) (w' : World) : Prop := e = .returned (.tuple #[.string ⟨((o.getD []).map signN).toArray⟩, .int .i64 0]) ∧ Below w.heap.size w w'

theorem pats_one {w : World} {q : Nat} {a : Option Addr} {n cap : Nat} {p : Pat} (hq : q < w.heap.size) (h0 : w.cell? ⟨q, 0, none⟩ = some (.slice a n cap)) (h1 : w.cell? ⟨q, 1, none⟩ = some (.int .u8 p.tail)) (hp : PatAt w a n p) (ho : PatOk p) : PatsAt w q [⟨a, n, cap, p⟩] := by
  have one : ∀ i, i < 1 → i = 0 := fun i hi => by omega
  refine ⟨hq, fun i hi => ?_, fun i hi => ?_, fun i hi => ?_⟩ <;> (have h9 := one i (by simpa using hi); subst h9)
  · simpa using h0
  · simpa using h1
  · exact ⟨hp, ho⟩
theorem pats_two {w : World} {q : Nat} {a : Option Addr} {n cap : Nat} {p : Pat} {a2 : Option Addr} {n2 cap2 : Nat} {p2 : Pat} (hq : q < w.heap.size) (h0 : w.cell? ⟨q, 0, none⟩ = some (.slice a n cap)) (h1 : w.cell? ⟨q, 1, none⟩ = some (.int .u8 p.tail)) (h2 : w.cell? ⟨q, 2, none⟩ = some (.slice a2 n2 cap2)) (h3 : w.cell? ⟨q, 3, none⟩ = some (.int .u8 p2.tail)) (hp : PatAt w a n p) (ho : PatOk p) (hp2 : PatAt w a2 n2 p2) (ho2 : PatOk p2) : PatsAt w q [⟨a, n, cap, p⟩, ⟨a2, n2, cap2, p2⟩] := by
  have two : ∀ i, i < 2 → i = 0 ∨ i = 1 := fun i hi => by omega
  refine ⟨hq, fun i hi => ?_, fun i hi => ?_, fun i hi => ?_⟩ <;> rcases two i (by simpa using hi) with rfl | rfl
  · simpa using h0
  · simpa using h2
  · simpa using h1
  · simpa using h3
  · exact ⟨hp, ho⟩
  · exact ⟨hp2, ho2⟩

set_option maxRecDepth 100000 in
set_option maxHeartbeats 2000000 in
theorem Least_any (w : World) (x : Els) (hx : ElsOk x) (s : ByteArray) (hs : s.data.toList = x.str) (htab : TabAt w) : Calls Tryz.prog 36 #[.string s] w (LeastPost (shareL [x.pat]) w) := by
  have HX := Lib.hid hx
  have HS := Lib.hid hs
  have HTAB := Lib.hid htab
  clear hx hs htab
  go_enter Tryz.func36, Tryz.ntmps36
  go_wp2_with fail
  refine (read_any _ x HX.out s HS.out).mono ?_
  rintro e1 w1 ⟨a, n, cap, rfl, hp, hb1⟩
  have HP := Lib.hid hp
  have HB1 := Lib.hid hb1
  clear hp hb1
  unfold patVal
  go_wp2_with fail
  have hall := shared_any ((w1.alloc (.cells #[.slice a n cap, .int .u8 x.pat.tail] 162)).alloc (.cells #[.slice a n cap, .int .u8 x.pat.tail] 162)) (w1.heap.size + 1) [⟨a, n, cap, x.pat⟩] 1 (pats_one (by simp) (by go_simp) (by go_simp) (HP.out.below (ext_alloc (ext_alloc (Below.refl _ _)))) (Els.ok HX.out)) (by simp) (HTAB.out.below (ext_alloc (ext_alloc HB1.out)))
  refine (show Calls _ _ _ _ (SharePost (shareL [x.pat]) _) from hall).mono ?_
  rintro e1 w3 ⟨rfl, hb3⟩
  rw [shareV_eq]
  have HB3 := Lib.hid (ext_trans HB1.out (ext_trans (ext_alloc (ext_alloc (Below.refl _ w1))) hb3))
  clear hb3 hall
  go_wp2_with fail
  go_ret2
  exact ⟨rfl, HB3.out⟩

/-! ### What a stream makes -/
theorem str_app (x y : List UInt8) : ((⟨x.toArray⟩ : ByteArray) ++ ⟨y.toArray⟩) = ⟨(x ++ y).toArray⟩ := by
  apply ByteArray.ext
  simp
def elVals : List (List UInt8) := [[49], [50], [50], [57], [48], [42], [88], [88], [78], [90], [91, 49, 50, 93], [91, 50, 45, 52, 93], [91, 49, 45, 51, 53, 93], [91, 50, 57, 93]]
def tlVals : List (List UInt8) := [[], [], [], [46], [33]]
def dgVals : List (List UInt8) := [[49], [50], [50], [51], [57], [48], [42], [35]]
def RPatPost (S k : Nat) (w : World) (e : Ending) (w' : World) : Prop := ∃ x : Els, ElsOk x ∧ e = .returned (.string ⟨x.str.toArray⟩) ∧ StreamOk w' S k ∧ Keeps S w w'

set_option maxRecDepth 100000 in
set_option maxHeartbeats 2000000 in
theorem rightPattern_any (S k : Nat) (w : World) (h : StreamOk w S k) (hk : k ≤ 1000000) : Calls Tryz.prog 65 #[.pointer (some ⟨S, 0, none⟩)] w (RPatPost S (k + 6) w) := by
  have hS := h.lt
  have H := Lib.hid h
  clear h
  go_enter Tryz.func65, Tryz.ntmps65
  go_wp2_with fail
  refine (range_any S k 1 4 _ H.out (by omega) (by omega) (by omega) (by omega)).mono ?_
  rintro e w1 ⟨m, rfl, m0, m1, hst1, hkp1⟩
  obtain ⟨m, rfl⟩ := Int.eq_ofNat_of_zero_le (show 0 ≤ m by omega)
  have HST1 := Lib.hid hst1
  have HK1 := Lib.hid hkp1
  clear hst1 hkp1
  go_wp2_with fail
  go_loopw [3, 6] (fun sv it wr => ∃ (q : Nat) (els : List Nat) (st : List UInt8), q ≤ m ∧ it = .int .i64 q ∧ sv = .string ⟨st.toArray⟩ ∧ st.length ≤ 6 * q ∧ Hid (st = els.flatMap elS) ∧ Hid (els.length = q) ∧ Hid (∀ x ∈ els, x < 12) ∧ Hid (StreamOk wr S (k + 1 + q)) ∧ Hid (Keeps S w wr)) (fun _ it _ => m - (intOf it).toNat)
  case atStart => exact ⟨0, [], [], Nat.zero_le _, rfl, rfl, by simp, rfl, rfl, (fun x hx => by cases hx), HST1, HK1⟩
  case round =>
    obtain ⟨q, els, st, hq, rfl, rfl, hsl, HSS, HL, HE, HST, HK⟩ := hrel
    have zr : w.heap.size ≤ wr.heap.size := HK.out.size
    by_cases hlt : q < m
    · go_wp2_with fail
      refine (some_any S (k + 1 + q) _ 14 14 elVals (fun r => ∃ n, n < 12 ∧ r = elS n) _ (HST.out.below (ext_alloc (Below.refl _ _))) (by omega) (by simp) (by omega) (by omega) (by omega) (fun i hi => by match i, hi with | 0, _ => (first | (go_simp; done) | (go_simp; rfl)) | 1, _ => (first | (go_simp; done) | (go_simp; rfl)) | 2, _ => (first | (go_simp; done) | (go_simp; rfl)) | 3, _ => (first | (go_simp; done) | (go_simp; rfl)) | 4, _ => (first | (go_simp; done) | (go_simp; rfl)) | 5, _ => (first | (go_simp; done) | (go_simp; rfl)) | 6, _ => (first | (go_simp; done) | (go_simp; rfl)) | 7, _ => (first | (go_simp; done) | (go_simp; rfl)) | 8, _ => (first | (go_simp; done) | (go_simp; rfl)) | 9, _ => (first | (go_simp; done) | (go_simp; rfl)) | 10, _ => (first | (go_simp; done) | (go_simp; rfl)) | 11, _ => (first | (go_simp; done) | (go_simp; rfl)) | 12, _ => (first | (go_simp; done) | (go_simp; rfl)) | 13, _ => (first | (go_simp; done) | (go_simp; rfl))) (fun i hi => by match i, hi with | 0, _ => exact ⟨2, by omega, rfl⟩ | 1, _ => exact ⟨3, by omega, rfl⟩ | 2, _ => exact ⟨3, by omega, rfl⟩ | 3, _ => exact ⟨4, by omega, rfl⟩ | 4, _ => exact ⟨1, by omega, rfl⟩ | 5, _ => exact ⟨0, by omega, rfl⟩ | 6, _ => exact ⟨11, by omega, rfl⟩ | 7, _ => exact ⟨11, by omega, rfl⟩ | 8, _ => exact ⟨9, by omega, rfl⟩ | 9, _ => exact ⟨10, by omega, rfl⟩ | 10, _ => exact ⟨5, by omega, rfl⟩ | 11, _ => exact ⟨7, by omega, rfl⟩ | 12, _ => exact ⟨8, by omega, rfl⟩ | 13, _ => exact ⟨6, by omega, rfl⟩)).mono ?_
      rintro e w2 ⟨r, rfl, ⟨n, hn, rfl⟩, hst2, hkp2⟩
      have HST2 := Lib.hid hst2
      have HK2 := Lib.hid (HK.out.trans (Keeps.trans (Keeps.of_below (ext_alloc (Below.refl _ wr))) hkp2))
      clear hst2 hkp2
      have hrl := (elS_len n).2
      generalize hsg : elS n = sg at hrl ⊢
      have HSG := Lib.hid hsg
      clear hsg
      go_wp2_with fail
      go_roundw
      case rel => exact ⟨q + 1, els ++ [n], st ++ sg, by omega, by go_num, (by rw [str_app]), (by rw [List.length_append]; omega), (by show _ = _; rw [HSS.out, ← HSG.out]; simp), (by show _ = _; rw [List.length_append, HL.out]; rfl), (fun x hx => by
        rcases List.mem_append.1 hx with hx | hx
        · exact HE.out x hx
        · simp at hx; omega), HST2.out, HK2⟩
      case measure => simp [intOf]; omega
    · obtain rfl : q = m := by omega
      go_wp2_with fail
      refine (some_any S (k + 1 + q) _ 5 5 tlVals (fun r => ∃ n, 12 ≤ n ∧ n ≤ 14 ∧ r = tlS n) _ (HST.out.below (ext_alloc (Below.refl _ _))) (by omega) (by simp) (by omega) (by omega) (by omega) (fun i hi => by match i, hi with | 0, _ => (first | (go_simp; done) | (go_simp; rfl)) | 1, _ => (first | (go_simp; done) | (go_simp; rfl)) | 2, _ => (first | (go_simp; done) | (go_simp; rfl)) | 3, _ => (first | (go_simp; done) | (go_simp; rfl)) | 4, _ => (first | (go_simp; done) | (go_simp; rfl))) (fun i hi => by match i, hi with | 0, _ => exact ⟨13, by omega, by omega, rfl⟩ | 1, _ => exact ⟨13, by omega, by omega, rfl⟩ | 2, _ => exact ⟨13, by omega, by omega, rfl⟩ | 3, _ => exact ⟨12, by omega, by omega, rfl⟩ | 4, _ => exact ⟨14, by omega, by omega, rfl⟩)).mono ?_
      rintro e w2 ⟨r, rfl, ⟨n, hn0, hn1, rfl⟩, hst2, hkp2⟩
      have HST2 := Lib.hid hst2
      have HK2 := Lib.hid (HK.out.trans (Keeps.trans (Keeps.of_below (ext_alloc (Below.refl _ wr))) hkp2))
      clear hst2 hkp2
      have hrl : (tlS n).length ≤ 6 := by unfold tlS; split <;> simp
      generalize hsg : tlS n = sg at hrl ⊢
      have HSG := Lib.hid hsg
      clear hsg
      go_wp2_with fail
      go_ret
      exact ⟨⟨els, n⟩, ⟨HE.out, hn0, hn1, by show 1 ≤ els.length; rw [HL.out]; omega, by show els.length ≤ 4; rw [HL.out]; omega⟩, by rw [show Els.str ⟨els, n⟩ = els.flatMap elS ++ tlS n from rfl, HSG.out, ← HSS.out, ← str_app]; rfl, HST2.out.mono (by omega), HK2.out⟩

def RDialPost (S k : Nat) (w : World) (e : Ending) (w' : World) : Prop := ∃ d : List Nat, (∀ j, j < d.length → d.getD j 0 < 12) ∧ 1 ≤ d.length ∧ d.length ≤ 6 ∧ e = .returned (.string ⟨(d.map signN).toArray⟩) ∧ StreamOk w' S k ∧ Keeps S w w'
end Go.Proofs.YtkdadbpajhdelaaGreatDoor

set_option linter.unusedVariables false
set_option linter.unusedSimpArgs false
namespace Go.Proofs.YtkdadbpajhdelaaGreatDoor
open Go.RowKit

theorem range_gen (S k : Nat) (lo hi : Int) (w : World) (h : StreamOk w S k) (hk : k ≤ 1000000000) (h2 : -4611686018427387904 ≤ lo) (h3 : hi ≤ 4611686018427387000) :
    Calls Tryz.prog 20 #[.pointer (some ⟨S, 0, none⟩), .int .i64 lo, .int .i64 hi] w (PickPost S (k + 1) (fun r => lo ≤ r ∧ (r ≤ lo ∨ r ≤ hi)) w) := by
  by_cases hlt : hi < lo
  · have HS := Lib.hid (h.mono (Nat.le_succ _))
    clear h
    go_enter Tryz.func20, Tryz.ntmps20
    go_wp2_with fail
    go_ret
    exact ⟨lo, rfl, ⟨Int.le_refl _, Or.inl (Int.le_refl _)⟩, HS.out, Keeps.refl _ _⟩
  · refine (range_any S k lo hi w h hk (by omega) h2 h3).mono ?_
    rintro e w' ⟨r, rfl, r0, r1, hst, hkp⟩
    exact ⟨r, rfl, ⟨r0, Or.inr r1⟩, hst, hkp⟩

/-! ### Plans in memory that may be written -/
/-- Country i of a plan in block P, with its areas in a block of their own. -/
structure CtryAt (S P : Nat) (base : Nat) (w : World) (i : Nat) (c : Ctry) (b : Nat) : Prop where
  cells : ∀ j, j < 4 → w.cell? ⟨P, i * 4 + j, none⟩ = c.cells[j]?
  fine : CtryFine w c
  some : 1 ≤ c.an
  at_ : c.aa = Option.some ⟨b, 0, none⟩
  off : b ≠ S
  offP : b ≠ P
  lt : b < w.heap.size
  new : base ≤ b
  fro : ∀ j, w.frozen? ⟨b, j, none⟩ = false
structure PlanAt (S P : Nat) (base : Nat) (w : World) (l : List Ctry) (bs : List Nat) : Prop where
  len : l.length = 3
  each : ∀ i, i < 3 → CtryAt S P base w i (l.getD i noCtry) (bs.getD i 0)
  offS : P ≠ S
  lt : P < w.heap.size
  new : base ≤ P
  fro : ∀ j, w.frozen? ⟨P, j, none⟩ = false

def areaCells (l : List Area) : List Value := l.flatMap Area.cells
/-- A plan that a stream has handed out. -/
def PlanPost (S k : Nat) (w : World) (e : Ending) (w' : World) : Prop :=
  ∃ (P : Nat) (l : List Ctry), e = .returned (.slice (some ⟨P, 0, none⟩) 3 3) ∧ (∀ w9, Keeps S w' w9 → CtryRow w9 (some ⟨P, 0, none⟩) 3 l) ∧ (∀ i, i < l.length → 1 ≤ (l.getD i noCtry).an) ∧ StreamOk w' S k ∧ Keeps S w w'

theorem AreaRow.keeps {S : Nat} {w w' : World} {b n : Nat} {l : List Area} (h : AreaRow w (some ⟨b, 0, none⟩) n l) (hb : b ≠ S) (hk : Keeps S w w') : AreaRow w' (some ⟨b, 0, none⟩) n l := by
  refine ⟨h.len, h.row.imp id ?_⟩
  rintro ⟨b9, off, ha, hl, hc⟩
  injection ha with ha
  injection ha with e1 e2
  subst e1 e2
  exact ⟨b, 0, rfl, Nat.lt_of_lt_of_le hl hk.size, fun i hi j hj => (hk.cell (p := ⟨b, 0 + i * 3 + j, none⟩) hl hb).trans (hc i hi j hj)⟩
theorem CtryAt.keeps {S P base : Nat} {w w' : World} {i : Nat} {c : Ctry} {b : Nat} (h : CtryAt S P base w i c b) (hP : P < w.heap.size) (hS : P ≠ S) (hk : Keeps S w w') : CtryAt S P base w' i c b :=
  ⟨fun j hj => (hk.cell (p := ⟨P, i * 4 + j, none⟩) hP hS).trans (h.cells j hj), ⟨h.fine.code, h.fine.abroad, h.fine.trunk, h.fine.many, by have := h.fine.row; rw [h.at_] at this ⊢; exact this.keeps h.off hk, h.fine.each⟩, h.some, h.at_, h.off, h.offP, Nat.lt_of_lt_of_le h.lt hk.size, h.new, fun j => (hk.frozen (p := ⟨b, j, none⟩) h.lt h.off).trans (h.fro j)⟩
theorem PlanAt.keeps {S P base : Nat} {w w' : World} {l : List Ctry} {bs : List Nat} (h : PlanAt S P base w l bs) (hk : Keeps S w w') : PlanAt S P base w' l bs :=
  ⟨h.len, fun i hi => (h.each i hi).keeps h.lt h.offS hk, h.offS, Nat.lt_of_lt_of_le h.lt hk.size, h.new, fun j => (hk.frozen (p := ⟨P, j, none⟩) h.lt h.offS).trans (h.fro j)⟩
theorem PlanAt.row {S P base : Nat} {w : World} {l : List Ctry} {bs : List Nat} (h : PlanAt S P base w l bs) : CtryRow w (some ⟨P, 0, none⟩) 3 l :=
  ⟨h.len.symm, by omega, Or.inr ⟨P, 0, rfl, h.lt, fun i hi j hj => by rw [Nat.zero_add]; exact (h.each i hi).cells j hj⟩, fun i hi => (h.each i (by rw [h.len] at hi; exact hi)).fine⟩
theorem PlanAt.post {S P k : Nat} {w w' : World} {l : List Ctry} {bs : List Nat} {base : Nat} (h : PlanAt S P base w' l bs) (hs : StreamOk w' S k) (hk : Keeps S w w') : PlanPost S k w (.returned (.slice (some ⟨P, 0, none⟩) 3 3)) w' :=
  ⟨P, l, rfl, fun w9 h9 => (h.keeps h9).row, fun i hi => (h.each i (by rw [h.len] at hi; exact hi)).some, hs, hk⟩

/-- One area, written out. -/
def ar (p : List UInt8) (lo hi : Int) : Area := ⟨p, lo, hi⟩
theorem area_row2 {w : World} {b : Nat} {x y : Area} (hb : b < w.heap.size) (h : ∀ j v, ((x.cells ++ y.cells) : List Value)[j]? = some v → w.cell? ⟨b, j, none⟩ = some v) : AreaRow w (some ⟨b, 0, none⟩) 2 [x, y] := by
  refine ⟨rfl, Or.inr ⟨b, 0, rfl, hb, fun i hi j hj => ?_⟩⟩
  match i, hi, j, hj with
  | 0, _, 0, _ => exact h 0 _ rfl
  | 0, _, 1, _ => exact h 1 _ rfl
  | 0, _, 2, _ => exact h 2 _ rfl
  | 1, _, 0, _ => exact h 3 _ rfl
  | 1, _, 1, _ => exact h 4 _ rfl
  | 1, _, 2, _ => exact h 5 _ rfl
theorem area_row3 {w : World} {b : Nat} {x y z : Area} (hb : b < w.heap.size) (h : ∀ j v, ((x.cells ++ y.cells ++ z.cells) : List Value)[j]? = some v → w.cell? ⟨b, j, none⟩ = some v) : AreaRow w (some ⟨b, 0, none⟩) 3 [x, y, z] := by
  refine ⟨rfl, Or.inr ⟨b, 0, rfl, hb, fun i hi j hj => ?_⟩⟩
  match i, hi, j, hj with
  | 0, _, 0, _ => exact h 0 _ rfl
  | 0, _, 1, _ => exact h 1 _ rfl
  | 0, _, 2, _ => exact h 2 _ rfl
  | 1, _, 0, _ => exact h 3 _ rfl
  | 1, _, 1, _ => exact h 4 _ rfl
  | 1, _, 2, _ => exact h 5 _ rfl
  | 2, _, 0, _ => exact h 6 _ rfl
  | 2, _, 1, _ => exact h 7 _ rfl
  | 2, _, 2, _ => exact h 8 _ rfl

theorem heap_new (w : World) (o : Obj) : (w.alloc o).heap[w.heap.size]? = some o := by unfold World.alloc; simp
theorem block_cell {w : World} {b : Nat} {cs : Array Value} {t : TypeId} (h : w.heap[b]? = some (.cells cs t)) (j : Nat) : w.cell? ⟨b, j, none⟩ = cs[j]? := by simp [World.cell?, h]
theorem block_fro {w : World} {b : Nat} {cs : Array Value} {t : TypeId} (h : w.heap[b]? = some (.cells cs t)) (j : Nat) : w.frozen? ⟨b, j, none⟩ = false := by simp [World.frozen?, h]

end Go.Proofs.YtkdadbpajhdelaaGreatDoor

set_option linter.unusedVariables false
set_option linter.unusedSimpArgs false
namespace Go.Proofs.YtkdadbpajhdelaaGreatDoor
open Go.RowKit

theorem pick_lit (S k : Nat) (vals : List Int) (P : Int → Prop) (w : World) (cs : Array Value) (n : Nat) (h : StreamOk w S k) (hk : k ≤ 1000000000) (hcs : cs.toList = vals.map (Value.int .i64)) (hn : n = vals.length) (h1 : 1 ≤ vals.length) (h2 : vals.length ≤ 1000) (hP : ∀ x ∈ vals, P x) :
    Calls Tryz.prog 62 #[.pointer (some ⟨S, 0, none⟩), .slice (some ⟨w.heap.size, 0, none⟩) n n] (w.alloc (.cells cs 3)) (PickPost S (k + 1) P w) := by
  have hl := h.lt
  subst hn
  have hcs' : cs = (vals.map (Value.int .i64)).toArray := by rw [← hcs]
  subst hcs'
  refine (pick_any S k w.heap.size vals.length vals.length vals P _ (h.below (ext_alloc (Below.refl _ _))) hk (by simp) (by omega) h1 h2 (fun i hi => ?_) (fun i hi => ?_)).mono ?_
  · exact (new_cell w _ 3 (0, 0) i).trans (by simp [hi])
  · rw [show vals.getD i _ = vals[i] by simp [hi]]
    exact hP _ (List.getElem_mem hi)
  · rintro e w' ⟨r, rfl, hr, hst, hkp⟩
    exact ⟨r, rfl, hr, hst, (Keeps.of_below (ext_alloc (Below.refl _ _))).trans hkp⟩
theorem some_lit (S k : Nat) (vals : List (List UInt8)) (P : List UInt8 → Prop) (w : World) (cs : Array Value) (n : Nat) (h : StreamOk w S k) (hk : k ≤ 1000000000) (hcs : cs.toList = vals.map fun s => Value.string ⟨s.toArray⟩) (hn : n = vals.length) (h1 : 1 ≤ vals.length) (h2 : vals.length ≤ 1000) (hP : ∀ x ∈ vals, P x) :
    Calls Tryz.prog 9 #[.pointer (some ⟨S, 0, none⟩), .slice (some ⟨w.heap.size, 0, none⟩) n n] (w.alloc (.cells cs 9)) (SomePost S (k + 1) P w) := by
  have hl := h.lt
  subst hn
  have hcs' : cs = (vals.map fun s => Value.string ⟨s.toArray⟩).toArray := by rw [← hcs]
  subst hcs'
  refine (some_any S k w.heap.size vals.length vals.length vals P _ (h.below (ext_alloc (Below.refl _ _))) hk (by simp) (by omega) h1 h2 (fun i hi => ?_) (fun i hi => ?_)).mono ?_
  · exact (new_cell w _ 9 (0, 0) i).trans (by simp [hi])
  · rw [show vals.getD i _ = vals[i] by simp [hi]]
    exact hP _ (List.getElem_mem hi)
  · rintro e w' ⟨r, rfl, hr, hst, hkp⟩
    exact ⟨r, rfl, hr, hst, (Keeps.of_below (ext_alloc (Below.refl _ _))).trans hkp⟩

theorem bs_p6 (e : Operand → Value) (he : ∀ v, e (.const v) = v) (o : Oper) (w : World) (ho : o.op = .buildSlice 22 6 #[(0, .const (.int .i64 0)), (1, .const (.int .i64 0)), (2, .const (.int .i64 1)), (3, .const (.int .i64 9)), (4, .const (.int .i64 99)), (5, .const (.int .i64 300))]) :
   (execOp e o).run Tryz.prog w = .ok (.value (.slice (some ⟨w.heap.size, 0, none⟩) 6 6)) (w.alloc (.cells #[.int .i64 0, .int .i64 0, .int .i64 1, .int .i64 9, .int .i64 99, .int .i64 300] 3)) := by
  unfold execOp
  rw [ho]
  simp only [List.map_toArray, List.map_cons, List.map_nil, he]
  kernel_rfl
theorem bs_p5 (e : Operand → Value) (he : ∀ v, e (.const v) = v) (o : Oper) (w : World) (ho : o.op = .buildSlice 22 5 #[(0, .const (.int .i64 2)), (1, .const (.int .i64 2)), (2, .const (.int .i64 3)), (3, .const (.int .i64 10)), (4, .const (.int .i64 50))]) :
   (execOp e o).run Tryz.prog w = .ok (.value (.slice (some ⟨w.heap.size, 0, none⟩) 5 5)) (w.alloc (.cells #[.int .i64 2, .int .i64 2, .int .i64 3, .int .i64 10, .int .i64 50] 3)) := by
  unfold execOp
  rw [ho]
  simp only [List.map_toArray, List.map_cons, List.map_nil, he]
  kernel_rfl
theorem bs_p3 (e : Operand → Value) (he : ∀ v, e (.const v) = v) (o : Oper) (w : World) (ho : o.op = .buildSlice 22 3 #[(0, .const (.int .i64 1)), (1, .const (.int .i64 10)), (2, .const (.int .i64 50))]) :
   (execOp e o).run Tryz.prog w = .ok (.value (.slice (some ⟨w.heap.size, 0, none⟩) 3 3)) (w.alloc (.cells #[.int .i64 1, .int .i64 10, .int .i64 50] 3)) := by
  unfold execOp
  rw [ho]
  simp only [List.map_toArray, List.map_cons, List.map_nil, he]
  kernel_rfl
theorem bs_inst (e : Operand → Value) (he : ∀ v, e (.const v) = v) (o : Oper) (w : World) (i8 i9 i10 : Nat) (z8 z9 z10 : Int) (ho : o.op = .buildSlice 22 11 #[(0, .const (.int .i64 0)), (1, .const (.int .i64 5)), (2, .const (.int .i64 10)), (3, .const (.int .i64 20)), (4, .const (.int .i64 30)), (5, .const (.int .i64 40)), (6, .const (.int .i64 60)), (7, .const (.int .i64 100)), (8, .tmp i8), (9, .tmp i9), (10, .tmp i10)]) (h8 : e (.tmp i8) = .int .i64 z8) (h9 : e (.tmp i9) = .int .i64 z9) (h10 : e (.tmp i10) = .int .i64 z10) :
   (execOp e o).run Tryz.prog w = .ok (.value (.slice (some ⟨w.heap.size, 0, none⟩) 11 11)) (w.alloc (.cells #[.int .i64 0, .int .i64 5, .int .i64 10, .int .i64 20, .int .i64 30, .int .i64 40, .int .i64 60, .int .i64 100, .int .i64 z8, .int .i64 z9, .int .i64 z10] 3)) := by
  unfold execOp
  rw [ho]
  simp only [List.map_toArray, List.map_cons, List.map_nil, he, h8, h9, h10]
  kernel_rfl

end Go.Proofs.YtkdadbpajhdelaaGreatDoor

set_option linter.unusedVariables false
set_option linter.unusedSimpArgs false
namespace Go.Proofs.YtkdadbpajhdelaaGreatDoor
open Go.RowKit Go.Lib

theorem keeps_cellsD {S F : Nat} {a : World} (hF : a.heap.size ≤ F) : ∀ (vs : List Value) (w : World) (k : Nat), Keeps S a w → Keeps S a (w.setCells F k vs)
  | [], w, k, h => h
  | v :: vs, w, k, h => keeps_cellsD hF vs (w.setCell ⟨F, k, none⟩ v) (k + 1) (h.setCell_new hF v)
def RulePost (S k : Nat) (w : World) (e : Ending) (w' : World) : Prop := ∃ r : DRule, DRuleOk r ∧ e = .returned (.agg r.cells.toArray) ∧ StreamOk w' S k ∧ Keeps S w w'
theorem rule_made {S k : Nat} {w w' : World} {els : Els} {z1 z2 : Int} {s1 s2 s3 : List UInt8} (h1 : ElsOk els) (h2 : z1 = 0 ∨ z1 = 1 ∨ z1 = 2) (h3 : s1 ∈ ([[], [48], [42, 49]] : List (List UInt8))) (h4 : 1 ≤ z2 ∧ z2 ≤ 6) (h5 : s2 ∈ ([[], [104, 97], [104, 98]] : List (List UInt8))) (h6 : (3 ≤ z2 ∧ z2 ≤ 5) → s3 ∈ ([[109, 97, 105, 110], [104, 101, 108, 112]] : List (List UInt8))) (h7 : ¬ (3 ≤ z2 ∧ z2 ≤ 5) → s3 = []) (hs : StreamOk w' S k) (hk : Keeps S w w') : RulePost S k w (.returned (.agg #[.string ⟨els.str.toArray⟩, .int .i64 z1, .string ⟨s1.toArray⟩, .int .i64 z2, .string ⟨s3.toArray⟩, .string ⟨s2.toArray⟩])) w' := by
  obtain ⟨n1, rfl⟩ := Int.eq_ofNat_of_zero_le (show 0 ≤ z1 by omega)
  obtain ⟨n2, rfl⟩ := Int.eq_ofNat_of_zero_le (show 0 ≤ z2 by omega)
  exact ⟨⟨els, n1, s1, n2, s3, s2⟩, ⟨h1, by show n1 ≤ 2; omega, h3, ⟨by show 1 ≤ n2; omega, by show n2 ≤ 6; omega⟩, fun a b => h6 ⟨by have : 3 ≤ n2 := a; omega, by have : n2 ≤ 5 := b; omega⟩, fun a => h7 (fun b => by have : n2 < 3 ∨ 5 < n2 := a; omega), h5⟩, rfl, hs, hk⟩
theorem bl_dmk0 (e : Operand → Value) (he : ∀ v, e (.const v) = v) (o : Oper) (w : World)  (z0 : Int) (z1 : Int) (z2 : Int) (z3 : Int) (ho : o.op = .buildSlice 22 4 #[(0, .const (.int .i64 z0)), (1, .const (.int .i64 z1)), (2, .const (.int .i64 z2)), (3, .const (.int .i64 z3))])  :
   (execOp e o).run Tryz.prog w = .ok (.value (.slice (some ⟨w.heap.size, 0, none⟩) 4 4)) (w.alloc (.cells #[.int .i64 z0, .int .i64 z1, .int .i64 z2, .int .i64 z3] 3)) := by
  unfold execOp
  rw [ho]
  simp only [List.map_toArray, List.map_cons, List.map_nil, he]
  kernel_rfl
theorem bl_dmk1 (e : Operand → Value) (he : ∀ v, e (.const v) = v) (o : Oper) (w : World)  (p0 : ByteArray) (p1 : ByteArray) (p2 : ByteArray) (p3 : ByteArray) (ho : o.op = .buildSlice 33 4 #[(0, .const (.string p0)), (1, .const (.string p1)), (2, .const (.string p2)), (3, .const (.string p3))])  :
   (execOp e o).run Tryz.prog w = .ok (.value (.slice (some ⟨w.heap.size, 0, none⟩) 4 4)) (w.alloc (.cells #[.string p0, .string p1, .string p2, .string p3] 9)) := by
  unfold execOp
  rw [ho]
  simp only [List.map_toArray, List.map_cons, List.map_nil, he]
  kernel_rfl
theorem bl_dmk2 (e : Operand → Value) (he : ∀ v, e (.const v) = v) (o : Oper) (w : World)  (p0 : ByteArray) (p1 : ByteArray) (ho : o.op = .buildSlice 33 2 #[(0, .const (.string p0)), (1, .const (.string p1))])  :
   (execOp e o).run Tryz.prog w = .ok (.value (.slice (some ⟨w.heap.size, 0, none⟩) 2 2)) (w.alloc (.cells #[.string p0, .string p1] 9)) := by
  unfold execOp
  rw [ho]
  simp only [List.map_toArray, List.map_cons, List.map_nil, he]
  kernel_rfl
set_option maxRecDepth 100000 in
set_option maxHeartbeats 8000000 in
theorem rightRule_any (S k : Nat) (w : World) (h : StreamOk w S k) (hk : k ≤ 900000) : Calls Tryz.prog 21 #[.pointer (some ⟨S, 0, none⟩)] w (RulePost S (k + 11) w) := by
  have hSw := h.lt
  have HS1 : Hid (StreamOk (w.alloc (.cells #[.string ⟨#[]⟩, .int .i64 0, .string ⟨#[]⟩, .int .i64 0, .string ⟨#[]⟩, .string ⟨#[]⟩] 62)) S k) := h.below (ext_alloc (Below.refl _ _))
  have HK1 : Hid (Keeps S w (w.alloc (.cells #[.string ⟨#[]⟩, .int .i64 0, .string ⟨#[]⟩, .int .i64 0, .string ⟨#[]⟩, .string ⟨#[]⟩] 62))) := Keeps.of_below (ext_alloc (Below.refl _ _))
  have Q1 : Hid (Blk (w.alloc (.cells #[.string ⟨#[]⟩, .int .i64 0, .string ⟨#[]⟩, .int .i64 0, .string ⟨#[]⟩, .string ⟨#[]⟩] 62)) w.heap.size [.string ⟨#[]⟩, .int .i64 0, .string ⟨#[]⟩, .int .i64 0, .string ⟨#[]⟩, .string ⟨#[]⟩] 62) := Blk.new w _ _
  clear h
  go_enter Tryz.func21, Tryz.ntmps21
  go_upto_region 1 with (fail)
  generalize (w.alloc (.cells #[.string ⟨#[]⟩, .int .i64 0, .string ⟨#[]⟩, .int .i64 0, .string ⟨#[]⟩, .string ⟨#[]⟩] 62)) = w1 at HS1 HK1 Q1 ⊢
  obtain ⟨Q, hQ⟩ : ∃ Q, Q = w.heap.size := ⟨_, rfl⟩
  rw [← hQ] at Q1
  simp only [← hQ]
  have hQS : Q ≠ S := by omega
  have hQw : w.heap.size ≤ Q := by omega
  have hSQ : S + 1 ≤ Q := by omega
  clear hQ
  as_aux_lemma =>
    go_wp2_with fail
    refine (rightPattern_any S k _ HS1.out (by omega)).mono ?_
    rintro e w2 ⟨els, hels, rfl, hst, hk'⟩
    have HEL := Lib.hid hels
    clear hels
    have HS2 := Lib.hid hst
    have HK2 := Lib.hid (HK1.out.trans hk')
    have Q2 := Lib.hid (Q1.out.keeps hk' hQS)
    clear hst hk' HS1 HK1 Q1
    as_aux_lemma =>
      go_wp2_with ((refine wpList_val rfl (bl_dmk0 _ (fun _ => rfl) _ _  0 0 1 2 rfl) ?_))
      refine (pick_lit S (k + 6) [0, 0, 1, 2] (fun x => x = 0 ∨ x = 1 ∨ x = 2) _ _ _ HS2.out (by omega) rfl rfl (by decide) (by decide) (by decide)).mono ?_
      rintro e w3 ⟨z1, rfl, hz1, hst, hk'⟩
      have HZ1 := Lib.hid hz1
      clear hz1
      have HS3 := Lib.hid hst
      have HK3 := Lib.hid (HK2.out.trans hk')
      have Q3 := Lib.hid (Q2.out.keeps hk' hQS)
      clear hst hk' HS2 HK2 Q2
      as_aux_lemma =>
        go_wp2_with ((refine wpList_val rfl (bl_dmk1 _ (fun _ => rfl) _ _  ⟨#[]⟩ ⟨#[]⟩ ⟨#[48]⟩ ⟨#[42, 49]⟩ rfl) ?_))
        refine (some_lit S (k + 6 + 1) [[], [], [48], [42, 49]] (fun s => s ∈ ([[], [48], [42, 49]] : List (List UInt8))) _ _ _ HS3.out (by omega) rfl rfl (by decide) (by decide) (by decide)).mono ?_
        rintro e w4 ⟨s1, rfl, hs1, hst, hk'⟩
        have HS1_ := Lib.hid hs1
        clear hs1
        have HS4 := Lib.hid hst
        have HK4 := Lib.hid (HK3.out.trans hk')
        have Q4 := Lib.hid (Q3.out.keeps hk' hQS)
        clear hst hk' HS3 HK3 Q3
        as_aux_lemma =>
          go_wp2_with fail
          refine (range_any S (k + 6 + 1 + 1) 1 6 _ HS4.out (by omega) (by omega) (by omega) (by omega)).mono ?_
          rintro e w5 ⟨z2, rfl, hz2, hz3, hst, hk'⟩
          have HS5 := Lib.hid hst
          have HK5 := Lib.hid (HK4.out.trans hk')
          have Q5 := Lib.hid (Q4.out.keeps hk' hQS)
          clear hst hk' HS4 HK4 Q4
          as_aux_lemma =>
            go_wp2_with ((refine wpList_val rfl (bl_dmk1 _ (fun _ => rfl) _ _  ⟨#[]⟩ ⟨#[]⟩ ⟨#[104, 97]⟩ ⟨#[104, 98]⟩ rfl) ?_))
            refine (some_lit S (k + 6 + 1 + 1 + 1) [[], [], [104, 97], [104, 98]] (fun s => s ∈ ([[], [104, 97], [104, 98]] : List (List UInt8))) _ _ _ HS5.out (by omega) rfl rfl (by decide) (by decide) (by decide)).mono ?_
            rintro e w6 ⟨s2, rfl, hs2, hst, hk'⟩
            have HS2_ := Lib.hid hs2
            clear hs2
            have HS6 := Lib.hid hst
            have HK6 := Lib.hid (HK5.out.trans hk')
            have Q6 := Lib.hid (Q5.out.keeps hk' hQS)
            clear hst hk' HS5 HK5 Q5
            have hw6 : w.heap.size ≤ w6.heap.size := HK6.out.size
            have hQ6 : Q < w6.heap.size := Q6.out.lt
            have hS6 : S < w6.heap.size := Nat.lt_of_lt_of_le hSw hw6
            have hz0 := Blk.new w6 [.string ⟨#[]⟩, .int .i64 0, .string ⟨#[]⟩, .int .i64 0, .string ⟨#[]⟩, .string ⟨#[]⟩] 62
            have HTH : Hid (World.there (w6.alloc (.cells #[.string ⟨#[]⟩, .int .i64 0, .string ⟨#[]⟩, .int .i64 0, .string ⟨#[]⟩, .string ⟨#[]⟩] 62)) w6.heap.size 0 6) := hz0.th 6 (Nat.le_refl 6)
            have hA : Below w6.heap.size w6 (w6.alloc (.cells #[.string ⟨#[]⟩, .int .i64 0, .string ⟨#[]⟩, .int .i64 0, .string ⟨#[]⟩, .string ⟨#[]⟩] 62)) := ext_alloc (Below.refl _ _)
            have hV : Below w6.heap.size w6 (World.setCells (w6.alloc (.cells #[.string ⟨#[]⟩, .int .i64 0, .string ⟨#[]⟩, .int .i64 0, .string ⟨#[]⟩, .string ⟨#[]⟩] 62)) w6.heap.size 0 [.string ⟨els.str.toArray⟩, .int .i64 z1, .string ⟨s1.toArray⟩, .int .i64 z2, .string ⟨#[]⟩, .string ⟨s2.toArray⟩]) := belowW_put (Nat.le_refl _) hA _
            have X7 : Hid (Blk (World.setCells (w6.alloc (.cells #[.string ⟨#[]⟩, .int .i64 0, .string ⟨#[]⟩, .int .i64 0, .string ⟨#[]⟩, .string ⟨#[]⟩] 62)) w6.heap.size 0 [.string ⟨els.str.toArray⟩, .int .i64 z1, .string ⟨s1.toArray⟩, .int .i64 z2, .string ⟨#[]⟩, .string ⟨s2.toArray⟩]) w6.heap.size [.string ⟨els.str.toArray⟩, .int .i64 z1, .string ⟨s1.toArray⟩, .int .i64 z2, .string ⟨#[]⟩, .string ⟨s2.toArray⟩] 62) := hz0.put6 (.string ⟨els.str.toArray⟩) (.int .i64 z1) (.string ⟨s1.toArray⟩) (.int .i64 z2) (.string ⟨#[]⟩) (.string ⟨s2.toArray⟩)
            have Q7 := Lib.hid (Q6.out.below hV)
            have HS7 := Lib.hid (HS6.out.below hV)
            have HK7 := Lib.hid (HK6.out.trans (Keeps.of_below hV))
            clear hz0 hA hV Q6 HS6 HK6
            as_aux_lemma =>
              go_wp2_with (first | (refine wpList_store_mid rfl 62 (.tmp 3) (.tmp 17) rfl w6.heap.size 0 #[.string ⟨els.str.toArray⟩, .int .i64 z1, .string ⟨s1.toArray⟩, .int .i64 z2, .string ⟨#[]⟩, .string ⟨s2.toArray⟩] rfl rfl HTH.out Tryz.druleSz (by simp [Value.oneCell']) ?_; generalize (World.setCells (w6.alloc (.cells #[.string ⟨#[]⟩, .int .i64 0, .string ⟨#[]⟩, .int .i64 0, .string ⟨#[]⟩, .string ⟨#[]⟩] 62)) w6.heap.size 0 [.string ⟨els.str.toArray⟩, .int .i64 z1, .string ⟨s1.toArray⟩, .int .i64 z2, .string ⟨#[]⟩, .string ⟨s2.toArray⟩]) = w7 at X7 Q7 HS7 HK7 ⊢; clear HTH; refine Hid.out ?_))
              refine Lib.hid ?_
              have hXQ : w6.heap.size ≠ Q := by omega
              have hXS : w6.heap.size ≠ S := by omega
              have hSX : S + 1 ≤ w6.heap.size := by omega
              generalize w6.heap.size = X at X7 hXQ hXS hSX hw6 ⊢
              have x3 := X7.out.cell 3 rfl
              have HFIN : Hid (∀ (W : World) (s3 : List UInt8), ((3 ≤ z2 ∧ z2 ≤ 5) → s3 ∈ ([[109, 97, 105, 110], [104, 101, 108, 112]] : List (List UInt8))) → (¬ (3 ≤ z2 ∧ z2 ≤ 5) → s3 = []) → StreamOk W S (k + 11) → Keeps S w W → RulePost S (k + 11) w (.returned (.agg #[.string ⟨els.str.toArray⟩, .int .i64 z1, .string ⟨s1.toArray⟩, .int .i64 z2, .string ⟨s3.toArray⟩, .string ⟨s2.toArray⟩])) W) := fun W s3 h6 h7 hs hkk => rule_made HEL.out HZ1.out HS1_.out ⟨hz2, hz3⟩ HS2_.out h6 h7 hs hkk
              clear HEL HZ1 HS1_ HS2_
              by_cases hN : 3 ≤ z2 ∧ z2 ≤ 5
              case pos =>
                have hn1 := hN.1
                have hn2 := hN.2
                as_aux_lemma =>
                  go_wp2_with ((refine wpList_val rfl (bl_dmk2 _ (fun _ => rfl) _ _  ⟨#[109, 97, 105, 110]⟩ ⟨#[104, 101, 108, 112]⟩ rfl) ?_))
                  refine (some_lit S (k + 6 + 1 + 1 + 1 + 1) [[109, 97, 105, 110], [104, 101, 108, 112]] (fun s => s ∈ ([[109, 97, 105, 110], [104, 101, 108, 112]] : List (List UInt8))) _ _ _ HS7.out (by omega) rfl rfl (by decide) (by decide) (by decide)).mono ?_
                  rintro e w8 ⟨s3, rfl, hs3, hst, hk'⟩
                  have X8 := Lib.hid (X7.out.keeps hk' hXS)
                  have Q8 := Lib.hid (Q7.out.keeps hk' hQS)
                  have HK8 := Lib.hid (HK7.out.trans hk')
                  have X9 : Hid (Blk (w8.setCell ⟨X, 4, none⟩ (.string ⟨s3.toArray⟩)) X [.string ⟨els.str.toArray⟩, .int .i64 z1, .string ⟨s1.toArray⟩, .int .i64 z2, .string ⟨s3.toArray⟩, .string ⟨s2.toArray⟩] 62) := X8.out.put 4 _
                  have Q9 : Hid (Blk (w8.setCell ⟨X, 4, none⟩ (.string ⟨s3.toArray⟩)) Q [.string ⟨#[]⟩, .int .i64 0, .string ⟨#[]⟩, .int .i64 0, .string ⟨#[]⟩, .string ⟨#[]⟩] 62) := Q8.out.far (p := ⟨X, 4, none⟩) hXQ
                  have HK9 : Hid (Keeps S w (w8.setCell ⟨X, 4, none⟩ (.string ⟨s3.toArray⟩))) := HK8.out.setCell_new (p := ⟨X, 4, none⟩) hw6 _
                  have HS9 : Hid (StreamOk (w8.setCell ⟨X, 4, none⟩ (.string ⟨s3.toArray⟩)) S (k + 6 + 1 + 1 + 1 + 1 + 1)) := hst.upto ((Below.refl (S + 1) w8).setCell (p := ⟨X, 4, none⟩) hSX _)
                  have x4 := X8.out.cell 4 rfl
                  have f4 := X8.out.fr 4
                  clear hst hk' X7 Q7 HS7 HK7 X8 Q8 HK8 x3
                  as_aux_lemma =>
                    go_upto_region 4 with (fail)
                    generalize w8.setCell ⟨X, 4, none⟩ (.string ⟨s3.toArray⟩) = w9 at X9 Q9 HK9 HS9 ⊢
                    clear x4 f4
                    have HRX : Hid (w9.rangeAt X 0 [.string ⟨els.str.toArray⟩, .int .i64 z1, .string ⟨s1.toArray⟩, .int .i64 z2, .string ⟨s3.toArray⟩, .string ⟨s2.toArray⟩]) := X9.out.rng
                    have HTQ : Hid (w9.there Q 0 6) := Q9.out.th 6 (Nat.le_refl 6)
                    have QA : Hid (Blk (w9.setCells Q 0 [.string ⟨els.str.toArray⟩, .int .i64 z1, .string ⟨s1.toArray⟩, .int .i64 z2, .string ⟨s3.toArray⟩, .string ⟨s2.toArray⟩]) Q [.string ⟨els.str.toArray⟩, .int .i64 z1, .string ⟨s1.toArray⟩, .int .i64 z2, .string ⟨s3.toArray⟩, .string ⟨s2.toArray⟩] 62) := Q9.out.put6 _ _ _ _ _ _
                    have HF : Hid (RulePost S (k + 11) w (.returned (.agg #[.string ⟨els.str.toArray⟩, .int .i64 z1, .string ⟨s1.toArray⟩, .int .i64 z2, .string ⟨s3.toArray⟩, .string ⟨s2.toArray⟩])) (w9.setCells Q 0 [.string ⟨els.str.toArray⟩, .int .i64 z1, .string ⟨s1.toArray⟩, .int .i64 z2, .string ⟨s3.toArray⟩, .string ⟨s2.toArray⟩])) := HFIN.out _ s3 (fun _ => hs3) (fun h => absurd hN h) (HS9.out.upto (below_setCellsD hSQ _ _ _)) (keeps_cellsD hQw _ _ _ HK9.out)
                    clear HFIN X9 Q9 HK9 HS9 hs3
                    go_wp2_with (first | (refine wpList_load_mid rfl 62 (.tmp 3) rfl X 0 rfl [.string ⟨els.str.toArray⟩, .int .i64 z1, .string ⟨s1.toArray⟩, .int .i64 z2, .string ⟨s3.toArray⟩, .string ⟨s2.toArray⟩] _ HRX.out Tryz.underlying62 rfl Tryz.druleSz ?_) | (refine wpList_store_mid rfl 62 (.tmp 2) (.tmp 30) rfl Q 0 #[.string ⟨els.str.toArray⟩, .int .i64 z1, .string ⟨s1.toArray⟩, .int .i64 z2, .string ⟨s3.toArray⟩, .string ⟨s2.toArray⟩] rfl rfl HTQ.out Tryz.druleSz (by simp [Value.oneCell']) ?_; generalize w9.setCells Q 0 _ = W9 at QA HF ⊢))
                    refine bodyPost_ret (v := .agg #[.string ⟨els.str.toArray⟩, .int .i64 z1, .string ⟨s1.toArray⟩, .int .i64 z2, .string ⟨s3.toArray⟩, .string ⟨s2.toArray⟩]) ?_ rfl HF.out
                    exact results_cell1 (t := 2) (by rfl) _ _ _ Tryz.isAgg62 Tryz.sizeOf62 (by rfl) [.string ⟨els.str.toArray⟩, .int .i64 z1, .string ⟨s1.toArray⟩, .int .i64 z2, .string ⟨s3.toArray⟩, .string ⟨s2.toArray⟩] rfl (fun j v hj => QA.out.cell j hj)
              case neg =>
                have HRX : Hid (w7.rangeAt X 0 [.string ⟨els.str.toArray⟩, .int .i64 z1, .string ⟨s1.toArray⟩, .int .i64 z2, .string ⟨#[]⟩, .string ⟨s2.toArray⟩]) := X7.out.rng
                have HTQ : Hid (w7.there Q 0 6) := Q7.out.th 6 (Nat.le_refl 6)
                have QA : Hid (Blk (w7.setCells Q 0 [.string ⟨els.str.toArray⟩, .int .i64 z1, .string ⟨s1.toArray⟩, .int .i64 z2, .string ⟨#[]⟩, .string ⟨s2.toArray⟩]) Q [.string ⟨els.str.toArray⟩, .int .i64 z1, .string ⟨s1.toArray⟩, .int .i64 z2, .string ⟨#[]⟩, .string ⟨s2.toArray⟩] 62) := Q7.out.put6 _ _ _ _ _ _
                have HF : Hid (RulePost S (k + 11) w (.returned (.agg #[.string ⟨els.str.toArray⟩, .int .i64 z1, .string ⟨s1.toArray⟩, .int .i64 z2, .string ⟨#[]⟩, .string ⟨s2.toArray⟩])) (w7.setCells Q 0 [.string ⟨els.str.toArray⟩, .int .i64 z1, .string ⟨s1.toArray⟩, .int .i64 z2, .string ⟨#[]⟩, .string ⟨s2.toArray⟩])) := HFIN.out _ [] (fun h => absurd h hN) (fun _ => rfl) ((HS7.out.upto (below_setCellsD hSQ _ _ _)).mono (by omega)) (keeps_cellsD hQw _ _ _ HK7.out)
                clear HFIN X7 Q7 HK7 HS7
                by_cases hn3 : 3 ≤ z2
                · have hn5 : ¬ z2 ≤ 5 := by omega
                  as_aux_lemma =>
                    go_wp2_with (first | (refine wpList_load_mid rfl 62 (.tmp 3) rfl X 0 rfl [.string ⟨els.str.toArray⟩, .int .i64 z1, .string ⟨s1.toArray⟩, .int .i64 z2, .string ⟨#[]⟩, .string ⟨s2.toArray⟩] _ HRX.out Tryz.underlying62 rfl Tryz.druleSz ?_) | (refine wpList_store_mid rfl 62 (.tmp 2) (.tmp 30) rfl Q 0 #[.string ⟨els.str.toArray⟩, .int .i64 z1, .string ⟨s1.toArray⟩, .int .i64 z2, .string ⟨#[]⟩, .string ⟨s2.toArray⟩] rfl rfl HTQ.out Tryz.druleSz (by simp [Value.oneCell']) ?_; generalize w7.setCells Q 0 _ = W9 at QA HF ⊢))
                    refine bodyPost_ret (v := .agg #[.string ⟨els.str.toArray⟩, .int .i64 z1, .string ⟨s1.toArray⟩, .int .i64 z2, .string ⟨#[]⟩, .string ⟨s2.toArray⟩]) ?_ rfl HF.out
                    exact results_cell1 (t := 2) (by rfl) _ _ _ Tryz.isAgg62 Tryz.sizeOf62 (by rfl) [.string ⟨els.str.toArray⟩, .int .i64 z1, .string ⟨s1.toArray⟩, .int .i64 z2, .string ⟨#[]⟩, .string ⟨s2.toArray⟩] rfl (fun j v hj => QA.out.cell j hj)
                · skip
                  as_aux_lemma =>
                    go_wp2_with (first | (refine wpList_load_mid rfl 62 (.tmp 3) rfl X 0 rfl [.string ⟨els.str.toArray⟩, .int .i64 z1, .string ⟨s1.toArray⟩, .int .i64 z2, .string ⟨#[]⟩, .string ⟨s2.toArray⟩] _ HRX.out Tryz.underlying62 rfl Tryz.druleSz ?_) | (refine wpList_store_mid rfl 62 (.tmp 2) (.tmp 30) rfl Q 0 #[.string ⟨els.str.toArray⟩, .int .i64 z1, .string ⟨s1.toArray⟩, .int .i64 z2, .string ⟨#[]⟩, .string ⟨s2.toArray⟩] rfl rfl HTQ.out Tryz.druleSz (by simp [Value.oneCell']) ?_; generalize w7.setCells Q 0 _ = W9 at QA HF ⊢))
                    refine bodyPost_ret (v := .agg #[.string ⟨els.str.toArray⟩, .int .i64 z1, .string ⟨s1.toArray⟩, .int .i64 z2, .string ⟨#[]⟩, .string ⟨s2.toArray⟩]) ?_ rfl HF.out
                    exact results_cell1 (t := 2) (by rfl) _ _ _ Tryz.isAgg62 Tryz.sizeOf62 (by rfl) [.string ⟨els.str.toArray⟩, .int .i64 z1, .string ⟨s1.toArray⟩, .int .i64 z2, .string ⟨#[]⟩, .string ⟨s2.toArray⟩] rfl (fun j v hj => QA.out.cell j hj)
end Go.Proofs.YtkdadbpajhdelaaGreatDoor

set_option linter.unusedVariables false
set_option linter.unusedSimpArgs false
namespace Go.Proofs.YtkdadbpajhdelaaGreatDoor
open Go.RowKit Go.Lib

theorem hkey_facts (j : Nat) (hj : j < 2) : isKeyB (hourKeys.getD j []) = true ∧ (hourKeys.getD j []).length ≤ 10 := by
  match j, hj with
  | 0, _ => exact ⟨by decide, by decide⟩
  | 1, _ => exact ⟨by decide, by decide⟩
theorem hkey_less : Op.bytesLess (hourKeys.getD 1 []) (hourKeys.getD 0 []) = false ∧ (hourKeys.getD 1 [] == hourKeys.getD 0 []) = false := by
  unfold hourKeys
  exact ⟨by decide, by decide⟩
def hoursA (hk : List UInt8) (hz : Int) (hra : Option Addr) (hrn hrc : Nat) (hha : Option Addr) (hhn hhc : Nat) : Obj := .cells #[.string ⟨hk.toArray⟩, .int .i64 hz, .slice hra hrn hrc, .slice hha hhn hhc] 125
set_option maxRecDepth 100000 in
set_option maxHeartbeats 4000000 in
theorem checkHours_any (w : World) (a : Option Addr) (n cap : Nat) (l : List Hrs) (h : HrsRow w a n l) : Calls Tryz.prog 94 #[.slice a n cap] w (IntP 0 w) := by
  have hlen := h.len
  subst hlen
  obtain ⟨b, off, rfl, hb, hc⟩ := h.at
  have HC : Hid (∀ j, j < 2 → ∀ W, Below w.heap.size w W → (W.cell? ⟨b, off + j * 4, none⟩ = some (.string ⟨(hourKeys.getD j []).toArray⟩) ∧ W.cell? ⟨b, off + j * 4 + 1, none⟩ = some (.int .i64 (l.getD j noHrs).zone) ∧ W.cell? ⟨b, off + j * 4 + 2, none⟩ = some (.slice (l.getD j noHrs).ra (l.getD j noHrs).rn (l.getD j noHrs).rc) ∧ W.cell? ⟨b, off + j * 4 + 3, none⟩ = some (.slice (l.getD j noHrs).ha (l.getD j noHrs).hn (l.getD j noHrs).hc))) := fun j hj W hW => by
    obtain ⟨q0, q1, q2, q3⟩ := hc j hj
    exact ⟨(hW.cell (p := ⟨b, off + j * 4, none⟩) hb).trans q0, (hW.cell (p := ⟨b, off + j * 4 + 1, none⟩) hb).trans q1, (hW.cell (p := ⟨b, off + j * 4 + 2, none⟩) hb).trans q2, (hW.cell (p := ⟨b, off + j * 4 + 3, none⟩) hb).trans q3⟩
  have HT : Hid (∀ j, j < 2 → ∀ k W, Below w.heap.size w W → Calls Tryz.prog 144 #[.agg #[.string ⟨(k : List UInt8).toArray⟩, .int .i64 (l.getD j noHrs).zone, .slice (l.getD j noHrs).ra (l.getD j noHrs).rn (l.getD j noHrs).rc, .slice (l.getD j noHrs).ha (l.getD j noHrs).hn (l.getD j noHrs).hc]] W (IntP 0 W)) := fun j hj k W hW => checkTimes_ok W k _ _ _ _ _ _ _ _ _ ((h.rows j hj).below hW) ((h.hols j hj).below hW) (h.ok j hj)
  have HZ : Hid (∀ j, j < 2 → -1440 ≤ (l.getD j noHrs).zone ∧ (l.getD j noHrs).zone ≤ 1440) := fun j hj => ⟨(h.ok j hj).z0, (h.ok j hj).z1⟩
  clear hc h
  go_enter Tryz.func94, Tryz.ntmps94
  go_wp2_with fail
  go_loopw [11] (fun it wr => ∃ j : Nat, j ≤ 2 ∧ it = .int .i64 j ∧ Hid (Below w.heap.size w wr)) (fun it _ => 2 - (intOf it).toNat)
  case atStart => exact ⟨0, by omega, rfl, Below.refl _ _⟩
  case round =>
    obtain ⟨j, hj, rfl, HB⟩ := hrel
    by_cases hlt : j < 2
    case neg =>
      have hnn : ¬ (j : Int) < 2 := by omega
      as_aux_lemma =>
        go_wp2_with fail
        go_ret
        exact ⟨rfl, HB.out⟩
    obtain ⟨c0, c1, c2, c3⟩ := HC.out j hlt wr HB.out
    obtain ⟨z0, z1⟩ := HZ.out j hlt
    obtain ⟨hkey, hkl⟩ := hkey_facts j hlt
    have HTJ := Lib.hid (HT.out j hlt (hourKeys.getD j []))
    have HPR : Hid (0 < j → ∀ W, Below w.heap.size w W → W.cell? ⟨b, off + (j - 1) * 4, none⟩ = some (.string ⟨(hourKeys.getD (j - 1) []).toArray⟩)) := fun hj0 W hW => (HC.out (j - 1) (by omega) W hW).1
    have HLS : Hid (0 < j → Op.bytesLess (hourKeys.getD j []) (hourKeys.getD (j - 1) []) = false ∧ (hourKeys.getD j [] == hourKeys.getD (j - 1) []) = false) := fun hj0 => by
      obtain rfl : j = 1 := by omega
      exact hkey_less
    have HIK := Lib.hid (fun W => isKey_any (hourKeys.getD j []) W (by omega))
    rw [hkey] at HIK
    clear hkey HC HZ HT
    generalize hourKeys.getD (j - 1) [] = q at HPR HLS
    generalize hourKeys.getD j [] = k at c0 HTJ HLS HIK hkl
    generalize l.getD j noHrs = hh at c1 c2 c3 z0 z1 HTJ
    obtain ⟨_, hz, hra, hrn, hrc, hha, hhn, hhc, hr, hl⟩ := hh
    simp only at c1 c2 c3 z0 z1 HTJ
    have hj0 : ¬ ((j : Int) < 0) := by omega
    have hj2 : (j : Int) < 2 := by omega
    have hA : Below wr.heap.size wr (wr.alloc (hoursA k hz hra hrn hrc hha hhn hhc)) := ext_alloc (Below.refl _ _)
    have HA := Lib.hid hA
    clear hA
    as_aux_lemma =>
      go_wp2_with fail
      refine (HIK.out _).mono ?_
      rintro e w1 ⟨rfl, hB1⟩
      have hB1' : Below (wr.alloc (hoursA k hz hra hrn hrc hha hhn hhc)).heap.size (wr.alloc (hoursA k hz hra hrn hrc hha hhn hhc)) w1 := hB1
      have k0 := (hB1'.cell (p := ⟨wr.heap.size, 0, none⟩) (by simp)).trans (show _ = some (.string ⟨k.toArray⟩) by unfold hoursA; go_simp)
      have k1 := (hB1'.cell (p := ⟨wr.heap.size, 1, none⟩) (by simp)).trans (show _ = some (.int .i64 hz) by unfold hoursA; go_simp)
      have k2 := (hB1'.cell (p := ⟨wr.heap.size, 2, none⟩) (by simp)).trans (show _ = some (.slice hra hrn hrc) by unfold hoursA; go_simp)
      have k3 := (hB1'.cell (p := ⟨wr.heap.size, 3, none⟩) (by simp)).trans (show _ = some (.slice hha hhn hhc) by unfold hoursA; go_simp)
      have HB1 : Hid (Below w.heap.size w w1) := ext_trans HB.out (ext_trans HA.out hB1')
      clear hB1 hB1' HA HB c0 c1 c2 c3
      generalize wr.heap.size = X at k0 k1 k2 k3 ⊢
      by_cases hjz : j = 0
      · subst hjz
        clear HPR HLS
        as_aux_lemma =>
          go_wp2_with fail
          go_quiet (fail)
          have HBQ : Hid (Below w.heap.size w (w1.drewN nq)) := ext_drewN HB1.out
          go_wp2_with (go_at_call 74; refine (within_d _ _ _ _ z0 z1).mono ?_; rintro e w' ⟨rfl, rfl⟩)
          refine (HTJ.out _ HBQ.out).mono ?_
          rintro e w2 ⟨rfl, hB2⟩
          have HB2 := Lib.hid (ext_trans HBQ.out hB2)
          clear hB2
          go_wp2_with fail
          go_roundw
          case rel => exact ⟨0 + 1, by omega, by go_num, HB2.out⟩
          case measure => simp [intOf]
      · obtain ⟨i, rfl⟩ : ∃ i, j = i + 1 := ⟨j - 1, by omega⟩
        have p0 := HPR.out (by omega) w1 HB1.out
        obtain ⟨hx1, hx3⟩ := HLS.out (by omega)
        rw [Nat.add_sub_cancel] at p0
        have w1_ : IntKind.i64.wrap (i : Int) = i := IntWalk.i64_in _ (by omega)
        have w2_ : IntKind.i64.wrap ((i : Int) + 1 - 1) = i := by rw [Int.add_sub_cancel]; exact w1_
        have w3_ : (i : Int) < 2 := by omega
        have w4_ : (0 : Int) ≤ (i : Int) := by omega
        clear HPR HLS
        as_aux_lemma =>
          go_wp2_with fail
          go_quiet (fail)
          have HBQ : Hid (Below w.heap.size w (w1.drewN nq)) := ext_drewN HB1.out
          go_wp2_with (go_at_call 74; refine (within_d _ _ _ _ z0 z1).mono ?_; rintro e w' ⟨rfl, rfl⟩)
          refine (HTJ.out _ HBQ.out).mono ?_
          rintro e w2 ⟨rfl, hB2⟩
          have HB2 := Lib.hid (ext_trans HBQ.out hB2)
          clear hB2
          go_wp2_with fail
          go_roundw
          case rel => exact ⟨i + 1 + 1, by omega, by go_num, HB2.out⟩
          case measure => simp [intOf]; omega
end Go.Proofs.YtkdadbpajhdelaaGreatDoor

set_option linter.unusedVariables false
set_option linter.unusedSimpArgs false
namespace Go.Proofs.YtkdadbpajhdelaaGreatDoor
open Go.RowKit Go.Lib

theorem ckey_facts (j : Nat) (hj : j < 3) : isKeyB (ctxKey j) = true ∧ (ctxKey j).length ≤ 10 := by
  match j, hj with
  | 0, _ => exact ⟨by decide, by decide⟩
  | 1, _ => exact ⟨by decide, by decide⟩
  | 2, _ => exact ⟨by decide, by decide⟩
theorem ckey_less (j : Nat) (hj : j < 3) (h0 : 0 < j) : Op.bytesLess (ctxKey j) (ctxKey (j - 1)) = false ∧ (ctxKey j == ctxKey (j - 1)) = false := by
  match j, hj, h0 with
  | 1, _, _ => exact ⟨by decide, by decide⟩
  | 2, _, _ => exact ⟨by decide, by decide⟩
theorem ckey_inj {i j : Nat} (hi : i < 3) (hj : j < 3) (h : ctxKey i = ctxKey j) : i = j := by
  match i, j, hi, hj, h with
  | 0, 0, _, _, _ => rfl
  | 1, 1, _, _, _ => rfl
  | 2, 2, _, _, _ => rfl
  | 0, 1, _, _, h => exact absurd h (by decide)
  | 0, 2, _, _, h => exact absurd h (by decide)
  | 1, 0, _, _, h => exact absurd h (by decide)
  | 1, 2, _, _, h => exact absurd h (by decide)
  | 2, 0, _, _, h => exact absurd h (by decide)
  | 2, 1, _, _, h => exact absurd h (by decide)
theorem inc_once {w : World} {b off c : Nat} {incs : List Nat} (hc : ∀ i, i < incs.length → w.cell? ⟨b, off + i, none⟩ = some (.string ⟨(ctxKey (incs.getD i 0)).toArray⟩)) (h3 : ∀ j ∈ incs, j < 3) (hn : incs.Nodup) (q : Nat) (hq : q < incs.length) (hl : incs.length ≤ 100) : Calls Tryz.prog 11 #[.slice (some ⟨b, off, none⟩) q c, .string ⟨(ctxKey (incs.getD q 0)).toArray⟩] w fun e w' => e = .returned (.bool false) ∧ w' = w := by
  refine (Tryz.slices_hasS b off q c (incs.map fun j => ⟨(ctxKey j).toArray⟩) ⟨(ctxKey (incs.getD q 0)).toArray⟩ w (by simp; omega) (by omega) (fun j hj => ?_)).mono ?_
  · have hj' : j < incs.length := by simpa using hj
    rw [hc j hj']
    simp [hj']
  · rintro e w' ⟨rfl, rfl⟩
    refine ⟨?_, rfl⟩
    congr 2
    rw [Bool.eq_false_iff]
    intro h
    rw [Lib.containsS_iff, ← List.map_take, List.mem_map] at h
    obtain ⟨x, hx, e⟩ := h
    obtain ⟨k, hk, rfl⟩ := List.getElem_of_mem hx
    have hk1 : k < q := by rw [List.length_take] at hk; omega
    rw [List.getElem_take] at e
    have e2 : ctxKey incs[k] = ctxKey (incs.getD q 0) := by simpa using e
    have hqm : incs.getD q 0 = incs[q] := by rw [List.getD_eq_getElem?_getD, List.getElem?_eq_getElem hq]; rfl
    rw [hqm] at e2
    have e3 := ckey_inj (h3 _ (List.getElem_mem _)) (h3 _ (List.getElem_mem _)) e2
    exact (List.pairwise_iff_getElem.1 hn) k q (by omega) hq hk1 e3
set_option maxRecDepth 100000 in
set_option maxHeartbeats 8000000 in
theorem checkContext_any (w : World) (p : DPlan) (hp : DPlanFine w p) (i : Nat) (hi : i < 3) : Calls Tryz.prog 95 #[.agg p.cells.toArray, .int .i64 i] w (IntP 0 w) := by
  have HRU : Hid (∀ W, Below w.heap.size w W → ∀ k, k < (p.ctxs.getD i noDCtx).rn → Calls Tryz.prog 145 #[.agg p.cells.toArray, .agg (p.ctxs.getD i noDCtx).cells.toArray, .int .i64 k] W (IntP 0 W)) := fun W hW k hk => checkRule_any W p (hp.below hW) i hi k hk
  have hc := hp.each i hi
  have hkey := hp.keys i hi
  obtain ⟨hi3, hino, hi2⟩ := hp.incs i hi
  have hlen := hp.len
  obtain ⟨g, go, ha0, hg, hcl⟩ := hp.at
  have HCL : Hid (∀ W, Below w.heap.size w W → W.cell? ⟨g, go + i * 3, none⟩ = some (.string ⟨(ctxKey i).toArray⟩) ∧ W.cell? ⟨g, go + i * 3 + 1, none⟩ = some (.slice (p.ctxs.getD i noDCtx).ra (p.ctxs.getD i noDCtx).rn (p.ctxs.getD i noDCtx).rc) ∧ W.cell? ⟨g, go + i * 3 + 2, none⟩ = some (.slice (p.ctxs.getD i noDCtx).ia (p.ctxs.getD i noDCtx).inn (p.ctxs.getD i noDCtx).ic)) := fun W hW => by
    obtain ⟨q0, q1, q2⟩ := hcl i hi
    exact ⟨(hW.cell (p := ⟨g, go + i * 3, none⟩) hg).trans q0, (hW.cell (p := ⟨g, go + i * 3 + 1, none⟩) hg).trans q1, (hW.cell (p := ⟨g, go + i * 3 + 2, none⟩) hg).trans q2⟩
  have HPV : Hid (0 < i → ∀ W, Below w.heap.size w W → W.cell? ⟨g, go + (i - 1) * 3, none⟩ = some (.string ⟨(ctxKey (i - 1)).toArray⟩)) := fun h0 W hW => (hW.cell (p := ⟨g, go + (i - 1) * 3, none⟩) hg).trans (hcl (i - 1) (by omega)).1
  have HLS : Hid (0 < i → Op.bytesLess (ctxKey i) (ctxKey (i - 1)) = false ∧ (ctxKey i == ctxKey (i - 1)) = false) := fun h0 => ckey_less i hi h0
  obtain ⟨hik, hikl⟩ := ckey_facts i hi
  have HIK := Lib.hid (fun W => isKey_any (ctxKey i) W (by omega))
  rw [hik] at HIK
  clear hp hcl hik
  generalize p.ctxs.getD i noDCtx = c at hc hkey hi3 hino hi2 HRU HCL
  obtain ⟨ca, cn, cc, ctxs, ha, hn, hcp, hrs⟩ := p
  obtain ⟨key, ra, rn, rc, rules, ia, inn, ic, incs⟩ := c
  simp only at ha0 hlen hkey hi3 hino hi2 HCL
  subst ha0
  subst hlen
  have hfew := hc.rules.few
  have hcap := hc.cap
  have hicap := hc.icap
  have hil := hc.ilen
  simp only at hfew hcap hicap hil
  have HIN : Hid (∀ q, q < inn → ∃ b off, ia = some ⟨b, off, none⟩ ∧ b < w.heap.size ∧ ∀ W, Below w.heap.size w W → (W.cell? ⟨b, off + q, none⟩ = some (.string ⟨(ctxKey (incs.getD q 0)).toArray⟩) ∧ Calls Tryz.prog 11 #[.slice (some ⟨b, off, none⟩) q ic, .string ⟨(ctxKey (incs.getD q 0)).toArray⟩] W fun e w' => e = .returned (.bool false) ∧ w' = W)) := fun q hq => by
    obtain ⟨b, off, e, hb, hcc⟩ := hc.inc (show 0 < inn by omega)
    refine ⟨b, off, e, hb, fun W hW => ⟨(hW.cell (p := ⟨b, off + q, none⟩) hb).trans (hcc q hq), ?_⟩⟩
    exact inc_once (fun i hi => (hW.cell (p := ⟨b, off + i, none⟩) hb).trans (hcc i (show i < inn by rw [hil]; exact hi))) (fun j hj => (hi3 j hj).2) hino q (show q < incs.length by omega) (show incs.length ≤ 100 by omega)
  have hinn : inn ≤ 3 := by omega
  clear hc hi3 hino hil hi2
  have HRU2 : Hid (∀ W, Below w.heap.size w W → ∀ k, k < rn → Calls Tryz.prog 145 #[.agg #[.slice (some ⟨g, go, none⟩) 3 cc, .slice ha hn hcp], .agg #[.string ⟨key.toArray⟩, .slice ra rn rc, .slice ia inn ic], .int .i64 k] W (IntP 0 W)) := HRU.out
  rw [← hkey] at HIK HLS HCL
  clear HRU hkey
  show Calls Tryz.prog 95 #[.agg #[.slice (some ⟨g, go, none⟩) 3 cc, .slice ha hn hcp], .int .i64 i] w _
  have P1 : Hid (Blk (w.alloc (.cells #[.slice (some ⟨g, go, none⟩) 3 cc, .slice ha hn hcp] 29)) w.heap.size [.slice (some ⟨g, go, none⟩) 3 cc, .slice ha hn hcp] 29) := Blk.new w _ _
  have HB1 : Hid (Below w.heap.size w (w.alloc (.cells #[.slice (some ⟨g, go, none⟩) 3 cc, .slice ha hn hcp] 29))) := ext_alloc (Below.refl _ _)
  go_enter Tryz.func95, Tryz.ntmps95
  go_upto_region 1 with (fail)
  generalize (w.alloc (.cells #[.slice (some ⟨g, go, none⟩) 3 cc, .slice ha hn hcp] 29)) = w1 at P1 HB1 ⊢
  obtain ⟨P, hP⟩ : ∃ P, P = w.heap.size := ⟨_, rfl⟩
  rw [← hP] at P1
  simp only [← hP]
  clear hP
  obtain ⟨c0, c1, c2⟩ := HCL.out w1 HB1.out
  have hj0 : ¬ ((i : Int) < 0) := by omega
  have hj3 : (i : Int) < 3 := by omega
  have p0 := P1.out.cell 0 rfl
  have p1 := P1.out.cell 1 rfl
  have hA : Below w1.heap.size w1 (w1.alloc (.cells #[.string ⟨key.toArray⟩, .slice ra rn rc, .slice ia inn ic] 59)) := ext_alloc (Below.refl _ _)
  have C2 : Hid (Blk (w1.alloc (.cells #[.string ⟨key.toArray⟩, .slice ra rn rc, .slice ia inn ic] 59)) w1.heap.size [.string ⟨key.toArray⟩, .slice ra rn rc, .slice ia inn ic] 59) := Blk.new w1 _ _
  have P2 := Lib.hid (P1.out.below hA)
  have HB2 := Lib.hid (ext_trans HB1.out hA)
  clear hA P1 HB1
  as_aux_lemma =>
    go_wp2_with fail
    refine (HIK.out _).mono ?_
    rintro e w3 ⟨rfl, hb⟩
    have hb' : Below (w1.alloc (.cells #[.string ⟨key.toArray⟩, .slice ra rn rc, .slice ia inn ic] 59)).heap.size (w1.alloc (.cells #[.string ⟨key.toArray⟩, .slice ra rn rc, .slice ia inn ic] 59)) w3 := hb
    have HB3 := Lib.hid (ext_trans HB2.out hb')
    have P3 := Lib.hid (P2.out.below hb')
    have C3 := Lib.hid (C2.out.below hb')
    clear hb hb' HB2 P2 C2 c0 c1 c2 p0 p1 HCL HIK
    generalize w1.heap.size = C at C3 ⊢
    have p0 := P3.out.cell 0 rfl
    have p1 := P3.out.cell 1 rfl
    have c0 := C3.out.cell 0 rfl
    have c1 := C3.out.cell 1 rfl
    have c2 := C3.out.cell 2 rfl
    by_cases hiz : i = 0
    case pos =>
      subst hiz
      clear HPV HLS
      as_aux_lemma =>
        go_wp2_with fail
        go_quiet (fail)
        have HB4 : Hid (Below w.heap.size w (w3.drewN nq)) := ext_drewN HB3.out
        have P4 : Hid (Blk (w3.drewN nq) P [.slice (some ⟨g, go, none⟩) 3 cc, .slice ha hn hcp] 29) := P3.out.below (ext_drewN (Below.refl _ _))
        have C4 : Hid (Blk (w3.drewN nq) C [.string ⟨key.toArray⟩, .slice ra rn rc, .slice ia inn ic] 59) := C3.out.below (ext_drewN (Below.refl _ _))
        clear HB3 P3 C3 p0 p1 c0 c1 c2
        generalize w3.drewN nq = w4 at HB4 P4 C4 ⊢
        have p0 := P4.out.cell 0 rfl
        have p1 := P4.out.cell 1 rfl
        have c0 := C4.out.cell 0 rfl
        have c1 := C4.out.cell 1 rfl
        have c2 := C4.out.cell 2 rfl
        have hr200 : ¬ ((rn : Int) > 200) := by omega
        as_aux_lemma =>
          go_wp2_with fail
          go_loopw [43] (fun it wr => ∃ j : Nat, j ≤ rn ∧ it = .int .i64 j ∧ Hid (Below w4.heap.size w4 wr)) (fun it _ => rn - (intOf it).toNat)
          case atStart => exact ⟨0, Nat.zero_le _, rfl, Below.refl _ _⟩
          case round =>
            obtain ⟨j, hj, rfl, HJ⟩ := hrel
            clear p0 p1 c0 c1 c2
            have PJ := Lib.hid (P4.out.below HJ.out)
            have CJ := Lib.hid (C4.out.below HJ.out)
            have HBJ := Lib.hid (ext_trans HB4.out HJ.out)
            have p0 := PJ.out.cell 0 rfl
            have p1 := PJ.out.cell 1 rfl
            have c0 := CJ.out.cell 0 rfl
            have c1 := CJ.out.cell 1 rfl
            have c2 := CJ.out.cell 2 rfl
            by_cases hlt : j < rn
            · have hjr : (j : Int) < (rn : Int) := by omega
              have HRJ := Lib.hid (HRU2.out wr HBJ.out j hlt)
              as_aux_lemma =>
                go_wp2_with fail
                refine HRJ.out.mono ?_
                rintro e w5 ⟨rfl, hb⟩
                have HJ5 := Lib.hid (ext_trans HJ.out hb)
                clear hb
                as_aux_lemma =>
                  go_wp2_with fail
                  go_roundw
                  case rel => exact ⟨j + 1, by omega, by go_num, HJ5.out⟩
                  case measure => simp [intOf]; omega
            · have hnr : ¬ (j : Int) < (rn : Int) := by omega
              have h10 : ¬ ((inn : Int) > 10) := by omega
              clear HRU2 HJ HB4 P4 C4
              obtain ⟨wo, rfl⟩ : ∃ wo : World, wo = wr := ⟨_, rfl⟩
              as_aux_lemma =>
                go_wp2_with fail
                go_loopw [61] (fun it wq => ∃ q : Nat, q ≤ inn ∧ it = .int .i64 q ∧ Hid (Below wo.heap.size wo wq)) (fun it _ => inn - (intOf it).toNat)
                case atStart => exact ⟨0, Nat.zero_le _, rfl, Below.refl _ _⟩
                case round =>
                  obtain ⟨q, hq, rfl, HQ⟩ := hrel
                  clear p0 p1 c0 c1 c2
                  have CQ := Lib.hid (CJ.out.below HQ.out)
                  have HBQ := Lib.hid (ext_trans HBJ.out HQ.out)
                  have c0 := CQ.out.cell 0 rfl
                  have c1 := CQ.out.cell 1 rfl
                  have c2 := CQ.out.cell 2 rfl
                  by_cases hlq : q < inn
                  · obtain ⟨b, off, rfl, hb, hcw⟩ := HIN.out q hlq
                    obtain ⟨y0, hcon⟩ := hcw wr HBQ.out
                    have HCN := Lib.hid hcon
                    have hq0 : ¬ ((q : Int) < 0) := by omega
                    have hqi : (q : Int) < (inn : Int) := by omega
                    have hqc : (q : Int) ≤ (ic : Int) := by omega
                    clear hcw hcon HIN CJ HBJ
                    generalize ctxKey (incs.getD q 0) = s at y0 HCN
                    as_aux_lemma =>
                      go_wp2_with fail
                      refine HCN.out.mono ?_
                      rintro e w' ⟨rfl, hw⟩
                      subst hw
                      as_aux_lemma =>
                        go_wp2_with fail
                        go_roundw
                        case rel => exact ⟨q + 1, by omega, by go_num, HQ.out⟩
                        case measure => simp [intOf]; omega
                  · have hnq : ¬ (q : Int) < (inn : Int) := by omega
                    as_aux_lemma =>
                      go_wp2_with fail
                      go_ret
                      exact ⟨rfl, HBQ.out⟩
    case neg =>
      obtain ⟨x, rfl⟩ : ∃ x, i = x + 1 := ⟨i - 1, by omega⟩
      have g0 := HPV.out (by omega) w3 HB3.out
      obtain ⟨hx1, hx3⟩ := HLS.out (by omega)
      rw [Nat.add_sub_cancel] at g0 hx1 hx3
      generalize ctxKey x = pk at g0 hx1 hx3
      have w1_ : IntKind.i64.wrap (x : Int) = x := IntWalk.i64_in _ (by omega)
      have w2_ : IntKind.i64.wrap ((x : Int) + 1 - 1) = x := by rw [Int.add_sub_cancel]; exact w1_
      have w3_ : (x : Int) < 3 := by omega
      have w4_ : (0 : Int) ≤ (x : Int) := by omega
      clear HPV HLS
      as_aux_lemma =>
        go_wp2_with fail
        go_quiet (fail)
        have HB4 : Hid (Below w.heap.size w (w3.drewN nq)) := ext_drewN HB3.out
        have P4 : Hid (Blk (w3.drewN nq) P [.slice (some ⟨g, go, none⟩) 3 cc, .slice ha hn hcp] 29) := P3.out.below (ext_drewN (Below.refl _ _))
        have C4 : Hid (Blk (w3.drewN nq) C [.string ⟨key.toArray⟩, .slice ra rn rc, .slice ia inn ic] 59) := C3.out.below (ext_drewN (Below.refl _ _))
        clear g0 HB3 P3 C3 p0 p1 c0 c1 c2
        generalize w3.drewN nq = w4 at HB4 P4 C4 ⊢
        have p0 := P4.out.cell 0 rfl
        have p1 := P4.out.cell 1 rfl
        have c0 := C4.out.cell 0 rfl
        have c1 := C4.out.cell 1 rfl
        have c2 := C4.out.cell 2 rfl
        have hr200 : ¬ ((rn : Int) > 200) := by omega
        as_aux_lemma =>
          go_wp2_with fail
          go_loopw [43] (fun it wr => ∃ j : Nat, j ≤ rn ∧ it = .int .i64 j ∧ Hid (Below w4.heap.size w4 wr)) (fun it _ => rn - (intOf it).toNat)
          case atStart => exact ⟨0, Nat.zero_le _, rfl, Below.refl _ _⟩
          case round =>
            obtain ⟨j, hj, rfl, HJ⟩ := hrel
            clear p0 p1 c0 c1 c2
            have PJ := Lib.hid (P4.out.below HJ.out)
            have CJ := Lib.hid (C4.out.below HJ.out)
            have HBJ := Lib.hid (ext_trans HB4.out HJ.out)
            have p0 := PJ.out.cell 0 rfl
            have p1 := PJ.out.cell 1 rfl
            have c0 := CJ.out.cell 0 rfl
            have c1 := CJ.out.cell 1 rfl
            have c2 := CJ.out.cell 2 rfl
            by_cases hlt : j < rn
            · have hjr : (j : Int) < (rn : Int) := by omega
              have HRJ := Lib.hid (HRU2.out wr HBJ.out j hlt)
              as_aux_lemma =>
                go_wp2_with fail
                refine HRJ.out.mono ?_
                rintro e w5 ⟨rfl, hb⟩
                have HJ5 := Lib.hid (ext_trans HJ.out hb)
                clear hb
                as_aux_lemma =>
                  go_wp2_with fail
                  go_roundw
                  case rel => exact ⟨j + 1, by omega, by go_num, HJ5.out⟩
                  case measure => simp [intOf]; omega
            · have hnr : ¬ (j : Int) < (rn : Int) := by omega
              have h10 : ¬ ((inn : Int) > 10) := by omega
              clear HRU2 HJ HB4 P4 C4
              obtain ⟨wo, rfl⟩ : ∃ wo : World, wo = wr := ⟨_, rfl⟩
              as_aux_lemma =>
                go_wp2_with fail
                go_loopw [61] (fun it wq => ∃ q : Nat, q ≤ inn ∧ it = .int .i64 q ∧ Hid (Below wo.heap.size wo wq)) (fun it _ => inn - (intOf it).toNat)
                case atStart => exact ⟨0, Nat.zero_le _, rfl, Below.refl _ _⟩
                case round =>
                  obtain ⟨q, hq, rfl, HQ⟩ := hrel
                  clear p0 p1 c0 c1 c2
                  have CQ := Lib.hid (CJ.out.below HQ.out)
                  have HBQ := Lib.hid (ext_trans HBJ.out HQ.out)
                  have c0 := CQ.out.cell 0 rfl
                  have c1 := CQ.out.cell 1 rfl
                  have c2 := CQ.out.cell 2 rfl
                  by_cases hlq : q < inn
                  · obtain ⟨b, off, rfl, hb, hcw⟩ := HIN.out q hlq
                    obtain ⟨y0, hcon⟩ := hcw wr HBQ.out
                    have HCN := Lib.hid hcon
                    have hq0 : ¬ ((q : Int) < 0) := by omega
                    have hqi : (q : Int) < (inn : Int) := by omega
                    have hqc : (q : Int) ≤ (ic : Int) := by omega
                    clear hcw hcon HIN CJ HBJ
                    generalize ctxKey (incs.getD q 0) = s at y0 HCN
                    as_aux_lemma =>
                      go_wp2_with fail
                      refine HCN.out.mono ?_
                      rintro e w' ⟨rfl, hw⟩
                      subst hw
                      as_aux_lemma =>
                        go_wp2_with fail
                        go_roundw
                        case rel => exact ⟨q + 1, by omega, by go_num, HQ.out⟩
                        case measure => simp [intOf]; omega
                  · have hnq : ¬ (q : Int) < (inn : Int) := by omega
                    as_aux_lemma =>
                      go_wp2_with fail
                      go_ret
                      exact ⟨rfl, HBQ.out⟩
end Go.Proofs.YtkdadbpajhdelaaGreatDoor

set_option linter.unusedVariables false
set_option linter.unusedSimpArgs false
namespace Go.Proofs.YtkdadbpajhdelaaGreatDoor
open Go.RowKit Go.Lib

/-- What the function works on: the states of the contexts, the plan and itself. -/
structure RingW (w0 : World) (pv : List Value) (St P Rg sb : Nat) (s : Nat → Int) (W : World) : Prop where
  below : Below w0.heap.size w0 W
  st : W.cell? ⟨St, 0, none⟩ = some (.slice (some ⟨sb, 0, none⟩) 3 3)
  pl : ∀ j v, pv[j]? = some v → W.cell? ⟨P, j, none⟩ = some v
  rg : W.cell? ⟨Rg, 0, none⟩ = some (.func (.func 97) #[] #[.pointer (some ⟨St, 0, none⟩), .pointer (some ⟨P, 0, none⟩), .pointer (some ⟨Rg, 0, none⟩)])
  arr : ∀ j, j < 3 → W.cell? ⟨sb, j, none⟩ = some (.int .i64 (s j))
  fro : ∀ j, W.frozen? ⟨sb, j, none⟩ = false
  lt : St < W.heap.size ∧ P < W.heap.size ∧ Rg < W.heap.size ∧ sb < W.heap.size
  ge : w0.heap.size ≤ sb
  ne : St ≠ sb ∧ P ≠ sb ∧ Rg ≠ sb
theorem RingW.more {w0 : World} {pv : List Value} {St P Rg sb : Nat} {s : Nat → Int} {W W' : World} (h : RingW w0 pv St P Rg sb s W) (hb : Below W.heap.size W W') : RingW w0 pv St P Rg sb s W' := by
  obtain ⟨h1, h2, h3, h4⟩ := h.lt
  exact ⟨ext_trans h.below hb, (hb.cell (p := ⟨St, 0, none⟩) h1).trans h.st, fun j v hv => (hb.cell (p := ⟨P, j, none⟩) h2).trans (h.pl j v hv), (hb.cell (p := ⟨Rg, 0, none⟩) h3).trans h.rg, fun j hj => (hb.cell (p := ⟨sb, j, none⟩) h4).trans (h.arr j hj), fun j => (hb.frozen (p := ⟨sb, j, none⟩) h4).trans (h.fro j), ⟨Nat.lt_of_lt_of_le h1 hb.size, Nat.lt_of_lt_of_le h2 hb.size, Nat.lt_of_lt_of_le h3 hb.size, Nat.lt_of_lt_of_le h4 hb.size⟩, h.ge, h.ne⟩
def setS (s : Nat → Int) (i : Nat) (v : Int) : Nat → Int := fun j => if j = i then v else s j
theorem RingW.set {w0 : World} {pv : List Value} {St P Rg sb : Nat} {s : Nat → Int} {W : World} (h : RingW w0 pv St P Rg sb s W) {i : Nat} (hi : i < 3) (v : Int) : RingW w0 pv St P Rg sb (setS s i v) (W.setCell ⟨sb, i, none⟩ (.int .i64 v)) := by
  have hb : Below sb W (W.setCell ⟨sb, i, none⟩ (.int .i64 v)) := (Below.refl sb W).setCell (p := ⟨sb, i, none⟩) (Nat.le_refl _) _
  have hh : ∀ B, B ≠ sb → (W.setCell ⟨sb, i, none⟩ (.int .i64 v)).heap[B]? = W.heap[B]? := fun B hB => Below.heap_setCell _ _ _ _ hB
  have hcell : ∀ B j, B ≠ sb → (W.setCell ⟨sb, i, none⟩ (.int .i64 v)).cell? ⟨B, j, none⟩ = W.cell? ⟨B, j, none⟩ := fun B j hB => World.cell?_setCell_other _ _ _ _ (fun e => hB (by injection e with e1; exact e1.symm))
  have hsz : (W.setCell ⟨sb, i, none⟩ (.int .i64 v)).heap.size = W.heap.size := by simp [World.setCell]
  refine ⟨h.below.setCell (p := ⟨sb, i, none⟩) h.ge _, (hcell St 0 h.ne.1).trans h.st, fun j u hu => (hcell P j h.ne.2.1).trans (h.pl j u hu), (hcell Rg 0 h.ne.2.2).trans h.rg, fun j hj => ?_, fun j => ?_, by rw [hsz]; exact h.lt, h.ge, h.ne⟩
  · unfold setS
    by_cases hj2 : j = i
    · subst hj2
      rw [if_pos rfl]
      exact World.cell?_setCell_same _ _ _ (h.arr j hj)
    · rw [if_neg hj2]
      exact (World.cell?_setCell_other _ _ _ _ (fun e => hj2 (by injection e with e1 e2; exact e2.symm))).trans (h.arr j hj)
  · rw [World.frozen?_setCell]
    exact h.fro j
/-- The states from one on: not begun, or done. -/
def DoneS (i : Nat) (s : Nat → Int) : Prop := ∀ j, i ≤ j → j < 3 → s j = 0 ∨ s j = 2
def RingPost (w0 : World) (pv : List Value) (St P Rg sb : Nat) (s : Nat → Int) (i : Nat) (e : Ending) (W' : World) : Prop := e = .returned (.bool false) ∧ ∃ s', RingW w0 pv St P Rg sb s' W' ∧ DoneS i s' ∧ ∀ j, j < i → s' j = s j
set_option maxRecDepth 100000 in
set_option maxHeartbeats 8000000 in
theorem ring_any (w0 : World) (p : DPlan) (hp : DPlanFine w0 p) (St P Rg sb : Nat) : ∀ (f i : Nat), i + f = 3 → i < 3 → ∀ (s : Nat → Int) (W : World), RingW w0 p.cells St P Rg sb s W → DoneS i s →
    Calls Tryz.prog 97 #[.int .i64 i, .pointer (some ⟨St, 0, none⟩), .pointer (some ⟨P, 0, none⟩), .pointer (some ⟨Rg, 0, none⟩)] W (RingPost w0 p.cells St P Rg sb s i)
  | 0, i, h, hi, _, _, _, _ => absurd hi (by omega)
  | f + 1, i, hif, hi, s, W, hR, hD => by
    have HIH : Hid (∀ j, i < j → j < 3 → ∀ (s : Nat → Int) (W : World), RingW w0 p.cells St P Rg sb s W → DoneS j s → Calls Tryz.prog 97 #[.int .i64 j, .pointer (some ⟨St, 0, none⟩), .pointer (some ⟨P, 0, none⟩), .pointer (some ⟨Rg, 0, none⟩)] W (RingPost w0 p.cells St P Rg sb s j)) := fun j hij hj s W h1 h2 => by
      obtain ⟨f', hf'⟩ : ∃ f', j + f' = 3 ∧ f' ≤ f := ⟨3 - j, by omega, by omega⟩
      exact ring_any w0 p hp St P Rg sb f' j hf'.1 hj s W h1 h2
    have HCA : Hid (∀ j, j < 3 → ∀ W, Below w0.heap.size w0 W → Calls Tryz.prog 96 #[.agg p.cells.toArray, .string ⟨(ctxKey j).toArray⟩] W (IntP j W)) := fun j hj W hW => contextAt_any W p (hp.below hW) j hj
    have hc := hp.each i hi
    obtain ⟨hi3, -, hi2⟩ := hp.incs i hi
    have hlen := hp.len
    obtain ⟨g, go, ha0, hg, hcl⟩ := hp.at
    have HCL : Hid (∀ W, Below w0.heap.size w0 W → W.cell? ⟨g, go + i * 3 + 2, none⟩ = some (.slice (p.ctxs.getD i noDCtx).ia (p.ctxs.getD i noDCtx).inn (p.ctxs.getD i noDCtx).ic)) := fun W hW => (hW.cell (p := ⟨g, go + i * 3 + 2, none⟩) hg).trans (hcl i hi).2.2
    clear hp hcl
    generalize p.ctxs.getD i noDCtx = c at hc hi3 hi2 HCL
    obtain ⟨ca, cn, cc, ctxs, ha, hn, hcp, hrs⟩ := p
    obtain ⟨key, ra, rn, rc, rules, ia, inn, ic, incs⟩ := c
    simp only at ha0 hlen hi3 hi2 HCL
    subst ha0
    subst hlen
    have hil := hc.ilen
    simp only at hil
    have HIN : Hid (∀ q, q < inn → ∃ b off, ia = some ⟨b, off, none⟩ ∧ i < incs.getD q 0 ∧ incs.getD q 0 < 3 ∧ ∀ W, Below w0.heap.size w0 W → W.cell? ⟨b, off + q, none⟩ = some (.string ⟨(ctxKey (incs.getD q 0)).toArray⟩)) := fun q hq => by
      obtain ⟨b, off, e, hb, hcc⟩ := hc.inc (show 0 < inn by omega)
      have hm : incs.getD q 0 ∈ incs := by
        rw [List.getD_eq_getElem?_getD, List.getElem?_eq_getElem (by omega)]; exact List.getElem_mem _
      exact ⟨b, off, e, (hi3 _ hm).1, (hi3 _ hm).2, fun W hW => (hW.cell (p := ⟨b, off + q, none⟩) hb).trans (hcc q hq)⟩
    have hinn : inn ≤ 2 := by omega
    clear hc hi3 hi2 hil
    have HIH2 : Hid (∀ j, i < j → j < 3 → ∀ (s : Nat → Int) (W : World), RingW w0 [.slice (some ⟨g, go, none⟩) 3 cc, .slice ha hn hcp] St P Rg sb s W → DoneS j s → Calls Tryz.prog 97 #[.int .i64 j, .pointer (some ⟨St, 0, none⟩), .pointer (some ⟨P, 0, none⟩), .pointer (some ⟨Rg, 0, none⟩)] W (RingPost w0 [.slice (some ⟨g, go, none⟩) 3 cc, .slice ha hn hcp] St P Rg sb s j)) := HIH.out
    have HCA2 : Hid (∀ j, j < 3 → ∀ W, Below w0.heap.size w0 W → Calls Tryz.prog 96 #[.agg #[.slice (some ⟨g, go, none⟩) 3 cc, .slice ha hn hcp], .string ⟨(ctxKey j).toArray⟩] W (IntP j W)) := HCA.out
    have HR : Hid (RingW w0 [.slice (some ⟨g, go, none⟩) 3 cc, .slice ha hn hcp] St P Rg sb s W) := hR
    have HD := Lib.hid hD
    clear HIH HCA hR hD hif
    show Calls Tryz.prog 97 #[.int .i64 i, .pointer (some ⟨St, 0, none⟩), .pointer (some ⟨P, 0, none⟩), .pointer (some ⟨Rg, 0, none⟩)] W (RingPost w0 [.slice (some ⟨g, go, none⟩) 3 cc, .slice ha hn hcp] St P Rg sb s i)
    have hst := HR.out.st
    have hai := HR.out.arr i hi
    have hfi := HR.out.fro i
    have hi0 : ¬ ((i : Int) < 0) := by omega
    have hi3 : (i : Int) < 3 := by omega
    rcases HD.out i (Nat.le_refl _) hi with h0 | h2
    case inr =>
      rw [h2] at hai
      have HE : Hid (RingPost w0 [.slice (some ⟨g, go, none⟩) 3 cc, .slice ha hn hcp] St P Rg sb s i (.returned (.bool false)) W) := ⟨rfl, s, HR.out, HD.out, fun _ _ => rfl⟩
      clear HR HD HIH2 HCA2 HIN HCL h2
      go_enter Tryz.func97, Tryz.ntmps97
      as_aux_lemma =>
        go_wp2_with fail
        go_ret
        exact HE.out
    rw [h0] at hai
    go_enter Tryz.func97, Tryz.ntmps97
    have H1 : Hid (RingW w0 [.slice (some ⟨g, go, none⟩) 3 cc, .slice ha hn hcp] St P Rg sb (setS s i 1) (W.setCell ⟨sb, i, none⟩ (.int .i64 1))) := HR.out.set hi 1
    have HD1 : Hid (DoneS (i + 1) (setS s i 1)) := fun j h1 h2 => by unfold setS; rw [if_neg (by omega)]; exact HD.out j (by omega) h2
    have HS1 : Hid (∀ j, j < i → setS s i 1 j = s j) := fun j hj => by unfold setS; rw [if_neg (by omega)]
    have HI1 : Hid (setS s i 1 i = 1) := by show setS s i 1 i = 1; unfold setS; rw [if_pos rfl]
    have p0 := H1.out.pl 0 _ rfl
    have y2 := HCL.out _ H1.out.below
    clear HR HD h0
    as_aux_lemma =>
      go_upto_region 4 with (fail)
      generalize W.setCell ⟨sb, i, none⟩ (.int .i64 1) = W1 at H1 p0 y2 ⊢
      generalize setS s i 1 = s1 at H1 HD1 HS1 HI1
      clear hst hai hfi
      go_wp2_with fail
      go_loopw [28] (fun it wr => ∃ q : Nat, q ≤ inn ∧ it = .int .i64 q ∧ ∃ s2, Hid (RingW w0 [.slice (some ⟨g, go, none⟩) 3 cc, .slice ha hn hcp] St P Rg sb s2 wr) ∧ Hid (DoneS (i + 1) s2) ∧ Hid (∀ j, j < i → s2 j = s j) ∧ Hid (s2 i = 1)) (fun it _ => inn - (intOf it).toNat)
      case atStart => exact ⟨0, Nat.zero_le _, rfl, s1, H1, HD1, HS1, HI1⟩
      case round =>
        obtain ⟨q, hq, rfl, s2, H2, HD2, HS2, HI2⟩ := hrel
        clear p0 y2 H1 HD1 HS1 HI1
        by_cases hlq : q < inn
        · obtain ⟨b, off, rfl, hj1, hj3, hcw⟩ := HIN.out q hlq
          have y0 := hcw wr H2.out.below
          have hq0 : ¬ ((q : Int) < 0) := by omega
          have hqi : (q : Int) < (inn : Int) := by omega
          clear hcw HIN
          generalize incs.getD q 0 = j at hj1 hj3 y0
          have HCJ := Lib.hid (HCA2.out j hj3)
          have HJJ := Lib.hid (HIH2.out j hj1 hj3)
          generalize ctxKey j = kj at y0 HCJ
          as_aux_lemma =>
            go_upto_region 7 with (fail)
            go_cut [36] (fun v wx => v = .bool false ∧ ∃ s3, Hid (RingW w0 [.slice (some ⟨g, go, none⟩) 3 cc, .slice ha hn hcp] St P Rg sb s3 wx) ∧ Hid (DoneS (i + 1) s3) ∧ Hid (∀ j, j < i → s3 j = s j) ∧ Hid (s3 i = 1))
            case first =>
              refine region_seqI (S := fun W => ∃ s9, RingW w0 [.slice (some ⟨g, go, none⟩) 3 cc, .slice ha hn hcp] St P Rg sb s9 W) [(true, 0), (true, 1), (true, 2), (false, 3), (false, 4)] (by kernel_rfl) (by kernel_rfl) rfl (by kernel_rfl) ⟨s2, H2.out.more (ext_drew (Below.refl _ _))⟩ ?_
              have H2d := Lib.hid (H2.out.more (ext_drew (Below.refl _ _)))
              clear H2
              generalize wr.drew = wd at H2d ⊢
              simp only [seqOps, List.getD_cons_zero, List.getD_cons_succ]
              refine seqI_take (v := .func (.func 97) #[] #[.pointer (some ⟨St, 0, none⟩), .pointer (some ⟨P, 0, none⟩), .pointer (some ⟨Rg, 0, none⟩)]) rfl (fun W hW => by obtain ⟨s9, hW⟩ := hW; have q0 := hW.rg; go_simp) (fun _ _ _ h => h) ?_
              simp only [Act.put, List.setIfInBounds_toArray, List.set_cons_zero, List.set_cons_succ]
              refine seqI_take (v := .agg #[.slice (some ⟨g, go, none⟩) 3 cc, .slice ha hn hcp]) rfl (fun W hW => by obtain ⟨s9, hW⟩ := hW; have q0 := hW.pl 0 _ rfl; have q1 := hW.pl 1 _ rfl; go_simp) (fun _ _ _ h => h) ?_
              simp only [Act.put, List.setIfInBounds_toArray, List.set_cons_zero, List.set_cons_succ]
              refine seqI_take (v := .string ⟨kj.toArray⟩) rfl (fun W hW => by go_simp) (fun _ _ _ h => h) ?_
              simp only [Act.put, List.setIfInBounds_toArray, List.set_cons_zero, List.set_cons_succ]
              refine seqI_call 96 #[.agg #[.slice (some ⟨g, go, none⟩) 3 cc, .slice ha hn hcp], .string ⟨kj.toArray⟩] rfl (by go_simp) (HCJ.out _ H2d.out.below) ?_
              rintro e w1 ⟨rfl, hb⟩
              have H3 := Lib.hid (H2d.out.more hb)
              refine ⟨_, rfl, ⟨s2, H3.out⟩, ?_⟩
              simp only [Act.put, List.setIfInBounds_toArray, List.set_cons_zero, List.set_cons_succ]
              refine seqI_call 97 #[.int .i64 j, .pointer (some ⟨St, 0, none⟩), .pointer (some ⟨P, 0, none⟩), .pointer (some ⟨Rg, 0, none⟩)] rfl (by go_simp) (HJJ.out s2 w1 H3.out (fun m h1 h2 => HD2.out m (by omega) h2)) ?_
              rintro e w2 ⟨rfl, s3, h3, hd3, hs3⟩
              have HZ : Hid ((RingW w0 [.slice (some ⟨g, go, none⟩) 3 cc, .slice ha hn hcp] St P Rg sb s3 w2) ∧ (DoneS (i + 1) s3) ∧ (∀ j, j < i → s3 j = s j) ∧ (s3 i = 1)) := ⟨h3, fun m h1 h2 => by
                by_cases hmj : m < j
                · rw [hs3 m hmj]; exact HD2.out m h1 h2
                · exact hd3 m (by omega) h2, fun m hm => (hs3 m (by omega)).trans (HS2.out m hm), (hs3 i hj1).trans HI2.out⟩
              refine ⟨_, rfl, ⟨s3, h3⟩, ?_⟩
              clear h3 hd3 hs3
              simp only [Act.put, List.setIfInBounds_toArray, List.set_cons_zero, List.set_cons_succ]
              refine seqI_nil ?_
              go_wp2_with fail
              go_meet
              exact ⟨rfl, s3, HZ.out.1, HZ.out.2.1, HZ.out.2.2.1, HZ.out.2.2.2⟩
            case rest =>
              obtain ⟨rfl, s3, H3, HD3, HS3, HI3⟩ := hcut
              as_aux_lemma =>
                go_wp2_with fail
                go_roundw
                case rel => exact ⟨q + 1, by omega, by go_num, s3, H3, HD3, HS3, HI3⟩
                case measure => simp [intOf]; omega
        · have hnq : ¬ (q : Int) < (inn : Int) := by omega
          have hst := H2.out.st
          have hai := H2.out.arr i hi
          have hfi := H2.out.fro i
          have HE : Hid (RingPost w0 [.slice (some ⟨g, go, none⟩) 3 cc, .slice ha hn hcp] St P Rg sb s i (.returned (.bool false)) (wr.setCell ⟨sb, i, none⟩ (.int .i64 2))) := ⟨rfl, setS s2 i 2, H2.out.set hi 2, fun j h1 h2 => by
            unfold setS
            by_cases hji : j = i
            · rw [if_pos hji]; exact Or.inr rfl
            · rw [if_neg hji]; exact HD2.out j (by omega) h2, fun j hj => by
            unfold setS
            rw [if_neg (by omega)]; exact HS2.out j hj⟩
          clear H2 HD2 HS2 HI2 HIN HIH2 HCA2 HCL
          as_aux_lemma =>
            go_wp2_with fail
            go_ret
            exact HE.out
end Go.Proofs.YtkdadbpajhdelaaGreatDoor

set_option linter.unusedVariables false
set_option linter.unusedSimpArgs false
namespace Go.Proofs.YtkdadbpajhdelaaGreatDoor
open Go.RowKit Go.Lib

set_option maxRecDepth 100000 in
set_option maxHeartbeats 8000000 in
theorem dplCheck_any (w : World) (p : DPlan) (hp : DPlanFine w p) : Calls Tryz.prog 42 #[.agg p.cells.toArray] w (IntP 0 w) := by
  have HCX : Hid (∀ i : Nat, i < 3 → ∀ W, Below w.heap.size w W → Calls Tryz.prog 95 #[.agg p.cells.toArray, .int .i64 i] W (IntP 0 W)) := fun i hi W hW => checkContext_any W p (hp.below hW) i hi
  have HCA : Hid (∀ j : Nat, j < 3 → ∀ W, Below w.heap.size w W → Calls Tryz.prog 96 #[.agg p.cells.toArray, .string ⟨(ctxKey j).toArray⟩] W (IntP j W)) := fun j hj W hW => contextAt_any W p (hp.below hW) j hj
  have HCH : Hid (∀ W, Below w.heap.size w W → Calls Tryz.prog 94 #[.slice p.ha p.hn p.hc] W (IntP 0 W)) := fun W hW => checkHours_any W _ _ _ p.hrs (hp.hours.below hW)
  have HRI : Hid (∀ (St P Rg sb : Nat), ∀ i : Nat, i < 3 → ∀ (s : Nat → Int) (W : World), RingW w p.cells St P Rg sb s W → DoneS i s → Calls Tryz.prog 97 #[.int .i64 i, .pointer (some ⟨St, 0, none⟩), .pointer (some ⟨P, 0, none⟩), .pointer (some ⟨Rg, 0, none⟩)] W (RingPost w p.cells St P Rg sb s i)) := fun St P Rg sb i hi s W h1 h2 => ring_any w p hp St P Rg sb (3 - i) i (by omega) hi s W h1 h2
  have hlen := hp.len
  obtain ⟨g, go, ha0, hg, hcl⟩ := hp.at
  have HCL : Hid (∀ i : Nat, i < 3 → ∀ W, Below w.heap.size w W → W.cell? ⟨g, go + i * 3, none⟩ = some (.string ⟨(ctxKey i).toArray⟩) ∧ W.cell? ⟨g, go + i * 3 + 1, none⟩ = some (.slice (p.ctxs.getD i noDCtx).ra (p.ctxs.getD i noDCtx).rn (p.ctxs.getD i noDCtx).rc) ∧ W.cell? ⟨g, go + i * 3 + 2, none⟩ = some (.slice (p.ctxs.getD i noDCtx).ia (p.ctxs.getD i noDCtx).inn (p.ctxs.getD i noDCtx).ic)) := fun i hi W hW => by
    obtain ⟨q0, q1, q2⟩ := hcl i hi
    exact ⟨(hW.cell (p := ⟨g, go + i * 3, none⟩) hg).trans q0, (hW.cell (p := ⟨g, go + i * 3 + 1, none⟩) hg).trans q1, (hW.cell (p := ⟨g, go + i * 3 + 2, none⟩) hg).trans q2⟩
  have HIN : Hid (∀ i : Nat, i < 3 → ∀ q : Nat, q < (p.ctxs.getD i noDCtx).inn → ∃ b off j, (p.ctxs.getD i noDCtx).ia = some ⟨b, off, none⟩ ∧ j < 3 ∧ ∀ W, Below w.heap.size w W → W.cell? ⟨b, off + q, none⟩ = some (.string ⟨(ctxKey j).toArray⟩)) := fun i hi q hq => by
    have hc := hp.each i hi
    have hi3 := (hp.incs i hi).1
    obtain ⟨b, off, e, hb, hcc⟩ := hc.inc (show 0 < _ by omega)
    have hil := hc.ilen
    have hm : (p.ctxs.getD i noDCtx).incs.getD q 0 ∈ (p.ctxs.getD i noDCtx).incs := by
      generalize (p.ctxs.getD i noDCtx).incs = l at hil ⊢
      rw [List.getD_eq_getElem?_getD, List.getElem?_eq_getElem (by omega)]; exact List.getElem_mem _
    exact ⟨b, off, _, e, (hi3 _ hm).2, fun W hW => (hW.cell (p := ⟨b, off + q, none⟩) hb).trans (hcc q hq)⟩
  have HI2 : Hid (∀ i : Nat, i < 3 → (p.ctxs.getD i noDCtx).inn ≤ 2) := fun i hi => by rw [(hp.each i hi).ilen]; exact (hp.incs i hi).2.2
  clear hp hcl
  obtain ⟨ca, cn, cc, ctxs, ha, hn, hcp, hrs⟩ := p
  simp only at ha0 hlen HCL HIN HI2 HCH
  subst ha0
  subst hlen
  have HCX2 : Hid (∀ i : Nat, i < 3 → ∀ W, Below w.heap.size w W → Calls Tryz.prog 95 #[.agg #[.slice (some ⟨g, go, none⟩) 3 cc, .slice ha hn hcp], .int .i64 i] W (IntP 0 W)) := HCX.out
  have HCA2 : Hid (∀ j : Nat, j < 3 → ∀ W, Below w.heap.size w W → Calls Tryz.prog 96 #[.agg #[.slice (some ⟨g, go, none⟩) 3 cc, .slice ha hn hcp], .string ⟨(ctxKey j).toArray⟩] W (IntP j W)) := HCA.out
  have HRI2 : Hid (∀ (St P Rg sb : Nat), ∀ i : Nat, i < 3 → ∀ (s : Nat → Int) (W : World), RingW w [.slice (some ⟨g, go, none⟩) 3 cc, .slice ha hn hcp] St P Rg sb s W → DoneS i s → Calls Tryz.prog 97 #[.int .i64 i, .pointer (some ⟨St, 0, none⟩), .pointer (some ⟨P, 0, none⟩), .pointer (some ⟨Rg, 0, none⟩)] W (RingPost w [.slice (some ⟨g, go, none⟩) 3 cc, .slice ha hn hcp] St P Rg sb s i)) := HRI.out
  clear HCX HCA HRI
  show Calls Tryz.prog 42 #[.agg #[.slice (some ⟨g, go, none⟩) 3 cc, .slice ha hn hcp]] w _
  have P1 : Hid (Blk (w.alloc (.cells #[.slice (some ⟨g, go, none⟩) 3 cc, .slice ha hn hcp] 29)) w.heap.size [.slice (some ⟨g, go, none⟩) 3 cc, .slice ha hn hcp] 29) := Blk.new w _ _
  have HB1 : Hid (Below w.heap.size w (w.alloc (.cells #[.slice (some ⟨g, go, none⟩) 3 cc, .slice ha hn hcp] 29))) := ext_alloc (Below.refl _ _)
  go_enter Tryz.func42, Tryz.ntmps42
  go_upto_region 1 with (fail)
  generalize (w.alloc (.cells #[.slice (some ⟨g, go, none⟩) 3 cc, .slice ha hn hcp] 29)) = w1 at P1 HB1 ⊢
  obtain ⟨P, hP⟩ : ∃ P, P = w.heap.size := ⟨_, rfl⟩
  rw [← hP] at P1
  simp only [← hP]
  have hPw : w.heap.size ≤ P := by omega
  clear hP
  have p0 := P1.out.cell 0 rfl
  have p1 := P1.out.cell 1 rfl
  as_aux_lemma =>
    go_wp2_with fail
    refine (HCH.out _ HB1.out).mono ?_
    rintro e w2 ⟨rfl, hb⟩
    have HB2 := Lib.hid (ext_trans HB1.out hb)
    have P2 := Lib.hid (P1.out.below hb)
    clear hb HB1 P1 p0 p1 HCH
    have p0 := P2.out.cell 0 rfl
    have p1 := P2.out.cell 1 rfl
    as_aux_lemma =>
      go_wp2_with fail
      go_loopw [26] (fun it wr => ∃ j : Nat, j ≤ 3 ∧ it = .int .i64 j ∧ Hid (Below w2.heap.size w2 wr)) (fun it _ => 3 - (intOf it).toNat)
      case atStart => exact ⟨0, Nat.zero_le _, rfl, Below.refl _ _⟩
      case round =>
        obtain ⟨j, hj, rfl, HJ⟩ := hrel
        clear p0 p1
        have HB3 := Lib.hid (ext_trans HB2.out HJ.out)
        have P3 := Lib.hid (P2.out.below HJ.out)
        have p0 := P3.out.cell 0 rfl
        have p1 := P3.out.cell 1 rfl
        by_cases hlt : j < 3
        case pos =>
          have hj3 : (j : Int) < 3 := by omega
          have HCJ := Lib.hid (HCX2.out j hlt wr HB3.out)
          as_aux_lemma =>
            go_wp2_with fail
            refine HCJ.out.mono ?_
            rintro e w4 ⟨rfl, hb⟩
            have HJ4 := Lib.hid (ext_trans HJ.out hb)
            clear hb
            as_aux_lemma =>
              go_wp2_with fail
              go_roundw
              case rel => exact ⟨j + 1, by omega, by go_num, HJ4.out⟩
              case measure => simp [intOf]; omega
        have hj3 : ¬ (j : Int) < 3 := by omega
        clear HJ HB2 P2 HCX2
        obtain ⟨w3, rfl⟩ : ∃ x : World, x = wr := ⟨_, rfl⟩
        as_aux_lemma =>
          go_wp2_with fail
          go_loopw [39] (fun it wr => ∃ j : Nat, j ≤ 3 ∧ it = .int .i64 j ∧ Hid (Below w3.heap.size w3 wr)) (fun it _ => 3 - (intOf it).toNat)
          case atStart => exact ⟨0, Nat.zero_le _, rfl, Below.refl _ _⟩
          case round =>
            obtain ⟨i, hi, rfl, HJ⟩ := hrel
            clear p0 p1 hj3 hj
            have HB4 := Lib.hid (ext_trans HB3.out HJ.out)
            have P4 := Lib.hid (P3.out.below HJ.out)
            have p0 := P4.out.cell 0 rfl
            have p1 := P4.out.cell 1 rfl
            obtain ⟨w4, rfl⟩ : ∃ x : World, x = wr := ⟨_, rfl⟩
            by_cases hlt : i < 3
            case pos =>
              have hi3 : (i : Int) < 3 := by omega
              have hi0 : ¬ ((i : Int) < 0) := by omega
              obtain ⟨c0, c1, c2⟩ := HCL.out i hlt w4 HB4.out
              have HIQ := Lib.hid (HIN.out i hlt)
              have h2 := HI2.out i hlt
              generalize ctxs.getD i noDCtx = c at c0 c1 c2 HIQ h2
              obtain ⟨key, ra, rn, rc, rules, ia, inn, ic, incs⟩ := c
              simp only at c1 c2 HIQ h2
              generalize ctxKey i = key at c0
              have hA : Hid (Below w4.heap.size w4 (w4.alloc (.cells #[.string ⟨key.toArray⟩, .slice ra rn rc, .slice ia inn ic] 59))) := ext_alloc (Below.refl _ _)
              have HB5 := Lib.hid (ext_trans HB4.out hA.out)
              have HJ5 := Lib.hid (ext_trans HJ.out hA.out)
              have P5 := Lib.hid (P4.out.below hA.out)
              clear HJ HB4 P4
              as_aux_lemma =>
                go_upto_region 16 with (fail)
                have C5 : Hid (Blk (w4.alloc (.cells #[.string ⟨key.toArray⟩, .slice ra rn rc, .slice ia inn ic] 59)) w4.heap.size [.string ⟨key.toArray⟩, .slice ra rn rc, .slice ia inn ic] 59) := Blk.new _ _ _
                generalize w4.alloc (.cells #[.string ⟨key.toArray⟩, .slice ra rn rc, .slice ia inn ic] 59) = w5 at HB5 HJ5 P5 C5 ⊢
                generalize w4.heap.size = X at C5 ⊢
                clear c0 c1 c2 hA p0 p1
                have p0 := P5.out.cell 0 rfl
                have p1 := P5.out.cell 1 rfl
                have c0 := C5.out.cell 0 rfl
                have c1 := C5.out.cell 1 rfl
                have c2 := C5.out.cell 2 rfl
                go_wp2_with fail
                go_loopw [46] (fun it wr => ∃ q : Nat, q ≤ inn ∧ it = .int .i64 q ∧ Hid (Below w5.heap.size w5 wr)) (fun it _ => inn - (intOf it).toNat)
                case atStart => exact ⟨0, Nat.zero_le _, rfl, Below.refl _ _⟩
                case round =>
                  obtain ⟨q, hq, rfl, HQ⟩ := hrel
                  clear p0 p1 c0 c1 c2
                  have HB6 := Lib.hid (ext_trans HB5.out HQ.out)
                  have HJ6 := Lib.hid (ext_trans HJ5.out HQ.out)
                  have P6 := Lib.hid (P5.out.below HQ.out)
                  have p0 := P6.out.cell 0 rfl
                  have p1 := P6.out.cell 1 rfl
                  by_cases hlq : q < inn
                  case pos =>
                    obtain ⟨b, off, j, rfl, hj3, hcw⟩ := HIQ.out q hlq
                    have y0 := hcw wr HB6.out
                    have hq0 : ¬ ((q : Int) < 0) := by omega
                    have hqi : (q : Int) < (inn : Int) := by omega
                    have HCJ := Lib.hid (HCA2.out j hj3 wr HB6.out)
                    have hjn : ¬ ((j : Int) < 0) := by omega
                    generalize ctxKey j = kj at y0 HCJ
                    clear hcw
                    as_aux_lemma =>
                      go_wp2_with fail
                      refine HCJ.out.mono ?_
                      rintro e w7 ⟨rfl, hb⟩
                      have HQ7 := Lib.hid (ext_trans HQ.out hb)
                      clear hb
                      as_aux_lemma =>
                        go_wp2_with fail
                        go_roundw
                        case rel => exact ⟨q + 1, by omega, by go_num, HQ7.out⟩
                        case measure => simp [intOf]; omega
                  have hqn : ¬ (q : Int) < (inn : Int) := by omega
                  as_aux_lemma =>
                    go_wp2_with fail
                    go_roundw
                    case rel => exact ⟨i + 1, by omega, by go_num, HJ6.out⟩
                    case measure => simp [intOf]; omega
            have hi3 : ¬ (i : Int) < 3 := by omega
            clear HJ HB3 P3 HCL HIN HI2 HCA2
            have hmk : ∀ w, (Instr.makeSlice 22 (.int .i64 3) (.int .i64 3)).run Tryz.prog w = .ok (.slice (some ⟨w.heap.size, 0, none⟩) 3 3) (w.alloc (.cells #[.int .i64 0, .int .i64 0, .int .i64 0] 3)) := fun w => by kernel_rfl
            as_aux_lemma =>
              go_upto_region 25 with (fail)
              have hs1 : Blk (((w4.alloc (.cells #[.int .i64 0, .int .i64 0, .int .i64 0] 3)).alloc (.cells #[.slice (some ⟨w4.heap.size, 0, none⟩) 3 3] 22)).alloc (.cells #[.nilFunc] 76)) w4.heap.size [.int .i64 0, .int .i64 0, .int .i64 0] 3 := ((Blk.new w4 [.int .i64 0, .int .i64 0, .int .i64 0] 3).alloc _).alloc _
              have hs2 : Blk (((w4.alloc (.cells #[.int .i64 0, .int .i64 0, .int .i64 0] 3)).alloc (.cells #[.slice (some ⟨w4.heap.size, 0, none⟩) 3 3] 22)).alloc (.cells #[.nilFunc] 76)) (w4.heap.size + 1) [.slice (some ⟨w4.heap.size, 0, none⟩) 3 3] 22 := by
                have := Blk.new (w4.alloc (.cells #[.int .i64 0, .int .i64 0, .int .i64 0] 3)) [.slice (some ⟨w4.heap.size, 0, none⟩) 3 3] 22
                rw [show (w4.alloc (.cells #[.int .i64 0, .int .i64 0, .int .i64 0] 3)).heap.size = w4.heap.size + 1 by simp] at this
                exact this.alloc _
              have hs3 : Blk (((w4.alloc (.cells #[.int .i64 0, .int .i64 0, .int .i64 0] 3)).alloc (.cells #[.slice (some ⟨w4.heap.size, 0, none⟩) 3 3] 22)).alloc (.cells #[.nilFunc] 76)) (w4.heap.size + 1 + 1) [.nilFunc] 76 := by
                have := Blk.new ((w4.alloc (.cells #[.int .i64 0, .int .i64 0, .int .i64 0] 3)).alloc (.cells #[.slice (some ⟨w4.heap.size, 0, none⟩) 3 3] 22)) [.nilFunc] 76
                rw [show ((w4.alloc (.cells #[.int .i64 0, .int .i64 0, .int .i64 0] 3)).alloc (.cells #[.slice (some ⟨w4.heap.size, 0, none⟩) 3 3] 22)).heap.size = w4.heap.size + 1 + 1 by simp] at this
                exact this
              have hA : Below w4.heap.size w4 (((w4.alloc (.cells #[.int .i64 0, .int .i64 0, .int .i64 0] 3)).alloc (.cells #[.slice (some ⟨w4.heap.size, 0, none⟩) 3 3] 22)).alloc (.cells #[.nilFunc] 76)) := ext_alloc (ext_alloc (ext_alloc (Below.refl _ _)))
              have HB5 := Lib.hid (ext_trans HB4.out hA)
              have P5 := Lib.hid (P4.out.below hA)
              have h4 : w.heap.size ≤ w4.heap.size := HB4.out.size
              have hP4 : P < w4.heap.size := P4.out.lt
              have S1 := Lib.hid hs1
              have S2 := Lib.hid hs2
              have S3 := Lib.hid hs3
              clear hs1 hs2 hs3 hA HB4 P4 p0 p1 hmk
              generalize (((w4.alloc (.cells #[.int .i64 0, .int .i64 0, .int .i64 0] 3)).alloc (.cells #[.slice (some ⟨w4.heap.size, 0, none⟩) 3 3] 22)).alloc (.cells #[.nilFunc] 76)) = w5 at HB5 P5 S1 S2 S3 ⊢
              obtain ⟨St, hSt⟩ : ∃ x, x = w4.heap.size + 1 := ⟨_, rfl⟩
              obtain ⟨Rg, hRg⟩ : ∃ x, x = w4.heap.size + 1 + 1 := ⟨_, rfl⟩
              obtain ⟨sb, hsb⟩ : ∃ x, x = w4.heap.size := ⟨_, rfl⟩
              rw [← hsb] at S1
              rw [← hSt, ← hsb] at S2
              rw [← hRg] at S3
              simp only [← hRg]
              simp only [← hSt]
              simp only [← hsb]
              have hge : w.heap.size ≤ sb := by omega
              have hne : St ≠ sb ∧ P ≠ sb ∧ Rg ≠ sb ∧ St ≠ Rg ∧ P ≠ Rg ∧ w.heap.size ≤ Rg := ⟨by omega, by omega, by omega, by omega, by omega, by omega⟩
              clear hSt hRg hsb h4 hP4
              have r0 := S3.out.cell 0 rfl
              have f0 := S3.out.fr 0
              have H6 : Hid (RingW w [.slice (some ⟨g, go, none⟩) 3 cc, .slice ha hn hcp] St P Rg sb (fun _ => 0) (w5.setCell ⟨Rg, 0, none⟩ (.func (.func 97) #[] #[.pointer (some ⟨St, 0, none⟩), .pointer (some ⟨P, 0, none⟩), .pointer (some ⟨Rg, 0, none⟩)]))) := by
                have k1 : Blk (w5.setCell ⟨Rg, 0, none⟩ (.func (.func 97) #[] #[.pointer (some ⟨St, 0, none⟩), .pointer (some ⟨P, 0, none⟩), .pointer (some ⟨Rg, 0, none⟩)])) sb [.int .i64 0, .int .i64 0, .int .i64 0] 3 := S1.out.far (p := ⟨Rg, 0, none⟩) hne.2.2.1
                have k2 : Blk (w5.setCell ⟨Rg, 0, none⟩ (.func (.func 97) #[] #[.pointer (some ⟨St, 0, none⟩), .pointer (some ⟨P, 0, none⟩), .pointer (some ⟨Rg, 0, none⟩)])) St [.slice (some ⟨sb, 0, none⟩) 3 3] 22 := S2.out.far (p := ⟨Rg, 0, none⟩) (Ne.symm hne.2.2.2.1)
                have k3 : Blk (w5.setCell ⟨Rg, 0, none⟩ (.func (.func 97) #[] #[.pointer (some ⟨St, 0, none⟩), .pointer (some ⟨P, 0, none⟩), .pointer (some ⟨Rg, 0, none⟩)])) P [.slice (some ⟨g, go, none⟩) 3 cc, .slice ha hn hcp] 29 := P5.out.far (p := ⟨Rg, 0, none⟩) (Ne.symm hne.2.2.2.2.1)
                have k4 : Blk (w5.setCell ⟨Rg, 0, none⟩ (.func (.func 97) #[] #[.pointer (some ⟨St, 0, none⟩), .pointer (some ⟨P, 0, none⟩), .pointer (some ⟨Rg, 0, none⟩)])) Rg [.func (.func 97) #[] #[.pointer (some ⟨St, 0, none⟩), .pointer (some ⟨P, 0, none⟩), .pointer (some ⟨Rg, 0, none⟩)]] 76 := S3.out.put 0 _
                exact ⟨HB5.out.setCell (p := ⟨Rg, 0, none⟩) hne.2.2.2.2.2 _, k2.cell 0 rfl, fun j v hj => k3.cell j hj, k4.cell 0 rfl, fun j hj => by
                  match j, hj with
                  | 0, _ => exact k1.cell 0 rfl
                  | 1, _ => exact k1.cell 1 rfl
                  | 2, _ => exact k1.cell 2 rfl, fun j => k1.fr j, ⟨k2.lt, k3.lt, k4.lt, k1.lt⟩, hge, hne.1, hne.2.1, hne.2.2.1⟩
              clear HB5 P5 S1 S2 S3 hne hge
              as_aux_lemma =>
                go_upto_region 26 with (fail)
                generalize w5.setCell ⟨Rg, 0, none⟩ (.func (.func 97) #[] #[.pointer (some ⟨St, 0, none⟩), .pointer (some ⟨P, 0, none⟩), .pointer (some ⟨Rg, 0, none⟩)]) = w6 at H6 ⊢
                clear r0 f0
                have p0 := H6.out.pl 0 _ rfl
                go_wp2_with fail
                go_loopw [64] (fun it wr => ∃ j : Nat, j ≤ 3 ∧ it = .int .i64 j ∧ ∃ s, Hid (RingW w [.slice (some ⟨g, go, none⟩) 3 cc, .slice ha hn hcp] St P Rg sb s wr) ∧ Hid (DoneS 0 s)) (fun it _ => 3 - (intOf it).toNat)
                case atStart => exact ⟨0, Nat.zero_le _, rfl, _, H6, Lib.hid (fun _ _ _ => Or.inl rfl)⟩
                case round =>
                  obtain ⟨m, hm, rfl, s, H7, HD7⟩ := hrel
                  clear p0 H6
                  have r0 := H7.out.rg
                  by_cases hlm : m < 3
                  case neg =>
                    have hm3 : ¬ (m : Int) < 3 := by omega
                    as_aux_lemma =>
                      go_wp2_with fail
                      go_ret
                      exact ⟨rfl, H7.out.below⟩
                  have hm3 : (m : Int) < 3 := by omega
                  have HRJ := Lib.hid (HRI2.out St P Rg sb m hlm s wr H7.out (fun j h1 h2 => HD7.out j (Nat.zero_le _) h2))
                  as_aux_lemma =>
                    go_wp2_with fail
                    refine HRJ.out.mono ?_
                    rintro e w8 ⟨rfl, s2, h2, hd2, hs2⟩
                    have H8 := Lib.hid h2
                    have HD8 : Hid (DoneS 0 s2) := fun j h1 h2 => by
                      by_cases hjm : j < m
                      · rw [hs2 j hjm]; exact HD7.out j h1 h2
                      · exact hd2 j (by omega) h2
                    clear h2 hd2 hs2
                    as_aux_lemma =>
                      go_wp2_with fail
                      go_roundw
                      case rel => exact ⟨m + 1, by omega, by go_num, s2, H8, HD8⟩
                      case measure => simp [intOf]; omega
end Go.Proofs.YtkdadbpajhdelaaGreatDoor
