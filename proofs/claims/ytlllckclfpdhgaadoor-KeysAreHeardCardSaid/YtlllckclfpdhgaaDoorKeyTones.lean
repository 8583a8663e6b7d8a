/- What is proved here: the sounds of keys that a stream makes. Condition: the stream lies in memory as stated. -/
import Derived.Test.YtlllckclfpdhgaaDoorKeyTone
import Derived.Test.YtlllckclfpdhgaaDoorZeroRows
import Derived.Test.YtlllckclfpdhgaaDoorGenPick
namespace Go.Proofs.YtlllckclfpdhgaaDoor
open Go.RowKit
set_option linter.unusedVariables false
set_option linter.unusedSimpArgs false

/-- One key: which, how long it sounds, how long it is silent behind it. -/
structure Seg where
  key : Nat
  long : Nat
  still : Nat
def SegOk (s : Seg) : Prop := s.key < 16 ∧ (s.long = 615 ∨ s.long = 820) ∧ (s.still = 410 ∨ s.still = 615)
def soundI (l : List Seg) : List Int := l.flatMap (fun s => toneI s.key s.long ++ List.replicate s.still 0)
def textI (l : List Seg) : List UInt8 := l.map (fun s => UInt8.ofNat (padI.getD s.key 0).toNat)

theorem toneI_length (k n : Nat) : (toneI k n).length = n := by unfold toneI humI; rw [List.length_zipWith, humS_length, humS_length]; omega
theorem soundI_length_le (l : List Seg) (h : ∀ s ∈ l, SegOk s) : (soundI l).length ≤ 1435 * l.length := by
  induction l with
  | nil => simp [soundI]
  | cons s l ih =>
    have hs := h s (by simp)
    have := ih (fun t ht => h t (by simp [ht]))
    obtain ⟨_, h1, h2⟩ := hs
    simp only [soundI, List.flatMap_cons, List.length_append, toneI_length, List.length_replicate, List.length_cons] at this ⊢
    omega
theorem soundI_snoc (l : List Seg) (s : Seg) : soundI (l ++ [s]) = soundI l ++ (toneI s.key s.long ++ List.replicate s.still 0) := by simp [soundI]
theorem textI_snoc (l : List Seg) (s : Seg) : textI (l ++ [s]) = textI l ++ [UInt8.ofNat (padI.getD s.key 0).toNat] := by simp [textI]

theorem onecell_i64 (xs : List Int) : ∀ u ∈ xs.map (Value.int .i64), u.oneCell' = true := by
  intro u hu; obtain ⟨x, _, rfl⟩ := List.mem_map.1 hu; rfl
theorem pad_range (k : Nat) (h : k < 16) : 35 ≤ padI.getD k 0 ∧ padI.getD k 0 ≤ 68 := by
  match k, h with
  | 0, _ => decide
  | 1, _ => decide
  | 2, _ => decide
  | 3, _ => decide
  | 4, _ => decide
  | 5, _ => decide
  | 6, _ => decide
  | 7, _ => decide
  | 8, _ => decide
  | 9, _ => decide
  | 10, _ => decide
  | 11, _ => decide
  | 12, _ => decide
  | 13, _ => decide
  | 14, _ => decide
  | 15, _ => decide
  | n + 16, h => exact absurd h (by omega)

theorem pad_enc (k : Nat) (h : k < 16) : Utf8.encode (padI.getD k 0) = ⟨#[UInt8.ofNat (padI.getD k 0).toNat]⟩ := by
  match k, h with
  | 0, _ => rfl
  | 1, _ => rfl
  | 2, _ => rfl
  | 3, _ => rfl
  | 4, _ => rfl
  | 5, _ => rfl
  | 6, _ => rfl
  | 7, _ => rfl
  | 8, _ => rfl
  | 9, _ => rfl
  | 10, _ => rfl
  | 11, _ => rfl
  | 12, _ => rfl
  | 13, _ => rfl
  | 14, _ => rfl
  | 15, _ => rfl
  | n + 16, h => exact absurd h (by omega)

theorem str_snoc (l : List UInt8) (x : UInt8) : Value.string ((⟨l.toArray⟩ : ByteArray) ++ ⟨#[x]⟩) = .string ⟨(l ++ [x]).toArray⟩ := by
  congr 1

def TonesPost (S k : Nat) (w : World) (e : Ending) (w' : World) : Prop :=
  ∃ (segs : List Seg) (v : Value), (∀ s ∈ segs, SegOk s) ∧ segs.length ≤ 4 ∧ e = .returned (.tuple #[v, .string ⟨(textI segs).toArray⟩]) ∧ w'.ownsRow w.heap.size 3 1 v (soundI segs).length ((soundI segs).map (Value.int .i64)) ∧ StreamOk w' S k ∧ Keeps S w w'

structure ToAt (S k : Nat) (w wr : World) (v : Value) (q : Nat) (segs : List Seg) : Prop where
  own : wr.ownsRow w.heap.size 3 1 v (soundI segs).length ((soundI segs).map (Value.int .i64))
  ok : ∀ s ∈ segs, SegOk s
  len : segs.length = q
  stream : StreamOk wr S (k + 3 * q)
  keeps : Keeps S w wr

set_option maxRecDepth 100000 in
set_option maxHeartbeats 4000000 in
theorem keyTones_any (S k : Nat) (w : World) (h : StreamOk w S k) (hk : k ≤ 1000000) :
    Calls Tryd.prog 31 #[.pointer (some ⟨S, 0, none⟩)] w (TonesPost S (k + 13) w) := by
  obtain ⟨i0, hi, hz0, hz1, hz2⟩ := info_parts Tryd.infoInt
  have hS := h.lt
  have H := Lib.hid h
  clear h
  go_enter Tryd.func31, Tryd.ntmps31
  go_wp2_with fail
  refine (range_any S k 0 4 _ H.out (by omega) (by omega) (by omega) (by omega)).mono ?_
  rintro e w1 ⟨m, rfl, m0, m1, hst1, hkp1⟩
  obtain ⟨m, rfl⟩ := Int.eq_ofNat_of_zero_le m0
  have HT1 : Hid (ToAt S (k + 1) w w1 (.slice none 0 0) 0 []) := ⟨World.ownsRow_nil _ _ _ _, (fun s hs => by cases hs), rfl, hst1, hkp1⟩
  clear hst1 hkp1
  go_wp2_with fail
  go_loopw [4, 5, 11] (fun v tx it wr => ∃ (q : Nat) (segs : List Seg), q ≤ m ∧ it = .int .i64 q ∧ tx = .string ⟨(textI segs).toArray⟩ ∧ Hid (ToAt S (k + 1) w wr v q segs)) (fun _ _ it _ => m - (intOf it).toNat)
  case atStart => exact ⟨0, [], Nat.zero_le _, rfl, rfl, HT1⟩
  case round =>
    obtain ⟨q, segs, hq, rfl, rfl, HT⟩ := hrel
    by_cases hlt : q < m
    · have hzz := HT.out.keeps.size
      go_wp2_with fail
      refine (next_any S _ 16 _ HT.out.stream (by omega) (by omega) (by omega)).mono ?_
      rintro e w2 ⟨kk, rfl, k0, k1, hst2, hkp2⟩
      obtain ⟨kk, rfl⟩ := Int.eq_ofNat_of_zero_le k0
      have hk16 : kk < 16 := by omega
      have hk17 : (kk : Int) < 16 := by omega
      have HO2 := Lib.hid (own_keeps HT.out.own hkp2 (by omega))
      have HK2 := Lib.hid (HT.out.keeps.trans hkp2)
      have HS2 := Lib.hid hst2
      have hpad := pad_at kk hk16
      have hpr := pad_range kk hk16
      have hze := HK2.out.size
      have henc := pad_enc kk hk16
      generalize hpc : padI.getD kk 0 = pc at hpad hpr henc
      have HEN := Lib.hid henc
      clear henc
      have HPC := Lib.hid hpc
      clear hst2 hkp2 hpc
      go_wp2_with fail
      refine (pick_any S _ w2.heap.size 2 2 [615, 820] (fun r => r = 615 ∨ r = 820) _ (HS2.out.below (ext_alloc (Below.refl _ _))) (by omega) (by simp) (by simp; omega) (by omega) (by omega) (fun i hi => ?_) (fun i hi => ?_)).mono ?_
      · have : i = 0 ∨ i = 1 := by omega
        rcases this with rfl | rfl
        · go_simp
        · go_simp
      · have : i = 0 ∨ i = 1 := by omega
        rcases this with rfl | rfl
        · exact Or.inl rfl
        · exact Or.inr rfl
      rintro e w3 ⟨L, rfl, hL, hst3, hkp3⟩
      obtain ⟨L, rfl⟩ := Int.eq_ofNat_of_zero_le (show 0 ≤ L by omega)
      have HO3 := Lib.hid (own_keeps (HO2.out.alloc _) hkp3 (by omega))
      have HK3 := Lib.hid (HK2.out.trans (Keeps.trans (Keeps.of_below (ext_alloc (Below.refl _ w2))) hkp3))
      have HS3 := Lib.hid hst3
      have hL2 : L = 615 ∨ L = 820 := by omega
      clear hst3 hkp3 hL
      go_wp2_with fail
      refine (tone_any _ kk L pc HPC.out.symm hk16 (by omega) (by omega)).mono ?_
      rintro e w4 ⟨v4, rfl, hown4, hb4⟩
      obtain ⟨L, rfl⟩ : ∃ L', L = L' + 1 := ⟨L - 1, by omega⟩
      obtain ⟨g4, c4, rfl⟩ := own_at hown4
      have HO4 := Lib.hid (HO3.out.kept_below hb4)
      have HK4 := Lib.hid (HK3.out.ext hb4)
      have HS4 := Lib.hid (HS3.out.below hb4)
      have HT4 := Lib.hid (hown4.cells (g := g4) rfl)
      have hz4 := HK4.out.size
      have hsl := soundI_length_le segs HT.out.ok
      have hsl2 : (soundI segs).length ≤ 10000 := by rw [HT.out.len] at hsl; omega
      clear hown4 hb4 hsl
      go_wp2_with (at_builtin; refine wpList_append_own _ rfl (.tmp 24) (.tmp 25) 22 rfl w.heap.size 3 i0 (.int .i64 0) 1 8 Tryd.underlying22 hi hz0 hz1 hz2 rfl (by decide) _ (soundI segs).length _ rfl HO4.out ⟨g4, 0, none⟩ (L + 1) c4 ((toneI kk (L + 1)).map (Value.int .i64)) rfl (by rw [List.length_map, toneI_length]; omega) HT4.out (onecell_i64 _) (by simp only [maxLen]; omega) (by omega) (by omega) ?_; intro v5 w5 hown5 hgr5 _)
      have HO5 := Lib.hid hown5
      have hrow := fun b e => (HO4.out.lt b e).1
      have HK5 := Lib.hid (HK4.out.grown0 hgr5 hrow)
      have HS5 := Lib.hid (HS4.out.upto ((Below.refl (S + 1) w4).grown hgr5 (by omega) (fun b e => by have := hrow b e; omega)))
      have hz5 := HK5.out.size
      clear hown5 hgr5
      refine (pick_any S _ w5.heap.size 2 2 [410, 615] (fun r => r = 410 ∨ r = 615) _ (HS5.out.below (ext_alloc (Below.refl _ _))) (by omega) (by simp) (by simp; omega) (by omega) (by omega) (fun i hi => ?_) (fun i hi => ?_)).mono ?_
      · have : i = 0 ∨ i = 1 := by omega
        rcases this with rfl | rfl
        · go_simp
        · go_simp
      · have : i = 0 ∨ i = 1 := by omega
        rcases this with rfl | rfl
        · exact Or.inl rfl
        · exact Or.inr rfl
      rintro e w6 ⟨Z, rfl, hZ, hst6, hkp6⟩
      obtain ⟨Z, rfl⟩ := Int.eq_ofNat_of_zero_le (show 0 ≤ Z by omega)
      have HO6 := Lib.hid (own_keeps (HO5.out.alloc _) hkp6 (by omega))
      have HK6 := Lib.hid (HK5.out.trans (Keeps.trans (Keeps.of_below (ext_alloc (Below.refl _ w5))) hkp6))
      have HS6 := Lib.hid hst6
      have hZ2 : Z = 410 ∨ Z = 615 := by omega
      have hz6 := HK6.out.size
      have htl : (textI segs).length ≤ 4 := by have := HT.out.len; simp [textI]; omega
      have henc := HEN.out
      clear hst6 hkp6 hZ
      go_wp2_with (at_builtin; refine wpList_zeros_own _ rfl (.tmp 27) (.tmp 30) 22 3 rfl w.heap.size 3 i0 .i64 Tryd.underlying22 Tryd.underlying3 hi hz0 hz1 hz2 _ ((soundI segs).length + (L + 1)) _ rfl HO6.out Z rfl (by omega) (by omega) (by omega) (by omega) ?_; intro v7 w7 hown7 hgr7)
      have HN : Hid (ToAt S (k + 1) w w7 v7 (q + 1) (segs ++ [⟨kk, L + 1, Z⟩])) := by
        have hrow6 := fun b e => (HO6.out.lt b e).1
        refine ⟨?_, ?_, by rw [List.length_append, HT.out.len]; rfl, (HS6.out.upto ((Below.refl (S + 1) w6).grown hgr7 (by omega) (fun b e => by have := hrow6 b e; omega))).mono (by omega), HK6.out.grown0 hgr7 hrow6⟩
        · rw [soundI_snoc]
          have e1 : (soundI segs ++ (toneI kk (L + 1) ++ List.replicate Z 0)).length = (soundI segs).length + (L + 1) + Z := by simp [toneI_length]; omega
          rw [e1]
          simpa using hown7
        · intro t ht
          rcases List.mem_append.1 ht with ht | ht
          · exact HT.out.ok t ht
          · simp at ht; subst ht; exact ⟨hk16, hL2, hZ2⟩
      have HTX : Hid (textI (segs ++ [⟨kk, L + 1, Z⟩]) = textI segs ++ [UInt8.ofNat pc.toNat]) := by show _ = _; rw [textI_snoc, HPC.out]
      clear hown7 hgr7
      go_roundw
      case rel => exact ⟨q + 1, segs ++ [⟨kk, L + 1, Z⟩], by omega, by go_num, by rw [HTX.out]; exact str_snoc _ _, HN⟩
      case measure => simp [intOf]; omega
    · obtain rfl : q = m := by omega
      go_wp2_with fail
      go_ret2
      exact ⟨segs, _, HT.out.ok, by rw [HT.out.len]; omega, rfl, HT.out.own, HT.out.stream.mono (by omega), HT.out.keeps⟩
end Go.Proofs.YtlllckclfpdhgaaDoor
