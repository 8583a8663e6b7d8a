/- What is proved here: ReadPacket reads bytes as a packet, or refuses them. Condition: what is handed in lies in memory as stated. -/
import Derived.Test.YtlllckclfpdhgaaDoorPacket
import Derived.IntWalk
namespace Go.Proofs.YtlllckclfpdhgaaDoor
open Go.RowKit
set_option linter.unusedVariables false
set_option linter.unusedSimpArgs false

theorem addr_add (b off j : Nat) : (⟨b, off, none⟩ : Addr).add j = ⟨b, off + j, none⟩ := by unfold Addr.add; split <;> simp_all
theorem grown_cell {X w1 : World} {row : Option Nat} {b o : Nat} (h : X.grownBy w1 row) (hb : b < X.heap.size) (hn : row ≠ some b) : w1.cell? ⟨b, o, none⟩ = X.cell? ⟨b, o, none⟩ := World.cell?_of_block (w := X) (a := ⟨b, o, none⟩) (h.block b hb (fun e => hn e.symm))
theorem grown_frozen {X w1 : World} {row : Option Nat} {b o : Nat} (h : X.grownBy w1 row) (hb : b < X.heap.size) (hn : row ≠ some b) : w1.frozen? ⟨b, o, none⟩ = X.frozen? ⟨b, o, none⟩ := World.frozen?_of_block (w := X) (a := ⟨b, o, none⟩) (h.block b hb (fun e => hn e.symm))
theorem onecell_ints (k : IntKind) (xs : List Int) : ∀ u ∈ xs.map (Value.int k), u.oneCell' = true := by
  intro u hu; obtain ⟨x, _, rfl⟩ := List.mem_map.1 hu; rfl
theorem own_slice0 {w : World} {base : Nat} {e : TypeId} {size : Nat} {v : Value} {n : Nat} {xs : List Value} (h : w.ownsRow base e size v n xs) : ∃ a c, v = .slice a n c := by
  rcases h.2 with ⟨rfl, rfl⟩ | ⟨g, cap, cur, rfl, _⟩
  · exact ⟨none, 0, rfl⟩
  · exact ⟨_, _, rfl⟩
def zeroPkt : Value := .agg #[.int .i64 0, .int .i64 0, .int .i64 0, .int .i64 0, .bool false, .slice none 0 0]
def ReadBad (w : World) (e : Ending) (w' : World) : Prop := ∃ c : Int, (c = 2 ∨ c = 3) ∧ e = .returned (.tuple #[zeroPkt, .int .i64 c]) ∧ Below w.heap.size w w'
def ReadOk (xs : List Int) (w : World) (e : Ending) (w' : World) : Prop :=
  ∃ a n cap, e = .returned (.tuple #[pktVal (decode xs) a n cap, .int .i64 0]) ∧ IRow .u8 w' a n (decode xs).pay ∧ (a = none → n = 0 ∧ cap = 0) ∧ (∀ b off, a = some ⟨b, off, none⟩ → w.heap.size ≤ b) ∧ Below w.heap.size w w'

set_option maxRecDepth 100000 in
set_option maxHeartbeats 4000000 in
theorem read_short (w : World) (a : Option Addr) (n cap : Nat) (h : n < 12) : Calls Tryd.prog 18 #[.slice a n cap] w (ReadBad w) := by
  have h1 : decide (n < 12) = true := by simpa using h
  go_enter Tryd.func18, Tryd.ntmps18
  go_wp2_with fail
  exact bodyPost_ret (v := .tuple #[zeroPkt, .int .i64 3]) (by simp [results, Tryd.results18, go_sem, zeroPkt]) rfl ⟨3, Or.inr rfl, rfl, (by (try show Below _ _ _); repeat (with_reducible first | exact Below.refl _ _ | assumption | exact Hid.out (by assumption) | refine ext_alloc ?_ | refine ext_drewN ?_ | refine ext_drew ?_ | refine ext_setCell ?_ (Nat.le_refl _) | refine ext_setCell ?_ (Nat.le_succ _) | refine ext_trans ?_ (by assumption) | (refine ext_setCell ?_ (by simp)) | (refine ext_setCell ?_ (by simp at *; omega))))⟩

set_option maxRecDepth 100000 in
set_option maxHeartbeats 4000000 in
theorem read_form (w : World) (b off n cap : Nat) (x : Int) (h : 12 ≤ n) (hc : w.cell? ⟨b, off, none⟩ = some (.int .u8 x)) (hx : (x == 128) = false) : Calls Tryd.prog 18 #[.slice (some ⟨b, off, none⟩) n cap] w (ReadBad w) := by
  have h1 : decide (n < 12) = false := by simp; omega
  have h2 : (x != 128) = true := by simpa using hx
  have hb : b < w.heap.size := World.block_lt_of_cell? w _ hc
  go_enter Tryd.func18, Tryd.ntmps18
  go_wp2_with fail
  exact bodyPost_ret (v := .tuple #[zeroPkt, .int .i64 3]) (by simp [results, Tryd.results18, go_sem, zeroPkt]) rfl ⟨3, Or.inr rfl, rfl, (by (try show Below _ _ _); repeat (with_reducible first | exact Below.refl _ _ | assumption | exact Hid.out (by assumption) | refine ext_alloc ?_ | refine ext_drewN ?_ | refine ext_drew ?_ | refine ext_setCell ?_ (Nat.le_refl _) | refine ext_setCell ?_ (Nat.le_succ _) | refine ext_trans ?_ (by assumption) | (refine ext_setCell ?_ (by simp)) | (refine ext_setCell ?_ (by simp at *; omega))))⟩

set_option maxRecDepth 100000 in
set_option maxHeartbeats 4000000 in
theorem read_large (w : World) (b off n cap : Nat) (h : 1012 < n) (hn : n ≤ 1000000) (hc : w.cell? ⟨b, off, none⟩ = some (.int .u8 128)) : Calls Tryd.prog 18 #[.slice (some ⟨b, off, none⟩) n cap] w (ReadBad w) := by
  have h1 : decide (n < 12) = false := by simp; omega
  have hb : b < w.heap.size := World.block_lt_of_cell? w _ hc
  have h3 : (1000 : Int) < (n : Int) - 12 := by omega
  go_enter Tryd.func18, Tryd.ntmps18
  go_wp2_with fail
  exact bodyPost_ret (v := .tuple #[zeroPkt, .int .i64 2]) (by simp [results, Tryd.results18, go_sem, zeroPkt]) rfl ⟨2, Or.inl rfl, rfl, (by (try show Below _ _ _); repeat (with_reducible first | exact Below.refl _ _ | assumption | exact Hid.out (by assumption) | refine ext_alloc ?_ | refine ext_drewN ?_ | refine ext_drew ?_ | refine ext_setCell ?_ (Nat.le_refl _) | refine ext_setCell ?_ (Nat.le_succ _) | refine ext_trans ?_ (by assumption) | (refine ext_setCell ?_ (by simp)) | (refine ext_setCell ?_ (by simp at *; omega))))⟩

theorem own_nil {w : World} {base : Nat} {e : TypeId} {size : Nat} {a : Option Addr} {m c n : Nat} {xs : List Value} (h : w.ownsRow base e size (.slice a m c) n xs) (ha : a = none) : m = 0 ∧ c = 0 := by
  rcases h.2 with ⟨h6, h7⟩ | ⟨g, cc, cu, h6, _⟩
  · injection h6 with h8 h9 h10
    exact ⟨h9, h10⟩
  · injection h6 with h8 h9 h10
    rw [ha] at h8; cases h8

set_option maxRecDepth 100000 in
set_option maxHeartbeats 4000000 in
theorem read_ok12 (w : World) (b off n cap : Nat) (hc12 : cap = 12) (xs : List Int) (hl : xs.length = n) (h : 12 ≤ n) (hn : n ≤ 1012) (hnc : n ≤ cap) (hcm : cap ≤ 9223372036854775807) (hx : Bytes xs) (h0 : xs.getD 0 0 = 128) (hc : ∀ i, i < n → w.cell? ⟨b, off + i, none⟩ = some (.int .u8 (xs.getD i 0))) :
    Calls Tryd.prog 18 #[.slice (some ⟨b, off, none⟩) n cap] w (ReadOk xs w) := by
  obtain ⟨i0, hi, hz0, hz1, hz2⟩ := info_parts Tryd.infoByte
  have h1 : decide (n < 12) = false := by simp; omega
  have h3 : ¬ (1000 : Int) < (n : Int) - 12 := by omega
  have c0 : w.cell? ⟨b, off, none⟩ = some (.int .u8 128) := by have := hc 0 (by omega); rwa [h0] at this
  have hb : b < w.heap.size := World.block_lt_of_cell? w _ c0
  have c1 := hc 1 (by omega)
  have hx1 := hx (xs.getD 1 0) (mem_getD (by omega))
  have HA := Lib.hid (and_127 _ hx1.1 hx1.2)
  have HC := Lib.hid hc
  have HX := Lib.hid hx
  clear hc hx
  have k1 : (2 : Int) ≤ cap := by omega
  have k2 : (4 : Int) ≤ cap := by omega
  have k3 : (8 : Int) ≤ cap := by omega
  have k4 : (12 : Int) ≤ cap := by omega
  have k5 : (12 : Int) ≤ n := by omega
  have k6 : (n : Int) ≤ cap := by omega
  have k7 : (1 : Int) < n := by omega
  have k8 : (1 : Nat) < n := by omega
  have q2 : ¬ cap = 2 := by omega
  have q4 : ¬ cap = 4 := by omega
  have q8 : ¬ cap = 8 := by omega
  go_enter Tryd.func18, Tryd.ntmps18
  go_wp2_with fail
  generalize hx1e : xs.getD 1 0 = x1 at c1 HA hx1
  have X1 := Lib.hid hx1e
  clear hx1e
  have HCZ : Hid (∀ i, i < n → (w.alloc (.cells #[.int .i64 0, .int .i64 0, .int .i64 0, .int .i64 0, .bool false, .slice none 0 0] 44)).drew.cell? ⟨b, off + i, none⟩ = some (.int .u8 (xs.getD i 0))) := fun i hi => ((ext_alloc (Below.refl _ w)).cell (p := ⟨b, off + i, none⟩) hb).trans (HC.out i hi)
  have HN12 : Hid (∀ (j : Nat) u, ((xs.drop 12).map (Value.int .u8))[j]? = some u → (w.alloc (.cells #[.int .i64 0, .int .i64 0, .int .i64 0, .int .i64 0, .bool false, .slice none 0 0] 44)).drew.cell? ⟨b, off + 12 + j, none⟩ = some u) := by
    show ∀ _, _
    intro j u hj
    have hlt : j < (xs.drop 12).length := by have := (List.getElem?_eq_some_iff.1 hj).1; simpa using this
    rw [getD_map_int .u8 _ j hlt] at hj
    have := HCZ.out (12 + j) (by simp at hlt; omega)
    rw [Nat.add_assoc, this, ← hj]
    simp [List.getD_eq_getElem?_getD, Nat.add_comm]
  have GG : ∀ d m, d + m ≤ n → ((xs.drop d).take m).length = m ∧ Bytes ((xs.drop d).take m) ∧ ∀ i, i < m → (w.alloc (.cells #[.int .i64 0, .int .i64 0, .int .i64 0, .int .i64 0, .bool false, .slice none 0 0] 44)).drew.cell? ⟨b, off + d + i, none⟩ = some (.int .u8 (((xs.drop d).take m).getD i 0)) := by
    intro d m hd
    refine ⟨by simp; omega, fun x hx => HX.out x (List.mem_of_mem_drop (List.mem_of_mem_take hx)), fun i hi => ?_⟩
    have := HCZ.out (d + i) (by omega)
    rw [Nat.add_assoc, this]
    simp [List.getD_eq_getElem?_getD, List.getElem?_take, hi]
  have G2 := Lib.hid (GG 2 2 (by omega))
  have G4 := Lib.hid (GG 4 4 (by omega))
  have G8 := Lib.hid (GG 8 4 (by omega))
  clear GG
  obtain rfl : cap = 12 := hc12
  have hn12 : n = 12 := by omega
  subst hn12
  have HD0 : Hid (xs.drop 12 = []) := List.drop_of_length_le (by omega)
  have hbz : w.heap.size ≠ b := by omega
  have hA := HA.out
  have hW : IntKind.i64.wrap (x1 % 128) = x1 % 128 := IntWalk.i64_in _ (by omega)
  have c1' : (w.alloc (.cells #[.int .i64 0, .int .i64 0, .int .i64 0, .int .i64 0, .bool false, .slice none 0 0] 44)).drew.cell? ⟨b, off + 1, none⟩ = some (.int .u8 x1) := ((ext_alloc (Below.refl _ w)).cell (p := ⟨b, off + 1, none⟩) hb).trans c1
  go_region_held3 (fun w' => w'.cell? ⟨b, off + 1, none⟩ = some (.int .u8 x1))
    (first | with_reducible exact d5 | with_reducible exact c1' | (rw [World.cell?_setCell_far _ _ _ _ hbz, World.cell?_setCell_far _ _ _ _ hbz, World.cell?_setCell_far _ _ _ _ hbz, World.cell?_setCell_far _ _ _ _ hbz, World.cell?_setCell_far _ _ _ _ hbz, World.cell?_setCell_far _ _ _ _ hbz]; with_reducible exact d5))
    (first
      | (have hg3 := tok3; rw [if_pos (by rfl)]; refine wp_append_own (w.alloc (.cells #[.int .i64 0, .int .i64 0, .int .i64 0, .int .i64 0, .bool false, .slice none 0 0] 44)).drew (.const (.slice none 0 0)) (.tmp 38) 42 rfl (w.heap.size + 1) 5 i0 (.int .u8 0) 1 1 Tryd.underlying42 hi hz0 hz1 hz2 rfl (by decide) (.slice none 0 0) 0 [] rfl (World.ownsRow_nil _ _ _ _) ⟨b, off, none⟩ 0 0 ((xs.drop 12).map (Value.int .u8)) (by rfl) (by simp; omega) (fun j u hj => by rw [HD0.out] at hj; cases hj) (onecell_ints _ _) (by simp only [maxLen]; omega) (by omega) (by simp) ?_; intro v5 w5 hown5 hgr5 hnil5; clear tok3; obtain ⟨a5, c5, rfl⟩ := own_slice0 hown5; have d5 : w5.cell? ⟨b, off + 1, none⟩ = some (.int .u8 x1) := (grown_cell hgr5 (by simp; omega) (by simp [Value.ownBlock])).trans c1'; have r0 : w5.cell? ⟨w.heap.size, 0, none⟩ = some (.int .i64 0) := (grown_cell hgr5 (by simp) (by simp [Value.ownBlock])).trans (by go_simp); have f0 : w5.frozen? ⟨w.heap.size, 0, none⟩ = false := (grown_frozen hgr5 (by simp) (by simp [Value.ownBlock])).trans (by go_simp); have r1 : w5.cell? ⟨w.heap.size, 1, none⟩ = some (.int .i64 0) := (grown_cell hgr5 (by simp) (by simp [Value.ownBlock])).trans (by go_simp); have f1 : w5.frozen? ⟨w.heap.size, 1, none⟩ = false := (grown_frozen hgr5 (by simp) (by simp [Value.ownBlock])).trans (by go_simp); have r2 : w5.cell? ⟨w.heap.size, 2, none⟩ = some (.int .i64 0) := (grown_cell hgr5 (by simp) (by simp [Value.ownBlock])).trans (by go_simp); have f2 : w5.frozen? ⟨w.heap.size, 2, none⟩ = false := (grown_frozen hgr5 (by simp) (by simp [Value.ownBlock])).trans (by go_simp); have r3 : w5.cell? ⟨w.heap.size, 3, none⟩ = some (.int .i64 0) := (grown_cell hgr5 (by simp) (by simp [Value.ownBlock])).trans (by go_simp); have f3 : w5.frozen? ⟨w.heap.size, 3, none⟩ = false := (grown_frozen hgr5 (by simp) (by simp [Value.ownBlock])).trans (by go_simp); have r4 : w5.cell? ⟨w.heap.size, 4, none⟩ = some (.bool false) := (grown_cell hgr5 (by simp) (by simp [Value.ownBlock])).trans (by go_simp); have f4 : w5.frozen? ⟨w.heap.size, 4, none⟩ = false := (grown_frozen hgr5 (by simp) (by simp [Value.ownBlock])).trans (by go_simp); have r5 : w5.cell? ⟨w.heap.size, 5, none⟩ = some (.slice none 0 0) := (grown_cell hgr5 (by simp) (by simp [Value.ownBlock])).trans (by go_simp); have f5 : w5.frozen? ⟨w.heap.size, 5, none⟩ = false := (grown_frozen hgr5 (by simp) (by simp [Value.ownBlock])).trans (by go_simp))
      | (go_at_call 50; have _t := tok2; refine (get_any (w.alloc (.cells #[.int .i64 0, .int .i64 0, .int .i64 0, .int .i64 0, .bool false, .slice none 0 0] 44)).drew b (off + 8) 4 _ ((xs.drop 8).take 4) (G8.out.1) (by omega) (G8.out.2.1) (G8.out.2.2)).mono ?_; rintro e w' ⟨rfl, rfl⟩; have tok3 : True := trivial; clear tok2)
      | (go_at_call 50; have _t := tok1; refine (get_any (w.alloc (.cells #[.int .i64 0, .int .i64 0, .int .i64 0, .int .i64 0, .bool false, .slice none 0 0] 44)).drew b (off + 4) 4 _ ((xs.drop 4).take 4) (G4.out.1) (by omega) (G4.out.2.1) (G4.out.2.2)).mono ?_; rintro e w' ⟨rfl, rfl⟩; have tok2 : True := trivial; clear tok1)
      | (go_at_call 50; refine (get_any (w.alloc (.cells #[.int .i64 0, .int .i64 0, .int .i64 0, .int .i64 0, .bool false, .slice none 0 0] 44)).drew b (off + 2) 2 _ ((xs.drop 2).take 2) (G2.out.1) (by omega) (G2.out.2.1) (G2.out.2.2)).mono ?_; rintro e w' ⟨rfl, rfl⟩; have tok1 : True := trivial))
  clear hA hW
  try clear hHeld
  have hbel : Below w.heap.size w w5 := (ext_drew (ext_alloc (Below.refl _ w))).trans ((Below.refl w.heap.size (w.alloc (.cells #[.int .i64 0, .int .i64 0, .int .i64 0, .int .i64 0, .bool false, .slice none 0 0] 44)).drew).grown hgr5 (by simp) (by intro k hk; cases hk))
  have hK5 := (((((((Keeps.refl w.heap.size w5).setCell (p := ⟨w.heap.size, 0, none⟩) rfl (.int .i64 (x1 % 128))).setCell (p := ⟨w.heap.size, 1, none⟩) rfl (.int .i64 (valI ((xs.drop 2).take 2)))).setCell (p := ⟨w.heap.size, 2, none⟩) rfl (.int .i64 (valI ((xs.drop 4).take 4)))).setCell (p := ⟨w.heap.size, 3, none⟩) rfl (.int .i64 (valI ((xs.drop 8).take 4)))).setCell (p := ⟨w.heap.size, 4, none⟩) rfl (.bool (decide (128 ≤ x1)))).setCell (p := ⟨w.heap.size, 5, none⟩) rfl (.slice a5 0 c5))
  obtain ⟨a6, c6, hv6, hrow6, hat6⟩ := IRow.of_own_at (k := .u8) (xs := xs.drop 12) (by simpa using hown5)
  injection hv6 with hv7 hv8 hv9
  subst hv7
  subst hv9
  clear hv8
  have HO5 := Lib.hid hown5
  have HR6 := Lib.hid hrow6
  have HAT := Lib.hid hat6
  clear hrow6 hat6 hown5 hgr5 hnil5
  go_wp2_with fail
  refine bodyPost_ret (v := .tuple #[.agg #[.int .i64 (x1 % 128), .int .i64 (valI ((xs.drop 2).take 2)), .int .i64 (valI ((xs.drop 4).take 4)), .int .i64 (valI ((xs.drop 8).take 4)), .bool (decide (128 ≤ x1)), .slice a5 0 c5], .int .i64 0]) (by simp [results, Tryd.results18, go_sem, r0, r1, r2, r3, r4, r5]) rfl ⟨a5, 0, c5, ?_, ?_, (fun h5 => own_nil HO5.out h5), fun b off e => by have := HAT.out b off e; omega, ?_⟩
  · simp only [pktVal, decode, X1.out]
  · have := HR6.out.keeps hK5 (fun b off e => by have := HAT.out b off e; omega)
    simpa [decode] using this
  · exact (by (try show Below _ _ _); repeat (with_reducible first | exact Below.refl _ _ | assumption | exact Hid.out (by assumption) | refine ext_alloc ?_ | refine ext_drewN ?_ | refine ext_drew ?_ | refine ext_setCell ?_ (Nat.le_refl _) | refine ext_setCell ?_ (Nat.le_succ _) | refine ext_trans ?_ (by assumption) | (refine ext_setCell ?_ (by simp)) | (refine ext_setCell ?_ (by simp at *; omega))))

set_option maxRecDepth 100000 in
set_option maxHeartbeats 4000000 in
theorem read_ok (w : World) (b off n cap : Nat) (hc12 : ¬ cap = 12) (xs : List Int) (hl : xs.length = n) (h : 12 ≤ n) (hn : n ≤ 1012) (hnc : n ≤ cap) (hcm : cap ≤ 9223372036854775807) (hx : Bytes xs) (h0 : xs.getD 0 0 = 128) (hc : ∀ i, i < n → w.cell? ⟨b, off + i, none⟩ = some (.int .u8 (xs.getD i 0))) :
    Calls Tryd.prog 18 #[.slice (some ⟨b, off, none⟩) n cap] w (ReadOk xs w) := by
  obtain ⟨i0, hi, hz0, hz1, hz2⟩ := info_parts Tryd.infoByte
  have h1 : decide (n < 12) = false := by simp; omega
  have h3 : ¬ (1000 : Int) < (n : Int) - 12 := by omega
  have c0 : w.cell? ⟨b, off, none⟩ = some (.int .u8 128) := by have := hc 0 (by omega); rwa [h0] at this
  have hb : b < w.heap.size := World.block_lt_of_cell? w _ c0
  have c1 := hc 1 (by omega)
  have hx1 := hx (xs.getD 1 0) (mem_getD (by omega))
  have HA := Lib.hid (and_127 _ hx1.1 hx1.2)
  have HC := Lib.hid hc
  have HX := Lib.hid hx
  clear hc hx
  have k1 : (2 : Int) ≤ cap := by omega
  have k2 : (4 : Int) ≤ cap := by omega
  have k3 : (8 : Int) ≤ cap := by omega
  have k4 : (12 : Int) ≤ cap := by omega
  have k5 : (12 : Int) ≤ n := by omega
  have k6 : (n : Int) ≤ cap := by omega
  have k7 : (1 : Int) < n := by omega
  have k8 : (1 : Nat) < n := by omega
  have q2 : ¬ cap = 2 := by omega
  have q4 : ¬ cap = 4 := by omega
  have q8 : ¬ cap = 8 := by omega
  go_enter Tryd.func18, Tryd.ntmps18
  go_wp2_with fail
  generalize hx1e : xs.getD 1 0 = x1 at c1 HA hx1
  have X1 := Lib.hid hx1e
  clear hx1e
  have HCZ : Hid (∀ i, i < n → (w.alloc (.cells #[.int .i64 0, .int .i64 0, .int .i64 0, .int .i64 0, .bool false, .slice none 0 0] 44)).drew.cell? ⟨b, off + i, none⟩ = some (.int .u8 (xs.getD i 0))) := fun i hi => ((ext_alloc (Below.refl _ w)).cell (p := ⟨b, off + i, none⟩) hb).trans (HC.out i hi)
  have HN12 : Hid (∀ (j : Nat) u, ((xs.drop 12).map (Value.int .u8))[j]? = some u → (w.alloc (.cells #[.int .i64 0, .int .i64 0, .int .i64 0, .int .i64 0, .bool false, .slice none 0 0] 44)).drew.cell? ⟨b, off + 12 + j, none⟩ = some u) := by
    show ∀ _, _
    intro j u hj
    have hlt : j < (xs.drop 12).length := by have := (List.getElem?_eq_some_iff.1 hj).1; simpa using this
    rw [getD_map_int .u8 _ j hlt] at hj
    have := HCZ.out (12 + j) (by simp at hlt; omega)
    rw [Nat.add_assoc, this, ← hj]
    simp [List.getD_eq_getElem?_getD, Nat.add_comm]
  have GG : ∀ d m, d + m ≤ n → ((xs.drop d).take m).length = m ∧ Bytes ((xs.drop d).take m) ∧ ∀ i, i < m → (w.alloc (.cells #[.int .i64 0, .int .i64 0, .int .i64 0, .int .i64 0, .bool false, .slice none 0 0] 44)).drew.cell? ⟨b, off + d + i, none⟩ = some (.int .u8 (((xs.drop d).take m).getD i 0)) := by
    intro d m hd
    refine ⟨by simp; omega, fun x hx => HX.out x (List.mem_of_mem_drop (List.mem_of_mem_take hx)), fun i hi => ?_⟩
    have := HCZ.out (d + i) (by omega)
    rw [Nat.add_assoc, this]
    simp [List.getD_eq_getElem?_getD, List.getElem?_take, hi]
  have G2 := Lib.hid (GG 2 2 (by omega))
  have G4 := Lib.hid (GG 4 4 (by omega))
  have G8 := Lib.hid (GG 8 4 (by omega))
  clear GG
  have hbz : w.heap.size ≠ b := by omega
  have hA := HA.out
  have hW : IntKind.i64.wrap (x1 % 128) = x1 % 128 := IntWalk.i64_in _ (by omega)
  have c1' : (w.alloc (.cells #[.int .i64 0, .int .i64 0, .int .i64 0, .int .i64 0, .bool false, .slice none 0 0] 44)).drew.cell? ⟨b, off + 1, none⟩ = some (.int .u8 x1) := ((ext_alloc (Below.refl _ w)).cell (p := ⟨b, off + 1, none⟩) hb).trans c1
  go_region_held3 (fun w' => w'.cell? ⟨b, off + 1, none⟩ = some (.int .u8 x1))
    (first | with_reducible exact d5 | with_reducible exact c1' | (rw [World.cell?_setCell_far _ _ _ _ hbz, World.cell?_setCell_far _ _ _ _ hbz, World.cell?_setCell_far _ _ _ _ hbz, World.cell?_setCell_far _ _ _ _ hbz, World.cell?_setCell_far _ _ _ _ hbz, World.cell?_setCell_far _ _ _ _ hbz]; with_reducible exact d5))
    (first
      | (have hg3 := tok3; rw [if_pos (by rfl)]; refine wp_append_own (w.alloc (.cells #[.int .i64 0, .int .i64 0, .int .i64 0, .int .i64 0, .bool false, .slice none 0 0] 44)).drew (.const (.slice none 0 0)) (.tmp 38) 42 rfl (w.heap.size + 1) 5 i0 (.int .u8 0) 1 1 Tryd.underlying42 hi hz0 hz1 hz2 rfl (by decide) (.slice none 0 0) 0 [] rfl (World.ownsRow_nil _ _ _ _) ⟨b, off + 12, none⟩ (n - 12) (cap - 12) ((xs.drop 12).map (Value.int .u8)) (by rfl) (by simp; omega) (fun j u hj => by rw [addr_add]; exact HN12.out j u hj) (onecell_ints _ _) (by simp only [maxLen]; omega) (by omega) (by simp) ?_; intro v5 w5 hown5 hgr5 hnil5; clear tok3; obtain ⟨a5, c5, rfl⟩ := own_slice0 hown5; have d5 : w5.cell? ⟨b, off + 1, none⟩ = some (.int .u8 x1) := (grown_cell hgr5 (by simp; omega) (by simp [Value.ownBlock])).trans c1'; have r0 : w5.cell? ⟨w.heap.size, 0, none⟩ = some (.int .i64 0) := (grown_cell hgr5 (by simp) (by simp [Value.ownBlock])).trans (by go_simp); have f0 : w5.frozen? ⟨w.heap.size, 0, none⟩ = false := (grown_frozen hgr5 (by simp) (by simp [Value.ownBlock])).trans (by go_simp); have r1 : w5.cell? ⟨w.heap.size, 1, none⟩ = some (.int .i64 0) := (grown_cell hgr5 (by simp) (by simp [Value.ownBlock])).trans (by go_simp); have f1 : w5.frozen? ⟨w.heap.size, 1, none⟩ = false := (grown_frozen hgr5 (by simp) (by simp [Value.ownBlock])).trans (by go_simp); have r2 : w5.cell? ⟨w.heap.size, 2, none⟩ = some (.int .i64 0) := (grown_cell hgr5 (by simp) (by simp [Value.ownBlock])).trans (by go_simp); have f2 : w5.frozen? ⟨w.heap.size, 2, none⟩ = false := (grown_frozen hgr5 (by simp) (by simp [Value.ownBlock])).trans (by go_simp); have r3 : w5.cell? ⟨w.heap.size, 3, none⟩ = some (.int .i64 0) := (grown_cell hgr5 (by simp) (by simp [Value.ownBlock])).trans (by go_simp); have f3 : w5.frozen? ⟨w.heap.size, 3, none⟩ = false := (grown_frozen hgr5 (by simp) (by simp [Value.ownBlock])).trans (by go_simp); have r4 : w5.cell? ⟨w.heap.size, 4, none⟩ = some (.bool false) := (grown_cell hgr5 (by simp) (by simp [Value.ownBlock])).trans (by go_simp); have f4 : w5.frozen? ⟨w.heap.size, 4, none⟩ = false := (grown_frozen hgr5 (by simp) (by simp [Value.ownBlock])).trans (by go_simp); have r5 : w5.cell? ⟨w.heap.size, 5, none⟩ = some (.slice none 0 0) := (grown_cell hgr5 (by simp) (by simp [Value.ownBlock])).trans (by go_simp); have f5 : w5.frozen? ⟨w.heap.size, 5, none⟩ = false := (grown_frozen hgr5 (by simp) (by simp [Value.ownBlock])).trans (by go_simp))
      | (go_at_call 50; have _t := tok2; refine (get_any (w.alloc (.cells #[.int .i64 0, .int .i64 0, .int .i64 0, .int .i64 0, .bool false, .slice none 0 0] 44)).drew b (off + 8) 4 _ ((xs.drop 8).take 4) (G8.out.1) (by omega) (G8.out.2.1) (G8.out.2.2)).mono ?_; rintro e w' ⟨rfl, rfl⟩; have tok3 : True := trivial; clear tok2)
      | (go_at_call 50; have _t := tok1; refine (get_any (w.alloc (.cells #[.int .i64 0, .int .i64 0, .int .i64 0, .int .i64 0, .bool false, .slice none 0 0] 44)).drew b (off + 4) 4 _ ((xs.drop 4).take 4) (G4.out.1) (by omega) (G4.out.2.1) (G4.out.2.2)).mono ?_; rintro e w' ⟨rfl, rfl⟩; have tok2 : True := trivial; clear tok1)
      | (go_at_call 50; refine (get_any (w.alloc (.cells #[.int .i64 0, .int .i64 0, .int .i64 0, .int .i64 0, .bool false, .slice none 0 0] 44)).drew b (off + 2) 2 _ ((xs.drop 2).take 2) (G2.out.1) (by omega) (G2.out.2.1) (G2.out.2.2)).mono ?_; rintro e w' ⟨rfl, rfl⟩; have tok1 : True := trivial))
  clear hA hW
  try clear hHeld
  have hbel : Below w.heap.size w w5 := (ext_drew (ext_alloc (Below.refl _ w))).trans ((Below.refl w.heap.size (w.alloc (.cells #[.int .i64 0, .int .i64 0, .int .i64 0, .int .i64 0, .bool false, .slice none 0 0] 44)).drew).grown hgr5 (by simp) (by intro k hk; cases hk))
  have hK5 := (((((((Keeps.refl w.heap.size w5).setCell (p := ⟨w.heap.size, 0, none⟩) rfl (.int .i64 (x1 % 128))).setCell (p := ⟨w.heap.size, 1, none⟩) rfl (.int .i64 (valI ((xs.drop 2).take 2)))).setCell (p := ⟨w.heap.size, 2, none⟩) rfl (.int .i64 (valI ((xs.drop 4).take 4)))).setCell (p := ⟨w.heap.size, 3, none⟩) rfl (.int .i64 (valI ((xs.drop 8).take 4)))).setCell (p := ⟨w.heap.size, 4, none⟩) rfl (.bool (decide (128 ≤ x1)))).setCell (p := ⟨w.heap.size, 5, none⟩) rfl (.slice a5 (n - 12) c5))
  obtain ⟨a6, c6, hv6, hrow6, hat6⟩ := IRow.of_own_at (k := .u8) (xs := xs.drop 12) (by simpa using hown5)
  injection hv6 with hv7 hv8 hv9
  subst hv7
  subst hv9
  clear hv8
  have HO5 := Lib.hid hown5
  have HR6 := Lib.hid hrow6
  have HAT := Lib.hid hat6
  clear hrow6 hat6 hown5 hgr5 hnil5
  go_wp2_with fail
  refine bodyPost_ret (v := .tuple #[.agg #[.int .i64 (x1 % 128), .int .i64 (valI ((xs.drop 2).take 2)), .int .i64 (valI ((xs.drop 4).take 4)), .int .i64 (valI ((xs.drop 8).take 4)), .bool (decide (128 ≤ x1)), .slice a5 (n - 12) c5], .int .i64 0]) (by simp [results, Tryd.results18, go_sem, r0, r1, r2, r3, r4, r5]) rfl ⟨a5, (n - 12), c5, ?_, ?_, (fun h5 => by have := own_nil HO5.out h5; omega), fun b off e => by have := HAT.out b off e; omega, ?_⟩
  · simp only [pktVal, decode, X1.out]
  · have := HR6.out.keeps hK5 (fun b off e => by have := HAT.out b off e; omega)
    simpa [decode] using this
  · exact (by (try show Below _ _ _); repeat (with_reducible first | exact Below.refl _ _ | assumption | exact Hid.out (by assumption) | refine ext_alloc ?_ | refine ext_drewN ?_ | refine ext_drew ?_ | refine ext_setCell ?_ (Nat.le_refl _) | refine ext_setCell ?_ (Nat.le_succ _) | refine ext_trans ?_ (by assumption) | (refine ext_setCell ?_ (by simp)) | (refine ext_setCell ?_ (by simp at *; omega))))
end Go.Proofs.YtlllckclfpdhgaaDoor
