/- What is proved here: PacketBytes of the reference hands back bytes, twelve more than the payload has. Condition: what is handed in lies in memory as stated. -/
import Derived.Test.YtlllckclfpdhgaaDoorRightPacket
namespace Go.Proofs.YtlllckclfpdhgaaDoor
open Go.RowKit
set_option linter.unusedVariables false
set_option linter.unusedSimpArgs false

def BytesPost (n : Nat) (w : World) (e : Ending) (w' : World) : Prop :=
  ∃ (v : Value) (xs : List Int), e = .returned v ∧ w'.ownsRow w.heap.size 5 1 v n (xs.map (Value.int .u8)) ∧ Bytes xs ∧ Below w.heap.size w w'

theorem bytes_snoc {xs : List Int} {x : Int} (h : Bytes xs) (h0 : 0 ≤ x) (h1 : x ≤ 255) : Bytes (xs ++ [x]) := by
  intro y hy
  rcases List.mem_append.1 hy with hy | hy
  · exact h y hy
  · simp at hy; omega
theorem bytes_append {xs ys : List Int} (h : Bytes xs) (k : Bytes ys) : Bytes (xs ++ ys) := by
  intro y hy
  rcases List.mem_append.1 hy with hy | hy
  · exact h y hy
  · exact k y hy

def nums (p : Pkt) : List Int := [p.seq, p.time, p.src]
def manys : List Nat := [2, 4, 4]
def tots : List Nat := [2, 4, 8, 12]

theorem own_not {w : World} {base : Nat} {e t : TypeId} {size : Nat} {v : Value} {n : Nat} {xs : List Value} (h : w.ownsRow base e size v n xs) {b : Nat} {cs : Array Value} {fr : Nat × Nat} (hb : w.heap[b]? = some (.cells cs t fr)) (hte : t ≠ e) : v.ownBlock ≠ some b := by
  intro hv
  rcases h.2 with ⟨rfl, _⟩ | ⟨g, cap, cur, rfl, _, hg, _⟩
  · simp [Value.ownBlock] at hv
  · simp [Value.ownBlock] at hv
    subst hv
    rw [hg] at hb
    injection hb with hb
    injection hb with h1 h2
    exact hte h2.symm

/-- What stays while bytes are put on: two blocks, and all that was there. -/
structure RefAt (w wr : World) (o0 o2 : Obj) (v : Value) (m : Nat) (xs : List Int) : Prop where
  own : wr.ownsRow (w.heap.size + 1) 5 1 v m (xs.map (Value.int .u8))
  bytes : Bytes xs
  b0 : wr.heap[w.heap.size]? = some o0
  b2 : wr.heap[w.heap.size + 2]? = some o2
  bel : Below w.heap.size w wr
  size : w.heap.size + 3 ≤ wr.heap.size

theorem RefAt.cast {w wr : World} {o0 o2 : Obj} {v : Value} {m m' : Nat} {xs : List Int} (e : m = m') (h : RefAt w wr o0 o2 v m xs) : RefAt w wr o0 o2 v m' xs := e ▸ h
theorem RefAt.alloc {w wr : World} {o0 o2 : Obj} {v : Value} {m : Nat} {xs : List Int} (h : RefAt w wr o0 o2 v m xs) (o : Obj) : RefAt w (wr.alloc o) o0 o2 v m xs :=
  ⟨h.own.alloc o, h.bytes, (Below.heap_alloc _ _ _ (by have := h.size; omega)).trans h.b0, (Below.heap_alloc _ _ _ (by have := h.size; omega)).trans h.b2, h.bel.alloc (by have := h.size; omega) o, by have := h.size; simp; omega⟩

theorem RefAt.push {w wr w9 : World} {cs0 cs2 : Array Value} {v v' : Value} {m : Nat} {xs : List Int} {x : Int} (h : RefAt w wr (.cells cs0 44) (.cells cs2 141) v m xs) (hg : wr.grownBy w9 v.ownBlock) (ho : w9.ownsRow (w.heap.size + 1) 5 1 v' (m + 1) (xs.map (Value.int .u8) ++ [.int .u8 x])) (h0 : 0 ≤ x) (h1 : x ≤ 255) : RefAt w w9 (.cells cs0 44) (.cells cs2 141) v' (m + 1) (xs ++ [x]) where
  own := by rw [List.map_append]; exact ho
  bytes := bytes_snoc h.bytes h0 h1
  b0 := (hg.block _ (by have := h.size; omega) (fun e => own_not h.own h.b0 (by decide) e.symm)).trans h.b0
  b2 := (hg.block _ (by have := h.size; omega) (fun e => own_not h.own h.b2 (by decide) e.symm)).trans h.b2
  bel := h.bel.grown hg (by have := h.size; omega) (fun b e => by have := (h.own.lt b e).1; omega)
  size := Nat.le_trans h.size hg.size

set_option maxRecDepth 100000 in
set_option maxHeartbeats 4000000 in
theorem refBytes_any (w : World) (p : Pkt) (a : Option Addr) (n cap : Nat) (h : PktOk p) (hr : IRow .u8 w a n p.pay) (hcap : a = none → n = 0 ∧ cap = 0) :
    Calls Tryd.prog 51 #[pktVal p a n cap] w (BytesPost (12 + n) w) := by
  obtain ⟨i0, hi, hz0, hz1, hz2⟩ := info_parts Tryd.infoByte
  have HR := Lib.hid hr
  have HOK := Lib.hid h
  have hs2 := h.s0; have hs3 := h.s1; have ht2 := h.i0; have ht3 := h.i1; have hc2 := h.c0; have hc3 := h.c1; have hy0 := h.t0; have hy1 := h.t1
  have few := h.few
  clear hr h
  unfold pktVal
  go_enter Tryd.func51, Tryd.ntmps51
  have hw1 : IntKind.u8.wrap p.type = p.type := by rw [IntKind.wrap_u8]; omega
  have hw2 : IntKind.u8.wrap (p.type + 128) = p.type + 128 := by rw [IntKind.wrap_u8]; omega
  generalize hmk : p.mark = mk
  cases mk with
  | true =>
    go_wp2_with fail
    have HA : Hid (RefAt w (((w.alloc (Obj.cells #[.int .i64 p.type, .int .i64 p.seq, .int .i64 p.time, .int .i64 p.src, .bool true, .slice a n cap] 44)).alloc (.cells #[.int .u8 128, .int .u8 (p.type + 128)] 5)).alloc (Obj.cells #[.int .i64 p.seq, .int .i64 2, .int .i64 p.time, .int .i64 4, .int .i64 p.src, .int .i64 4] 141)) (Obj.cells #[.int .i64 p.type, .int .i64 p.seq, .int .i64 p.time, .int .i64 p.src, .bool true, .slice a n cap] 44) (Obj.cells #[.int .i64 p.seq, .int .i64 2, .int .i64 p.time, .int .i64 4, .int .i64 p.src, .int .i64 4] 141) (.slice (some ⟨w.heap.size + 1, 0, none⟩) 2 2) 2 [128, p.type + 128]) := by
      refine ⟨?_, ?_, (Below.heap_alloc _ _ _ (by simp; omega)).trans ((Below.heap_alloc _ _ _ (by simp)).trans (heap_alloc_new w _)), ?_, (by (try show Below _ _ _); repeat (with_reducible first | exact Below.refl _ _ | assumption | exact Hid.out (by assumption) | refine ext_alloc ?_ | refine ext_drewN ?_ | refine ext_drew ?_ | refine ext_setCell ?_ (Nat.le_refl _) | refine ext_setCell ?_ (Nat.le_succ _) | refine ext_trans ?_ (by assumption) | (refine ext_setCell ?_ (by simp)) | (refine ext_setCell ?_ (by simp at *; omega)))), by simp⟩
      · have := World.ownsRow_lit (base := w.heap.size + 1) (e := 5) (size := 1) (w.alloc (Obj.cells #[.int .i64 p.type, .int .i64 p.seq, .int .i64 p.time, .int .i64 p.src, .bool true, .slice a n cap] 44)) #[.int .u8 128, .int .u8 (p.type + 128)] 2 (by simp) (by decide) rfl
        have h2 := this.alloc (Obj.cells #[.int .i64 p.seq, .int .i64 2, .int .i64 p.time, .int .i64 4, .int .i64 p.src, .int .i64 4] 141)
        simpa using h2
      · intro y hy; simp at hy; omega
      · have h2 := heap_alloc_new ((w.alloc (Obj.cells #[.int .i64 p.type, .int .i64 p.seq, .int .i64 p.time, .int .i64 p.src, .bool true, .slice a n cap] 44)).alloc (.cells #[.int .u8 128, .int .u8 (p.type + 128)] 5)) (Obj.cells #[.int .i64 p.seq, .int .i64 2, .int .i64 p.time, .int .i64 4, .int .i64 p.src, .int .i64 4] 141)
        rw [show ((w.alloc (Obj.cells #[.int .i64 p.type, .int .i64 p.seq, .int .i64 p.time, .int .i64 p.src, .bool true, .slice a n cap] 44)).alloc (.cells #[.int .u8 128, .int .u8 (p.type + 128)] 5)).heap.size = w.heap.size + 2 by simp] at h2
        exact h2
    clear hw1 hw2
    go_loopw [3, 29] (fun v it wr => ∃ (k : Nat) (xs : List Int), k ≤ 3 ∧ it = .int .i64 k ∧ Hid (RefAt w wr (Obj.cells #[.int .i64 p.type, .int .i64 p.seq, .int .i64 p.time, .int .i64 p.src, .bool true, .slice a n cap] 44) (Obj.cells #[.int .i64 p.seq, .int .i64 2, .int .i64 p.time, .int .i64 4, .int .i64 p.src, .int .i64 4] 141) v (tots.getD k 12) xs)) (fun _ it _ => 3 - (intOf it).toNat)
    case atStart => exact ⟨0, _, by omega, rfl, HA⟩
    case round =>
      obtain ⟨k, xs, hk, rfl, HT⟩ := hrel
      by_cases hlt : k < 3
      · have hel : ∃ (num : Int) (many : Nat), Hid (wr.cell? ⟨w.heap.size + 2, k * 2, none⟩ = some (.int .i64 num) ∧ wr.cell? ⟨w.heap.size + 2, k * 2 + 1, none⟩ = some (.int .i64 many)) ∧ 0 ≤ num ∧ num ≤ 4294967295 ∧ many ≤ 4 ∧ 1 ≤ many ∧ Hid (tots.getD (k + 1) 12 = tots.getD k 12 + many) ∧ tots.getD k 12 ≤ 8 := by
          have c := fun j => cell_of_row wr (w.heap.size + 2) j _ _ _ HT.out.b2
          have : k = 0 ∨ k = 1 ∨ k = 2 := by omega
          rcases this with rfl | rfl | rfl
          · exact ⟨p.seq, 2, ⟨(c 0), (c 1)⟩, by omega, by omega, by omega, by omega, rfl, by decide⟩
          · exact ⟨p.time, 4, ⟨(c 2), (c 3)⟩, by omega, by omega, by omega, by omega, rfl, by decide⟩
          · exact ⟨p.src, 4, ⟨(c 4), (c 5)⟩, by omega, by omega, by omega, by omega, rfl, by decide⟩
        obtain ⟨num, many, HE, n0, n1, m4, m1, HTT, t8⟩ := hel
        obtain ⟨e0, e1⟩ := HE.out
        have zs := HT.out.size
        have z2 : w.heap.size + 2 < wr.heap.size := by omega
        generalize tots.getD k 12 = tk at HT HTT t8
        have hd3 : decide ((k : Int) < 3) = true := by simp; omega
        go_wp2_with fail
        obtain ⟨wo, rfl⟩ : ∃ wo : World, wo = wr := ⟨_, rfl⟩
        go_loopw [3, 6] (fun v it wi => ∃ (j : Nat) (ys : List Int), j ≤ many ∧ it = .int .i64 ((many : Int) - 1 - j) ∧ Hid (RefAt w wi (Obj.cells #[.int .i64 p.type, .int .i64 p.seq, .int .i64 p.time, .int .i64 p.src, .bool true, .slice a n cap] 44) (Obj.cells #[.int .i64 p.seq, .int .i64 2, .int .i64 p.time, .int .i64 4, .int .i64 p.src, .int .i64 4] 141) v (tk + j) ys) ∧ Hid (wi.cell? ⟨wo.heap.size, 0, none⟩ = some (.int .i64 num)) ∧ wo.heap.size < wi.heap.size ∧ Hid (∃ cs, wi.heap[wo.heap.size]? = some (.cells cs 141))) (fun _ it _ => (intOf it + 1).toNat)
        case atStart => exact ⟨0, xs, by omega, by go_num, HT.out.alloc _, (by show World.cell? _ _ = _; go_simp), by simp, ⟨_, heap_alloc_new wo _⟩⟩
        case round =>
          obtain ⟨j, ys, hj, rfl, HU, HX, hxl, HXB⟩ := hrel
          by_cases hjl : j < many
          · have ex := HX.out
            have HO' := Lib.hid (HU.out.alloc (.cells #[.int .u8 (num / 2 ^ (8 * (many - 1 - j)) % 256)] 5))
            have hrow := fun b e => (HU.out.own.lt b e).1
            have zu := HU.out.size
            go_wp2_with (at_builtin; refine wpList_append_own _ rfl (.tmp 40) (.tmp 47) 42 rfl (w.heap.size + 1) 5 i0 (.int .u8 0) 1 1 Tryd.underlying42 hi hz0 hz1 hz2 rfl (by decide) _ (tk + j) (ys.map (Value.int .u8)) rfl HO'.out.own ⟨wr.heap.size, 0, none⟩ 1 1 [.int .u8 (num / 2 ^ (8 * (many - 1 - j)) % 256)] rfl rfl (news_one (by go_simp)) (by simp [Value.oneCell']) (by simp only [maxLen]; omega) (by omega) (by simp; omega) ?_; intro v4 w4 hown4 hgr4 _)
            have HN := Lib.hid (HO'.out.push hgr4 hown4 (by omega) (by omega))
            have HX4 : Hid (w4.cell? ⟨wo.heap.size, 0, none⟩ = some (.int .i64 num)) := (grown_cell hgr4 (by simp; omega) (by obtain ⟨cs, hcs⟩ := HXB.out; exact own_not HU.out.own hcs (by decide))).trans (((ext_alloc (Below.refl _ wr)).cell (p := ⟨wo.heap.size, 0, none⟩) hxl).trans ex)
            have HXB4 : Hid (∃ cs, w4.heap[wo.heap.size]? = some (.cells cs 141)) := by
              obtain ⟨cs, hcs⟩ := HXB.out
              exact ⟨cs, (hgr4.block _ (by simp; omega) (fun e => own_not HU.out.own hcs (by decide) e.symm)).trans ((Below.heap_alloc _ _ _ hxl).trans hcs)⟩
            have hz4 : wo.heap.size < w4.heap.size := by have := hgr4.size; simp at this; omega
            clear hown4 hgr4
            go_roundw
            case rel => exact ⟨j + 1, _, by omega, by go_num, HN, HX4, hz4, HXB4⟩
            case measure => simp [intOf]; omega
          · obtain rfl : j = many := by omega
            have HN := Lib.hid (RefAt.cast HTT.out.symm HU.out)
            go_wp2_with fail
            go_roundw
            case rel => exact ⟨k + 1, ys, by omega, by go_num, HN⟩
            case measure => simp [intOf]; omega
      · obtain rfl : k = 3 := by omega
        have c5 : wr.cell? ⟨w.heap.size, 5, none⟩ = some (.slice a n cap) := cell_of_row wr w.heap.size 5 _ _ _ HT.out.b0
        have HRw := Lib.hid (HR.out.below HT.out.bel)
        have HN : Hid (n = p.pay.length) := HR.out.1
        have hown : wr.ownsRow (w.heap.size + 1) 5 1 _ 12 (xs.map (Value.int .u8)) := HT.out.own
        have HPB := Lib.hid HOK.out.pay
        have zz := HT.out.size
        cases a with
        | none =>
          obtain ⟨rfl, rfl⟩ := hcap rfl
          go_wp2_with (at_builtin; refine wpList_append_own_none rfl (.tmp 50) (.tmp 52) 42 rfl (w.heap.size + 1) 5 i0 1 Tryd.underlying42 hi _ 12 _ rfl hown rfl ?_)
          go_ret
          exact ⟨_, xs, rfl, hown.mono (by omega), HT.out.bytes, HT.out.bel⟩
        | some ad =>
          have hn1 : n ≤ 1000 := by rw [HN.out]; exact few
          go_wp2_with (at_builtin; refine wpList_append_own _ rfl (.tmp 50) (.tmp 52) 42 rfl (w.heap.size + 1) 5 i0 (.int .u8 0) 1 1 Tryd.underlying42 hi hz0 hz1 hz2 rfl (by decide) _ 12 _ rfl hown ad n cap (p.pay.map (Value.int .u8)) rfl (by rw [List.length_map, HN.out]; omega) (irow_news HRw.out) (onecell_ints _ _) (by simp only [maxLen]; omega) (by omega) (by omega) ?_; intro v5 w5 hown5 hgr5 _)
          go_ret
          exact ⟨v5, xs ++ p.pay, rfl, by rw [List.map_append]; exact hown5.mono (by omega), bytes_append HT.out.bytes HPB.out, HT.out.bel.grown hgr5 (by omega) (fun b e => by have := (hown.lt b e).1; omega)⟩
  | false =>
    go_wp2_with fail
    have HA : Hid (RefAt w (((w.alloc (Obj.cells #[.int .i64 p.type, .int .i64 p.seq, .int .i64 p.time, .int .i64 p.src, .bool false, .slice a n cap] 44)).alloc (.cells #[.int .u8 128, .int .u8 (p.type)] 5)).alloc (Obj.cells #[.int .i64 p.seq, .int .i64 2, .int .i64 p.time, .int .i64 4, .int .i64 p.src, .int .i64 4] 141)) (Obj.cells #[.int .i64 p.type, .int .i64 p.seq, .int .i64 p.time, .int .i64 p.src, .bool false, .slice a n cap] 44) (Obj.cells #[.int .i64 p.seq, .int .i64 2, .int .i64 p.time, .int .i64 4, .int .i64 p.src, .int .i64 4] 141) (.slice (some ⟨w.heap.size + 1, 0, none⟩) 2 2) 2 [128, p.type]) := by
      refine ⟨?_, ?_, (Below.heap_alloc _ _ _ (by simp; omega)).trans ((Below.heap_alloc _ _ _ (by simp)).trans (heap_alloc_new w _)), ?_, (by (try show Below _ _ _); repeat (with_reducible first | exact Below.refl _ _ | assumption | exact Hid.out (by assumption) | refine ext_alloc ?_ | refine ext_drewN ?_ | refine ext_drew ?_ | refine ext_setCell ?_ (Nat.le_refl _) | refine ext_setCell ?_ (Nat.le_succ _) | refine ext_trans ?_ (by assumption) | (refine ext_setCell ?_ (by simp)) | (refine ext_setCell ?_ (by simp at *; omega)))), by simp⟩
      · have := World.ownsRow_lit (base := w.heap.size + 1) (e := 5) (size := 1) (w.alloc (Obj.cells #[.int .i64 p.type, .int .i64 p.seq, .int .i64 p.time, .int .i64 p.src, .bool false, .slice a n cap] 44)) #[.int .u8 128, .int .u8 (p.type)] 2 (by simp) (by decide) rfl
        have h2 := this.alloc (Obj.cells #[.int .i64 p.seq, .int .i64 2, .int .i64 p.time, .int .i64 4, .int .i64 p.src, .int .i64 4] 141)
        simpa using h2
      · intro y hy; simp at hy; omega
      · have h2 := heap_alloc_new ((w.alloc (Obj.cells #[.int .i64 p.type, .int .i64 p.seq, .int .i64 p.time, .int .i64 p.src, .bool false, .slice a n cap] 44)).alloc (.cells #[.int .u8 128, .int .u8 (p.type)] 5)) (Obj.cells #[.int .i64 p.seq, .int .i64 2, .int .i64 p.time, .int .i64 4, .int .i64 p.src, .int .i64 4] 141)
        rw [show ((w.alloc (Obj.cells #[.int .i64 p.type, .int .i64 p.seq, .int .i64 p.time, .int .i64 p.src, .bool false, .slice a n cap] 44)).alloc (.cells #[.int .u8 128, .int .u8 (p.type)] 5)).heap.size = w.heap.size + 2 by simp] at h2
        exact h2
    clear hw1 hw2
    go_loopw [3, 29] (fun v it wr => ∃ (k : Nat) (xs : List Int), k ≤ 3 ∧ it = .int .i64 k ∧ Hid (RefAt w wr (Obj.cells #[.int .i64 p.type, .int .i64 p.seq, .int .i64 p.time, .int .i64 p.src, .bool false, .slice a n cap] 44) (Obj.cells #[.int .i64 p.seq, .int .i64 2, .int .i64 p.time, .int .i64 4, .int .i64 p.src, .int .i64 4] 141) v (tots.getD k 12) xs)) (fun _ it _ => 3 - (intOf it).toNat)
    case atStart => exact ⟨0, _, by omega, rfl, HA⟩
    case round =>
      obtain ⟨k, xs, hk, rfl, HT⟩ := hrel
      by_cases hlt : k < 3
      · have hel : ∃ (num : Int) (many : Nat), Hid (wr.cell? ⟨w.heap.size + 2, k * 2, none⟩ = some (.int .i64 num) ∧ wr.cell? ⟨w.heap.size + 2, k * 2 + 1, none⟩ = some (.int .i64 many)) ∧ 0 ≤ num ∧ num ≤ 4294967295 ∧ many ≤ 4 ∧ 1 ≤ many ∧ Hid (tots.getD (k + 1) 12 = tots.getD k 12 + many) ∧ tots.getD k 12 ≤ 8 := by
          have c := fun j => cell_of_row wr (w.heap.size + 2) j _ _ _ HT.out.b2
          have : k = 0 ∨ k = 1 ∨ k = 2 := by omega
          rcases this with rfl | rfl | rfl
          · exact ⟨p.seq, 2, ⟨(c 0), (c 1)⟩, by omega, by omega, by omega, by omega, rfl, by decide⟩
          · exact ⟨p.time, 4, ⟨(c 2), (c 3)⟩, by omega, by omega, by omega, by omega, rfl, by decide⟩
          · exact ⟨p.src, 4, ⟨(c 4), (c 5)⟩, by omega, by omega, by omega, by omega, rfl, by decide⟩
        obtain ⟨num, many, HE, n0, n1, m4, m1, HTT, t8⟩ := hel
        obtain ⟨e0, e1⟩ := HE.out
        have zs := HT.out.size
        have z2 : w.heap.size + 2 < wr.heap.size := by omega
        generalize tots.getD k 12 = tk at HT HTT t8
        have hd3 : decide ((k : Int) < 3) = true := by simp; omega
        go_wp2_with fail
        obtain ⟨wo, rfl⟩ : ∃ wo : World, wo = wr := ⟨_, rfl⟩
        go_loopw [3, 6] (fun v it wi => ∃ (j : Nat) (ys : List Int), j ≤ many ∧ it = .int .i64 ((many : Int) - 1 - j) ∧ Hid (RefAt w wi (Obj.cells #[.int .i64 p.type, .int .i64 p.seq, .int .i64 p.time, .int .i64 p.src, .bool false, .slice a n cap] 44) (Obj.cells #[.int .i64 p.seq, .int .i64 2, .int .i64 p.time, .int .i64 4, .int .i64 p.src, .int .i64 4] 141) v (tk + j) ys) ∧ Hid (wi.cell? ⟨wo.heap.size, 0, none⟩ = some (.int .i64 num)) ∧ wo.heap.size < wi.heap.size ∧ Hid (∃ cs, wi.heap[wo.heap.size]? = some (.cells cs 141))) (fun _ it _ => (intOf it + 1).toNat)
        case atStart => exact ⟨0, xs, by omega, by go_num, HT.out.alloc _, (by show World.cell? _ _ = _; go_simp), by simp, ⟨_, heap_alloc_new wo _⟩⟩
        case round =>
          obtain ⟨j, ys, hj, rfl, HU, HX, hxl, HXB⟩ := hrel
          by_cases hjl : j < many
          · have ex := HX.out
            have HO' := Lib.hid (HU.out.alloc (.cells #[.int .u8 (num / 2 ^ (8 * (many - 1 - j)) % 256)] 5))
            have hrow := fun b e => (HU.out.own.lt b e).1
            have zu := HU.out.size
            go_wp2_with (at_builtin; refine wpList_append_own _ rfl (.tmp 40) (.tmp 47) 42 rfl (w.heap.size + 1) 5 i0 (.int .u8 0) 1 1 Tryd.underlying42 hi hz0 hz1 hz2 rfl (by decide) _ (tk + j) (ys.map (Value.int .u8)) rfl HO'.out.own ⟨wr.heap.size, 0, none⟩ 1 1 [.int .u8 (num / 2 ^ (8 * (many - 1 - j)) % 256)] rfl rfl (news_one (by go_simp)) (by simp [Value.oneCell']) (by simp only [maxLen]; omega) (by omega) (by simp; omega) ?_; intro v4 w4 hown4 hgr4 _)
            have HN := Lib.hid (HO'.out.push hgr4 hown4 (by omega) (by omega))
            have HX4 : Hid (w4.cell? ⟨wo.heap.size, 0, none⟩ = some (.int .i64 num)) := (grown_cell hgr4 (by simp; omega) (by obtain ⟨cs, hcs⟩ := HXB.out; exact own_not HU.out.own hcs (by decide))).trans (((ext_alloc (Below.refl _ wr)).cell (p := ⟨wo.heap.size, 0, none⟩) hxl).trans ex)
            have HXB4 : Hid (∃ cs, w4.heap[wo.heap.size]? = some (.cells cs 141)) := by
              obtain ⟨cs, hcs⟩ := HXB.out
              exact ⟨cs, (hgr4.block _ (by simp; omega) (fun e => own_not HU.out.own hcs (by decide) e.symm)).trans ((Below.heap_alloc _ _ _ hxl).trans hcs)⟩
            have hz4 : wo.heap.size < w4.heap.size := by have := hgr4.size; simp at this; omega
            clear hown4 hgr4
            go_roundw
            case rel => exact ⟨j + 1, _, by omega, by go_num, HN, HX4, hz4, HXB4⟩
            case measure => simp [intOf]; omega
          · obtain rfl : j = many := by omega
            have HN := Lib.hid (RefAt.cast HTT.out.symm HU.out)
            go_wp2_with fail
            go_roundw
            case rel => exact ⟨k + 1, ys, by omega, by go_num, HN⟩
            case measure => simp [intOf]; omega
      · obtain rfl : k = 3 := by omega
        have c5 : wr.cell? ⟨w.heap.size, 5, none⟩ = some (.slice a n cap) := cell_of_row wr w.heap.size 5 _ _ _ HT.out.b0
        have HRw := Lib.hid (HR.out.below HT.out.bel)
        have HN : Hid (n = p.pay.length) := HR.out.1
        have hown : wr.ownsRow (w.heap.size + 1) 5 1 _ 12 (xs.map (Value.int .u8)) := HT.out.own
        have HPB := Lib.hid HOK.out.pay
        have zz := HT.out.size
        cases a with
        | none =>
          obtain ⟨rfl, rfl⟩ := hcap rfl
          go_wp2_with (at_builtin; refine wpList_append_own_none rfl (.tmp 50) (.tmp 52) 42 rfl (w.heap.size + 1) 5 i0 1 Tryd.underlying42 hi _ 12 _ rfl hown rfl ?_)
          go_ret
          exact ⟨_, xs, rfl, hown.mono (by omega), HT.out.bytes, HT.out.bel⟩
        | some ad =>
          have hn1 : n ≤ 1000 := by rw [HN.out]; exact few
          go_wp2_with (at_builtin; refine wpList_append_own _ rfl (.tmp 50) (.tmp 52) 42 rfl (w.heap.size + 1) 5 i0 (.int .u8 0) 1 1 Tryd.underlying42 hi hz0 hz1 hz2 rfl (by decide) _ 12 _ rfl hown ad n cap (p.pay.map (Value.int .u8)) rfl (by rw [List.length_map, HN.out]; omega) (irow_news HRw.out) (onecell_ints _ _) (by simp only [maxLen]; omega) (by omega) (by omega) ?_; intro v5 w5 hown5 hgr5 _)
          go_ret
          exact ⟨v5, xs ++ p.pay, rfl, by rw [List.map_append]; exact hown5.mono (by omega), bytes_append HT.out.bytes HPB.out, HT.out.bel.grown hgr5 (by omega) (fun b e => by have := (hown.lt b e).1; omega)⟩
end Go.Proofs.YtlllckclfpdhgaaDoor
