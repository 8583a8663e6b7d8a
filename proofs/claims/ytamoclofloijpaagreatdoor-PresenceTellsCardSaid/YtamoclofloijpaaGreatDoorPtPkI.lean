/- What is proved here: lemmas and contracts for the statement, put together out of smaller texts (BcnSay, BcnEdg, BcnChk, BcnSort). No condition beyond those stated. -/
import Derived.Test.YtamoclofloijpaaGreatDoorPtPkE
import Derived.Test.YtamoclofloijpaaGreatDoorPtPkA
import Derived.Test.YtamoclofloijpaaGreatDoorPtPkH
import Derived.IntWalk
import Derived.Deep.DeepCutAuto
import Derived.Test.YtamoclofloijpaaGreatDoorPtPkD
import Derived.Test.YtamoclofloijpaaGreatDoorShelfPre
import Derived.Lib.SlicesCompact
import Derived.Sort.OwnSorted
import Derived.Test.YtamoclofloijpaaGreatDoorPtPkB
import Derived.Test.YtamoclofloijpaaGreatDoorShelfBcn
set_option linter.unusedVariables false
set_option linter.unusedSimpArgs false
namespace Go.Proofs.YtamoclofloijpaaGreatDoor
open Go.RowKit Go.Sort Go.Lib

/-- What says has in hand behind a round. -/
structure SayW (w wr : World) (A : Nat) (o : Option Vbcn) : Prop where
  res : Blk wr A noVbcn.cells 35
  best : Blk wr (A + 1) (o.getD noVbcn).cells 35
  below : Below w.heap.size w wr
theorem Blk.setAll6 {w : World} {B : Nat} {c0 c1 c2 c3 c4 c5 : Value} {ty : TypeId} (h : Blk w B [c0, c1, c2, c3, c4, c5] ty) (v0 v1 v2 v3 v4 v5 : Value) : Blk (w.setCells B 0 [v0, v1, v2, v3, v4, v5]) B [v0, v1, v2, v3, v4, v5] ty := (((((h.put 0 v0).put 1 v1).put 2 v2).put 3 v3).put 4 v4).put 5 v5
theorem belowB {B : Nat} {a w : World} (hA : a.heap.size ≤ B) (h : Below a.heap.size a w) (vs : List Value) (k : Nat) : Below a.heap.size a (w.setCells B k vs) := by
  have hg := setCells_gb (w := w) B vs k
  exact ⟨hg.os.trans h.os, hg.tape.trans h.tape, hg.output.trans h.output, Nat.le_trans h.size hg.size, fun j hj => (hg.block j (Nat.lt_of_lt_of_le hj h.size) (fun e => by injection e with e; omega)).trans (h.block j hj)⟩
theorem or2I_any (a b : Int) (B : Nat) (w : World) (hB : B < w.heap.size) (h0 : w.cell? ⟨B, 0, none⟩ = some (.int .i64 a)) (h1 : w.cell? ⟨B, 1, none⟩ = some (.int .i64 b)) : Calls Tryz.prog 68 #[.slice (some ⟨B, 0, none⟩) 2 2] w fun r w' => r = .returned (.int .i64 (firstE a b)) ∧ w = w' := by
  have e : firstL [a, b] = firstE a b := by unfold firstL firstE; split <;> simp_all [firstL]
  rw [← e]
  exact orNI_any [a, b] B 2 rfl (by omega) w hB (fun i hi => by match i, hi with | 0, _ => exact h0 | 1, _ => exact h1)
theorem bs_2i (e : Operand → Value) (o : Oper) (w : World) (i0 i1 : Nat) (z0 z1 : Int) (ho : o.op = .buildSlice 22 2 #[(0, .tmp i0), (1, .tmp i1)]) (h0 : e (.tmp i0) = .int .i64 z0) (h1 : e (.tmp i1) = .int .i64 z1) :
   (execOp e o).run Tryz.prog w = .ok (.value (.slice (some ⟨w.heap.size, 0, none⟩) 2 2)) (w.alloc (.cells #[.int .i64 z0, .int .i64 z1] 3)) := by
  unfold execOp
  rw [ho]
  simp only [List.map_toArray, List.map_cons, List.map_nil, h0, h1]
  kernel_rfl
theorem SayW.ext {w wr w' : World} {A : Nat} {o : Option Vbcn} (h : SayW w wr A o) (hb : Below wr.heap.size wr w') : SayW w w' A o := ⟨h.res.below hb, h.best.below hb, ext_trans h.below hb⟩
set_option maxRecDepth 100000 in
set_option maxHeartbeats 16000000 in
theorem says_any (w : World) (base : Nat) (v : Value) (l : List Vbcn) (per : List UInt8) (t : Int) (h : VbcnRow w base v l) (hl : l.length ≤ 1000) (hb : ∀ a ∈ l, BcnB a) :
    Calls Tryz.prog 25 #[v, .string ⟨per.toArray⟩, .int .i64 t] w (fun e w' => e = .returned (.tuple #[((saysB l per t).getD noVbcn).val, .bool (saysB l per t).isSome]) ∧ Below w.heap.size w w') := by
  unfold VbcnRow at h
  obtain ⟨a, cap, rfl⟩ := own_shape h
  have HO := Lib.hid h
  have HB := Lib.hid hb
  obtain ⟨n, hn⟩ : ∃ n, n = l.length := ⟨_, rfl⟩
  have HN := Lib.hid hn
  have HRES : Hid (saysB l per t = saysN l per t n) := by show saysN l per t l.length = _; rw [← hn]
  rw [← hn] at HO hl ⊢
  generalize saysB l per t = R at HRES ⊢
  clear hn h hb
  obtain ⟨A, hA⟩ : ∃ A, A = w.heap.size := ⟨_, rfl⟩
  have HA := Lib.hid hA
  go_enter Tryz.func25, Tryz.ntmps25
  go_wp2_with fail
  rw [← hA]
  clear hA
  go_loopw [9, 14] (fun vf it wr => ∃ i : Nat, i ≤ n ∧ it = .int .i64 i ∧ Hid (vf = .bool (saysN l per t i).isSome) ∧ Hid (SayW w wr A (saysN l per t i))) (fun _ it _ => n - (intOf it).toNat)
  case atStart =>
    refine ⟨0, Nat.zero_le _, rfl, rfl, ?_⟩
    rw [HA.out]
    have e1 : (w.alloc (.cells #[.string ⟨#[]⟩, .string ⟨#[]⟩, .int .i64 0, .int .i64 0, .int .i64 0, .string ⟨#[]⟩] 35)).heap.size = w.heap.size + 1 := by simp
    have h2 := Blk.new (w.alloc (.cells #[.string ⟨#[]⟩, .string ⟨#[]⟩, .int .i64 0, .int .i64 0, .int .i64 0, .string ⟨#[]⟩] 35)) [.string ⟨#[]⟩, .string ⟨#[]⟩, .int .i64 0, .int .i64 0, .int .i64 0, .string ⟨#[]⟩] 35
    rw [e1] at h2
    exact ⟨(Blk.new w [.string ⟨#[]⟩, .string ⟨#[]⟩, .int .i64 0, .int .i64 0, .int .i64 0, .string ⟨#[]⟩] 35).alloc _, h2, ext_alloc (ext_alloc (Below.refl _ _))⟩
  case round =>
    obtain ⟨i, hi, rfl, HV, HW⟩ := hrel
    by_cases hlt : i < n
    case neg =>
      obtain rfl : i = n := by omega
      have hin : ¬ ((i : Int) < (i : Int)) := by omega
      rw [← HRES.out] at HV HW
      have hv := HV.out
      obtain ⟨f, hf⟩ : ∃ f, f = R.isSome := ⟨_, rfl⟩
      rw [← hf] at hv
      subst hv
      have HF := Lib.hid hf
      clear hf HV HRES
      have HBX : Hid (Blk wr (A + 1) [.string ⟨(R.getD noVbcn).per.toArray⟩, .string ⟨(R.getD noVbcn).dev.toArray⟩, .int .i64 (R.getD noVbcn).st, .int .i64 (R.getD noVbcn).at_, .int .i64 (R.getD noVbcn).til, .string ⟨(R.getD noVbcn).note.toArray⟩] 35) := HW.out.best
      have HRS : Hid (Blk wr A [.string ⟨#[]⟩, .string ⟨#[]⟩, .int .i64 0, .int .i64 0, .int .i64 0, .string ⟨#[]⟩] 35) := HW.out.res
      have HBW := Lib.hid HW.out.below
      have HGG : Hid (((R.getD noVbcn).val : Value) = .agg #[.string ⟨(R.getD noVbcn).per.toArray⟩, .string ⟨(R.getD noVbcn).dev.toArray⟩, .int .i64 (R.getD noVbcn).st, .int .i64 (R.getD noVbcn).at_, .int .i64 (R.getD noVbcn).til, .string ⟨(R.getD noVbcn).note.toArray⟩]) := rfl
      clear HW
      obtain ⟨e0, he0⟩ : ∃ z : ByteArray, z = ⟨(R.getD noVbcn).per.toArray⟩ := ⟨_, rfl⟩
      rw [← he0] at HBX HGG
      clear he0
      obtain ⟨e1, he1⟩ : ∃ z : ByteArray, z = ⟨(R.getD noVbcn).dev.toArray⟩ := ⟨_, rfl⟩
      rw [← he1] at HBX HGG
      clear he1
      obtain ⟨e2, he2⟩ : ∃ z : Int, z = (R.getD noVbcn).st := ⟨_, rfl⟩
      rw [← he2] at HBX HGG
      clear he2
      obtain ⟨e3, he3⟩ : ∃ z : Int, z = (R.getD noVbcn).at_ := ⟨_, rfl⟩
      rw [← he3] at HBX HGG
      clear he3
      obtain ⟨e4, he4⟩ : ∃ z : Int, z = (R.getD noVbcn).til := ⟨_, rfl⟩
      rw [← he4] at HBX HGG
      clear he4
      obtain ⟨e5, he5⟩ : ∃ z : ByteArray, z = ⟨(R.getD noVbcn).note.toArray⟩ := ⟨_, rfl⟩
      rw [← he5] at HBX HGG
      clear he5
      have HTH : Hid (wr.there A 0 6) := HRS.out.th 6 (Nat.le_refl 6)
      have HRG : Hid (wr.rangeAt (A + 1) 0 [.string e0, .string e1, .int .i64 e2, .int .i64 e3, .int .i64 e4, .string e5]) := fun j v hj => by rw [Nat.zero_add]; exact HBX.out.cell j hj
      have HR9 : Hid (Blk (wr.setCells A 0 [.string e0, .string e1, .int .i64 e2, .int .i64 e3, .int .i64 e4, .string e5]) A [.string e0, .string e1, .int .i64 e2, .int .i64 e3, .int .i64 e4, .string e5] 35) := HRS.out.setAll6 _ _ _ _ _ _
      have HB9 : Hid (Below w.heap.size w (wr.setCells A 0 [.string e0, .string e1, .int .i64 e2, .int .i64 e3, .int .i64 e4, .string e5])) := belowB (Nat.le_of_eq HA.out.symm) HBW.out _ _
      as_aux_lemma =>
        go_wp2_with (first | (refine wpList_load_mid rfl 35 (.tmp 8) rfl (A + 1) 0 rfl [.string e0, .string e1, .int .i64 e2, .int .i64 e3, .int .i64 e4, .string e5] _ HRG.out Tryz.underlying35 rfl Tryz.bcnSz ?_) | (refine wpList_store_mid rfl 35 (.tmp 6) (.tmp 90) rfl A 0 #[.string e0, .string e1, .int .i64 e2, .int .i64 e3, .int .i64 e4, .string e5] rfl rfl HTH.out Tryz.bcnSz (by simp [Value.oneCell']) ?_))
        refine bodyPost_ret (?_ : _ = Result.ok (.tuple #[.agg #[.string e0, .string e1, .int .i64 e2, .int .i64 e3, .int .i64 e4, .string e5], .bool f]) _) rfl ?_
        · exact results_cell2 (t := 6) (u := 7) (by rfl) _ _ _ Tryz.isAgg35 Tryz.sizeOf35 (by rfl) [.string e0, .string e1, .int .i64 e2, .int .i64 e3, .int .i64 e4, .string e5] rfl (fun j v hj => HR9.out.cell j hj)
        · exact ⟨by rw [HGG.out, HF.out], HB9.out⟩
    have hin : (i : Int) < (n : Int) := by omega
    have hil : i < l.length := by have := HN.out; omega
    have hO := own_keep HO.out HW.out.below
    obtain ⟨g, rfl, hg0, hgw⟩ := own_pos hO (by omega)
    have HBX := Lib.hid (HB.out _ (getD_mem hil))
    have d0 := own_field Vbcn.cells (fun _ => rfl) hO i 0 default hil (by omega) rfl
    have d1 := own_field Vbcn.cells (fun _ => rfl) hO i 1 default hil (by omega) rfl
    have d2 := own_field Vbcn.cells (fun _ => rfl) hO i 2 default hil (by omega) rfl
    have d3 := own_field Vbcn.cells (fun _ => rfl) hO i 3 default hil (by omega) rfl
    have d4 := own_field Vbcn.cells (fun _ => rfl) hO i 4 default hil (by omega) rfl
    have d5 := own_field Vbcn.cells (fun _ => rfl) hO i 5 default hil (by omega) rfl
    rw [Nat.add_zero] at d0
    have HNX : Hid (i + 1 < n → ∀ W9, Below w.heap.size w W9 → W9.cell? ⟨g, (i + 1) * 6, none⟩ = some (.string ⟨(l.getD (i + 1) default).per.toArray⟩) ∧ W9.cell? ⟨g, (i + 1) * 6 + 1, none⟩ = some (.string ⟨(l.getD (i + 1) default).dev.toArray⟩) ∧ W9.cell? ⟨g, (i + 1) * 6 + 3, none⟩ = some (.int .i64 (l.getD (i + 1) default).at_)) := fun h W9 hW => ⟨own_field Vbcn.cells (fun _ => rfl) (own_keep HO.out hW) (i + 1) 0 default (by have := HN.out; omega) (by omega) rfl, own_field Vbcn.cells (fun _ => rfl) (own_keep HO.out hW) (i + 1) 1 default (by have := HN.out; omega) (by omega) rfl, own_field Vbcn.cells (fun _ => rfl) (own_keep HO.out hW) (i + 1) 3 default (by have := HN.out; omega) (by omega) rfl⟩
    have HNEXT : Hid (saysN l per t (i + 1) = if bcnCur l per t i = true then bcnBest (saysN l per t i) (l.getD i default) else saysN l per t i) := rfl
    have HCUR : Hid (bcnCur l per t i = (decide ((l.getD i default).per = per) && (decide ((l.getD i default).at_ ≤ t) && (decide (t < (l.getD i default).til) && !(decide (i + 1 < n) && (decide ((l.getD (i + 1) default).per = per) && (decide ((l.getD (i + 1) default).dev = (l.getD i default).dev) && decide ((l.getD (i + 1) default).at_ ≤ t)))))))) := by
      show _ = _
      rw [HN.out]
      rfl
    obtain ⟨x, hx⟩ : ∃ x, x = l.getD i default := ⟨_, rfl⟩
    rw [← hx] at d0 d1 d2 d3 d4 d5 HBX HNEXT HCUR
    obtain ⟨y, hy⟩ : ∃ y, y = l.getD (i + 1) default := ⟨_, rfl⟩
    rw [← hy] at HNX HCUR
    have HX := Lib.hid hx
    clear hx hy hO
    obtain ⟨O, hO⟩ : ∃ O, O = saysN l per t i := ⟨_, rfl⟩
    rw [← hO] at HV HW HNEXT
    obtain ⟨O2, hO2⟩ : ∃ O, O = saysN l per t (i + 1) := ⟨_, rfl⟩
    rw [← hO2] at HNEXT
    have HO2 := Lib.hid hO2
    clear hO hO2
    have hv := HV.out
    obtain ⟨f, hf⟩ : ∃ f, f = O.isSome := ⟨_, rfl⟩
    rw [← hf] at hv
    subst hv
    have HF := Lib.hid hf
    clear hf HV
    obtain ⟨cur, hcur⟩ : ∃ c, c = bcnCur l per t i := ⟨_, rfl⟩
    rw [← hcur] at HNEXT HCUR
    clear hcur
    obtain ⟨xp, xd, xs, xa, xt, xn⟩ := x
    have X1 : Hid (Blk (wr.alloc (.cells #[.string ⟨xp.toArray⟩, .string ⟨xd.toArray⟩, .int .i64 xs, .int .i64 xa, .int .i64 xt, .string ⟨xn.toArray⟩] 35)) wr.heap.size [.string ⟨xp.toArray⟩, .string ⟨xd.toArray⟩, .int .i64 xs, .int .i64 xa, .int .i64 xt, .string ⟨xn.toArray⟩] 35) := Blk.new _ _ _
    have HW1 : Hid (SayW w (wr.alloc (.cells #[.string ⟨xp.toArray⟩, .string ⟨xd.toArray⟩, .int .i64 xs, .int .i64 xa, .int .i64 xt, .string ⟨xn.toArray⟩] 35)) A O) := HW.out.ext (ext_alloc (Below.refl _ _))
    as_aux_lemma =>
      go_upto_region 6 with (fail)
      clear d0 d1 d2 d3 d4 d5 HW
      generalize (wr.alloc (.cells #[.string ⟨xp.toArray⟩, .string ⟨xd.toArray⟩, .int .i64 xs, .int .i64 xa, .int .i64 xt, .string ⟨xn.toArray⟩] 35)) = w1 at X1 HW1 ⊢
      generalize wr.heap.size = B at X1 ⊢
      have c0 := X1.out.cell 0 rfl
      have c3 := X1.out.cell 3 rfl
      have c4 := X1.out.cell 4 rfl
      by_cases hp : xp = per
      case neg =>
        have hpb : (xp == per) = false := beq_eq_false_iff_ne.2 hp
        have hpb2 : (xp != per) = true := bne_iff_ne.2 hp
        have HE : Hid (O2 = O) := by show _ = _; rw [HNEXT.out, HCUR.out, decide_eq_false hp]; rfl
        clear hp HNEXT HCUR
        as_aux_lemma =>
          go_wp2_with fail
          go_roundw
          case rel => exact ⟨i + 1, by omega, by go_num, (by rw [← HO2.out, HE.out, ← HF.out]; exact rfl), (by rw [← HO2.out, HE.out]; exact HW1.out)⟩
          case measure => simp [intOf]; omega
      subst hp
      have hpb : (xp == xp) = true := by simp
      have hpb2 : (xp != xp) = false := by simp
      by_cases ha : xa ≤ t
      case neg =>
        have ha2 : t < xa := by omega
        have HE : Hid (O2 = O) := by show _ = _; rw [HNEXT.out, HCUR.out, decide_eq_false ha]; simp
        clear ha HNEXT HCUR
        as_aux_lemma =>
          go_wp2_with fail
          go_roundw
          case rel => exact ⟨i + 1, by omega, by go_num, (by rw [← HO2.out, HE.out, ← HF.out]; exact rfl), (by rw [← HO2.out, HE.out]; exact HW1.out)⟩
          case measure => simp [intOf]; omega
      have ha2 : ¬ t < xa := by omega
      by_cases hz : t < xt
      case neg =>
        have hz2 : xt ≤ t := by omega
        have HE : Hid (O2 = O) := by show _ = _; rw [HNEXT.out, HCUR.out, decide_eq_false hz]; simp
        clear hz HNEXT HCUR
        as_aux_lemma =>
          go_wp2_with fail
          go_roundw
          case rel => exact ⟨i + 1, by omega, by go_num, (by rw [← HO2.out, HE.out, ← HF.out]; exact rfl), (by rw [← HO2.out, HE.out]; exact HW1.out)⟩
          case measure => simp [intOf]; omega
      have hz2 : ¬ xt ≤ t := by omega
      have HC2 : Hid (cur = !(decide (i + 1 < n) && (decide (y.per = xp) && (decide (y.dev = xd) && decide (y.at_ ≤ t))))) := by
        show _ = _
        rw [HCUR.out, decide_eq_true ha, decide_eq_true hz]; simp
      clear HCUR ha hz
      obtain ⟨yp, yd, ys, ya, yt, yn⟩ := y
      obtain ⟨i2, hi2⟩ : ∃ i2, i2 = i + 1 := ⟨_, rfl⟩
      have HI2 := Lib.hid hi2
      rw [← hi2] at HNX HC2
      have hw2 : IntKind.i64.wrap ((i : Int) + 1) = (i2 : Int) := by rw [show (i : Int) + 1 = (i2 : Int) by omega]; exact IntWalk.i64_in _ (by omega)
      clear hi2
      as_aux_lemma =>
        go_upto_region 7 with (fail)
        clear c0 c3 c4
        go_cut [70] (fun v wx => ∃ b : Bool, v = .bool b ∧ Hid (b = !cur) ∧ Hid (Below w1.heap.size w1 wx))
        case first =>
          clear HRES HBX HX HNEXT HO2 HF
          have hd : Below w1.heap.size w1 w1.drew := ext_drew (Below.refl _ _)
          have HD9 := Lib.hid hd
          have Xd := Lib.hid (X1.out.below hd)
          have HWd := Lib.hid (HW1.out.ext hd)
          clear hd X1 HW1
          by_cases h2 : i2 < n
          case neg =>
            have H2 := Lib.hid h2
            clear h2
            have HBV : Hid (false = !cur) := by show _ = _; rw [HC2.out, decide_eq_false H2.out]; simp
            clear HC2 HNX Xd HWd
            as_aux_lemma =>
              refine region_seqI (S := fun W9 => Below w1.drew.heap.size w1.drew W9) [(true, 0), (true, 1), (true, 2), (true, 3), (true, 4), (true, 5), (true, 6), (true, 7), (true, 8), (true, 9), (true, 10), (true, 11), (true, 12), (true, 13), (true, 14), (true, 15), (true, 16), (true, 17), (true, 18), (true, 19), (true, 20), (true, 21), (true, 22), (true, 23), (true, 24), (true, 25), (true, 26), (true, 27), (true, 28), (true, 29), (true, 30), (true, 31), (true, 32), (true, 33), (true, 34), (true, 35)] (by kernel_rfl) (by kernel_rfl) rfl (by kernel_rfl) (Below.refl _ _) ?_
              generalize w1.drew = wd at HD9 ⊢
              simp only [seqOps, List.getD_cons_zero, List.getD_cons_succ]
              refine seqI_take (v := .int .i64 i) rfl (fun W9 hW => by clear hW; go_simp) (fun _ _ _ h => h) ?_
              simp only [Act.put, List.setIfInBounds_toArray, List.set_cons_zero, List.set_cons_succ]
              refine seqI_take (v := .int .i64 i2) rfl (fun W9 hW => by clear hW; go_simp) (fun _ _ _ h => h) ?_
              simp only [Act.put, List.setIfInBounds_toArray, List.set_cons_zero, List.set_cons_succ]
              refine seqI_take (v := .slice (some ⟨g, 0, none⟩) n cap) rfl (fun W9 hW => by clear hW; go_simp) (fun _ _ _ h => h) ?_
              simp only [Act.put, List.setIfInBounds_toArray, List.set_cons_zero, List.set_cons_succ]
              refine seqI_take (v := .int .i64 n) rfl (fun W9 hW => by clear hW; go_simp) (fun _ _ _ h => h) ?_
              simp only [Act.put, List.setIfInBounds_toArray, List.set_cons_zero, List.set_cons_succ]
              refine seqI_take (v := .bool false) rfl (fun W9 hW => by clear hW; go_simp <;> first | exact H2.out | (have hz9 := H2.out; omega)) (fun _ _ _ h => h) ?_
              simp only [Act.put, List.setIfInBounds_toArray, List.set_cons_zero, List.set_cons_succ]
              refine seqI_take (v := .bool false) rfl (fun W9 hW => by clear hW; go_simp) (fun _ _ _ h => h) ?_
              simp only [Act.put, List.setIfInBounds_toArray, List.set_cons_zero, List.set_cons_succ]
              refine seqI_skip rfl (fun _ _ _ h => h) ?_
              simp only [Act.put, List.setIfInBounds_toArray, List.set_cons_zero, List.set_cons_succ]
              refine seqI_skip rfl (fun _ _ _ h => h) ?_
              simp only [Act.put, List.setIfInBounds_toArray, List.set_cons_zero, List.set_cons_succ]
              refine seqI_skip rfl (fun _ _ _ h => h) ?_
              simp only [Act.put, List.setIfInBounds_toArray, List.set_cons_zero, List.set_cons_succ]
              refine seqI_skip rfl (fun _ _ _ h => h) ?_
              simp only [Act.put, List.setIfInBounds_toArray, List.set_cons_zero, List.set_cons_succ]
              refine seqI_skip rfl (fun _ _ _ h => h) ?_
              simp only [Act.put, List.setIfInBounds_toArray, List.set_cons_zero, List.set_cons_succ]
              refine seqI_skip rfl (fun _ _ _ h => h) ?_
              simp only [Act.put, List.setIfInBounds_toArray, List.set_cons_zero, List.set_cons_succ]
              refine seqI_skip rfl (fun _ _ _ h => h) ?_
              simp only [Act.put, List.setIfInBounds_toArray, List.set_cons_zero, List.set_cons_succ]
              refine seqI_skip rfl (fun _ _ _ h => h) ?_
              simp only [Act.put, List.setIfInBounds_toArray, List.set_cons_zero, List.set_cons_succ]
              refine seqI_take (v := .bool false) rfl (fun W9 hW => by clear hW; go_simp) (fun _ _ _ h => h) ?_
              simp only [Act.put, List.setIfInBounds_toArray, List.set_cons_zero, List.set_cons_succ]
              refine seqI_take (v := .bool false) rfl (fun W9 hW => by clear hW; go_simp) (fun _ _ _ h => h) ?_
              simp only [Act.put, List.setIfInBounds_toArray, List.set_cons_zero, List.set_cons_succ]
              refine seqI_skip rfl (fun _ _ _ h => h) ?_
              simp only [Act.put, List.setIfInBounds_toArray, List.set_cons_zero, List.set_cons_succ]
              refine seqI_skip rfl (fun _ _ _ h => h) ?_
              simp only [Act.put, List.setIfInBounds_toArray, List.set_cons_zero, List.set_cons_succ]
              refine seqI_skip rfl (fun _ _ _ h => h) ?_
              simp only [Act.put, List.setIfInBounds_toArray, List.set_cons_zero, List.set_cons_succ]
              refine seqI_skip rfl (fun _ _ _ h => h) ?_
              simp only [Act.put, List.setIfInBounds_toArray, List.set_cons_zero, List.set_cons_succ]
              refine seqI_skip rfl (fun _ _ _ h => h) ?_
              simp only [Act.put, List.setIfInBounds_toArray, List.set_cons_zero, List.set_cons_succ]
              refine seqI_skip rfl (fun _ _ _ h => h) ?_
              simp only [Act.put, List.setIfInBounds_toArray, List.set_cons_zero, List.set_cons_succ]
              refine seqI_skip rfl (fun _ _ _ h => h) ?_
              simp only [Act.put, List.setIfInBounds_toArray, List.set_cons_zero, List.set_cons_succ]
              refine seqI_skip rfl (fun _ _ _ h => h) ?_
              simp only [Act.put, List.setIfInBounds_toArray, List.set_cons_zero, List.set_cons_succ]
              refine seqI_skip rfl (fun _ _ _ h => h) ?_
              simp only [Act.put, List.setIfInBounds_toArray, List.set_cons_zero, List.set_cons_succ]
              refine seqI_take (v := .bool false) rfl (fun W9 hW => by clear hW; go_simp) (fun _ _ _ h => h) ?_
              simp only [Act.put, List.setIfInBounds_toArray, List.set_cons_zero, List.set_cons_succ]
              refine seqI_take (v := .bool false) rfl (fun W9 hW => by clear hW; go_simp) (fun _ _ _ h => h) ?_
              simp only [Act.put, List.setIfInBounds_toArray, List.set_cons_zero, List.set_cons_succ]
              refine seqI_skip rfl (fun _ _ _ h => h) ?_
              simp only [Act.put, List.setIfInBounds_toArray, List.set_cons_zero, List.set_cons_succ]
              refine seqI_skip rfl (fun _ _ _ h => h) ?_
              simp only [Act.put, List.setIfInBounds_toArray, List.set_cons_zero, List.set_cons_succ]
              refine seqI_skip rfl (fun _ _ _ h => h) ?_
              simp only [Act.put, List.setIfInBounds_toArray, List.set_cons_zero, List.set_cons_succ]
              refine seqI_skip rfl (fun _ _ _ h => h) ?_
              simp only [Act.put, List.setIfInBounds_toArray, List.set_cons_zero, List.set_cons_succ]
              refine seqI_skip rfl (fun _ _ _ h => h) ?_
              simp only [Act.put, List.setIfInBounds_toArray, List.set_cons_zero, List.set_cons_succ]
              refine seqI_skip rfl (fun _ _ _ h => h) ?_
              simp only [Act.put, List.setIfInBounds_toArray, List.set_cons_zero, List.set_cons_succ]
              refine seqI_skip rfl (fun _ _ _ h => h) ?_
              simp only [Act.put, List.setIfInBounds_toArray, List.set_cons_zero, List.set_cons_succ]
              refine seqI_skip rfl (fun _ _ _ h => h) ?_
              simp only [Act.put, List.setIfInBounds_toArray, List.set_cons_zero, List.set_cons_succ]
              refine seqI_take (v := .bool false) rfl (fun W9 hW => by clear hW; go_simp) (fun _ _ _ h => h) ?_
              simp only [Act.put, List.setIfInBounds_toArray, List.set_cons_zero, List.set_cons_succ]
              refine seqI_nil ?_
              go_wp2_with fail
              go_meet
              exact ⟨_, rfl, HBV.out, HD9.out⟩
          have H2 := Lib.hid h2
          have h2a : (i2 : Int) < (n : Int) := by omega
          have h2b : ¬ ((i2 : Int) < 0) := by omega
          clear h2
          by_cases h3 : yp = xp
          case neg =>
            have H3 := Lib.hid h3
            clear h3
            have HCE : Hid (∀ W9, Below w1.drew.heap.size w1.drew W9 → W9.cell? ⟨g, i2 * 6, none⟩ = some (.string ⟨yp.toArray⟩) ∧ W9.cell? ⟨g, i2 * 6 + 1, none⟩ = some (.string ⟨yd.toArray⟩) ∧ W9.cell? ⟨g, i2 * 6 + 3, none⟩ = some (.int .i64 ya) ∧ W9.cell? ⟨B, 1, none⟩ = some (.string ⟨xd.toArray⟩)) := fun W9 hW => by
              obtain ⟨q0, q1, q3⟩ := HNX.out (by have := H2.out; omega) W9 (ext_trans HWd.out.below hW)
              exact ⟨q0, q1, q3, (Xd.out.below hW).cell 1 rfl⟩
            have HBV : Hid (false = !cur) := by show _ = _; rw [HC2.out, decide_eq_true H2.out, decide_eq_false H3.out]; simp
            clear HC2 HNX Xd HWd
            as_aux_lemma =>
              refine region_seqI (S := fun W9 => Below w1.drew.heap.size w1.drew W9) [(true, 0), (true, 1), (true, 2), (true, 3), (true, 4), (true, 5), (true, 6), (true, 7), (true, 8), (true, 9), (true, 10), (true, 11), (true, 12), (true, 13), (true, 14), (true, 15), (true, 16), (true, 17), (true, 18), (true, 19), (true, 20), (true, 21), (true, 22), (true, 23), (true, 24), (true, 25), (true, 26), (true, 27), (true, 28), (true, 29), (true, 30), (true, 31), (true, 32), (true, 33), (true, 34), (true, 35)] (by kernel_rfl) (by kernel_rfl) rfl (by kernel_rfl) (Below.refl _ _) ?_
              generalize w1.drew = wd at HD9 HCE ⊢
              simp only [seqOps, List.getD_cons_zero, List.getD_cons_succ]
              refine seqI_take (v := .int .i64 i) rfl (fun W9 hW => by clear hW; go_simp) (fun _ _ _ h => h) ?_
              simp only [Act.put, List.setIfInBounds_toArray, List.set_cons_zero, List.set_cons_succ]
              refine seqI_take (v := .int .i64 i2) rfl (fun W9 hW => by clear hW; go_simp) (fun _ _ _ h => h) ?_
              simp only [Act.put, List.setIfInBounds_toArray, List.set_cons_zero, List.set_cons_succ]
              refine seqI_take (v := .slice (some ⟨g, 0, none⟩) n cap) rfl (fun W9 hW => by clear hW; go_simp) (fun _ _ _ h => h) ?_
              simp only [Act.put, List.setIfInBounds_toArray, List.set_cons_zero, List.set_cons_succ]
              refine seqI_take (v := .int .i64 n) rfl (fun W9 hW => by clear hW; go_simp) (fun _ _ _ h => h) ?_
              simp only [Act.put, List.setIfInBounds_toArray, List.set_cons_zero, List.set_cons_succ]
              refine seqI_take (v := .bool true) rfl (fun W9 hW => by clear hW; go_simp <;> first | exact H2.out | (have hz9 := H2.out; omega)) (fun _ _ _ h => h) ?_
              simp only [Act.put, List.setIfInBounds_toArray, List.set_cons_zero, List.set_cons_succ]
              refine seqI_take (v := .bool true) rfl (fun W9 hW => by clear hW; go_simp) (fun _ _ _ h => h) ?_
              simp only [Act.put, List.setIfInBounds_toArray, List.set_cons_zero, List.set_cons_succ]
              refine seqI_take (v := .slice (some ⟨g, 0, none⟩) n cap) rfl (fun W9 hW => by clear hW; go_simp) (fun _ _ _ h => h) ?_
              simp only [Act.put, List.setIfInBounds_toArray, List.set_cons_zero, List.set_cons_succ]
              refine seqI_take (v := .int .i64 i) rfl (fun W9 hW => by clear hW; go_simp) (fun _ _ _ h => h) ?_
              simp only [Act.put, List.setIfInBounds_toArray, List.set_cons_zero, List.set_cons_succ]
              refine seqI_take (v := .int .i64 i2) rfl (fun W9 hW => by clear hW; go_simp) (fun _ _ _ h => h) ?_
              simp only [Act.put, List.setIfInBounds_toArray, List.set_cons_zero, List.set_cons_succ]
              refine seqI_take (v := .pointer (some ⟨g, i2 * 6, none⟩)) rfl (fun W9 hW => by clear hW; go_simp) (fun _ _ _ h => h) ?_
              simp only [Act.put, List.setIfInBounds_toArray, List.set_cons_zero, List.set_cons_succ]
              refine seqI_take (v := .pointer (some ⟨g, i2 * 6, none⟩)) rfl (fun W9 hW => by clear hW; go_simp) (fun _ _ _ h => h) ?_
              simp only [Act.put, List.setIfInBounds_toArray, List.set_cons_zero, List.set_cons_succ]
              refine seqI_take (v := .string ⟨yp.toArray⟩) rfl (fun W9 hW => by obtain ⟨p0, p1, p2, p3⟩ := HCE.out W9 hW; clear hW; go_simp) (fun _ _ _ h => h) ?_
              simp only [Act.put, List.setIfInBounds_toArray, List.set_cons_zero, List.set_cons_succ]
              refine seqI_take (v := .string ⟨xp.toArray⟩) rfl (fun W9 hW => by clear hW; go_simp) (fun _ _ _ h => h) ?_
              simp only [Act.put, List.setIfInBounds_toArray, List.set_cons_zero, List.set_cons_succ]
              refine seqI_take (v := .bool false) rfl (fun W9 hW => by clear hW; go_simp <;> first | exact H3.out | (have hz9 := H3.out; omega)) (fun _ _ _ h => h) ?_
              simp only [Act.put, List.setIfInBounds_toArray, List.set_cons_zero, List.set_cons_succ]
              refine seqI_take (v := .bool false) rfl (fun W9 hW => by clear hW; go_simp) (fun _ _ _ h => h) ?_
              simp only [Act.put, List.setIfInBounds_toArray, List.set_cons_zero, List.set_cons_succ]
              refine seqI_take (v := .bool false) rfl (fun W9 hW => by clear hW; go_simp) (fun _ _ _ h => h) ?_
              simp only [Act.put, List.setIfInBounds_toArray, List.set_cons_zero, List.set_cons_succ]
              refine seqI_skip rfl (fun _ _ _ h => h) ?_
              simp only [Act.put, List.setIfInBounds_toArray, List.set_cons_zero, List.set_cons_succ]
              refine seqI_skip rfl (fun _ _ _ h => h) ?_
              simp only [Act.put, List.setIfInBounds_toArray, List.set_cons_zero, List.set_cons_succ]
              refine seqI_skip rfl (fun _ _ _ h => h) ?_
              simp only [Act.put, List.setIfInBounds_toArray, List.set_cons_zero, List.set_cons_succ]
              refine seqI_skip rfl (fun _ _ _ h => h) ?_
              simp only [Act.put, List.setIfInBounds_toArray, List.set_cons_zero, List.set_cons_succ]
              refine seqI_skip rfl (fun _ _ _ h => h) ?_
              simp only [Act.put, List.setIfInBounds_toArray, List.set_cons_zero, List.set_cons_succ]
              refine seqI_skip rfl (fun _ _ _ h => h) ?_
              simp only [Act.put, List.setIfInBounds_toArray, List.set_cons_zero, List.set_cons_succ]
              refine seqI_skip rfl (fun _ _ _ h => h) ?_
              simp only [Act.put, List.setIfInBounds_toArray, List.set_cons_zero, List.set_cons_succ]
              refine seqI_skip rfl (fun _ _ _ h => h) ?_
              simp only [Act.put, List.setIfInBounds_toArray, List.set_cons_zero, List.set_cons_succ]
              refine seqI_skip rfl (fun _ _ _ h => h) ?_
              simp only [Act.put, List.setIfInBounds_toArray, List.set_cons_zero, List.set_cons_succ]
              refine seqI_take (v := .bool false) rfl (fun W9 hW => by clear hW; go_simp) (fun _ _ _ h => h) ?_
              simp only [Act.put, List.setIfInBounds_toArray, List.set_cons_zero, List.set_cons_succ]
              refine seqI_take (v := .bool false) rfl (fun W9 hW => by clear hW; go_simp) (fun _ _ _ h => h) ?_
              simp only [Act.put, List.setIfInBounds_toArray, List.set_cons_zero, List.set_cons_succ]
              refine seqI_skip rfl (fun _ _ _ h => h) ?_
              simp only [Act.put, List.setIfInBounds_toArray, List.set_cons_zero, List.set_cons_succ]
              refine seqI_skip rfl (fun _ _ _ h => h) ?_
              simp only [Act.put, List.setIfInBounds_toArray, List.set_cons_zero, List.set_cons_succ]
              refine seqI_skip rfl (fun _ _ _ h => h) ?_
              simp only [Act.put, List.setIfInBounds_toArray, List.set_cons_zero, List.set_cons_succ]
              refine seqI_skip rfl (fun _ _ _ h => h) ?_
              simp only [Act.put, List.setIfInBounds_toArray, List.set_cons_zero, List.set_cons_succ]
              refine seqI_skip rfl (fun _ _ _ h => h) ?_
              simp only [Act.put, List.setIfInBounds_toArray, List.set_cons_zero, List.set_cons_succ]
              refine seqI_skip rfl (fun _ _ _ h => h) ?_
              simp only [Act.put, List.setIfInBounds_toArray, List.set_cons_zero, List.set_cons_succ]
              refine seqI_skip rfl (fun _ _ _ h => h) ?_
              simp only [Act.put, List.setIfInBounds_toArray, List.set_cons_zero, List.set_cons_succ]
              refine seqI_skip rfl (fun _ _ _ h => h) ?_
              simp only [Act.put, List.setIfInBounds_toArray, List.set_cons_zero, List.set_cons_succ]
              refine seqI_take (v := .bool false) rfl (fun W9 hW => by clear hW; go_simp) (fun _ _ _ h => h) ?_
              simp only [Act.put, List.setIfInBounds_toArray, List.set_cons_zero, List.set_cons_succ]
              refine seqI_nil ?_
              go_wp2_with fail
              go_meet
              exact ⟨_, rfl, HBV.out, HD9.out⟩
          have H3 := Lib.hid h3
          clear h3
          by_cases h4 : yd = xd
          case neg =>
            have H4 := Lib.hid h4
            clear h4
            have HCE : Hid (∀ W9, Below w1.drew.heap.size w1.drew W9 → W9.cell? ⟨g, i2 * 6, none⟩ = some (.string ⟨yp.toArray⟩) ∧ W9.cell? ⟨g, i2 * 6 + 1, none⟩ = some (.string ⟨yd.toArray⟩) ∧ W9.cell? ⟨g, i2 * 6 + 3, none⟩ = some (.int .i64 ya) ∧ W9.cell? ⟨B, 1, none⟩ = some (.string ⟨xd.toArray⟩)) := fun W9 hW => by
              obtain ⟨q0, q1, q3⟩ := HNX.out (by have := H2.out; omega) W9 (ext_trans HWd.out.below hW)
              exact ⟨q0, q1, q3, (Xd.out.below hW).cell 1 rfl⟩
            have HBV : Hid (false = !cur) := by show _ = _; rw [HC2.out, decide_eq_true H2.out, decide_eq_true H3.out, decide_eq_false H4.out]; simp
            clear HC2 HNX Xd HWd
            as_aux_lemma =>
              refine region_seqI (S := fun W9 => Below w1.drew.heap.size w1.drew W9) [(true, 0), (true, 1), (true, 2), (true, 3), (true, 4), (true, 5), (true, 6), (true, 7), (true, 8), (true, 9), (true, 10), (true, 11), (true, 12), (true, 13), (true, 14), (true, 15), (true, 16), (true, 17), (true, 18), (true, 19), (true, 20), (true, 21), (true, 22), (true, 23), (true, 24), (true, 25), (true, 26), (true, 27), (true, 28), (true, 29), (true, 30), (true, 31), (true, 32), (true, 33), (true, 34), (true, 35)] (by kernel_rfl) (by kernel_rfl) rfl (by kernel_rfl) (Below.refl _ _) ?_
              generalize w1.drew = wd at HD9 HCE ⊢
              simp only [seqOps, List.getD_cons_zero, List.getD_cons_succ]
              refine seqI_take (v := .int .i64 i) rfl (fun W9 hW => by clear hW; go_simp) (fun _ _ _ h => h) ?_
              simp only [Act.put, List.setIfInBounds_toArray, List.set_cons_zero, List.set_cons_succ]
              refine seqI_take (v := .int .i64 i2) rfl (fun W9 hW => by clear hW; go_simp) (fun _ _ _ h => h) ?_
              simp only [Act.put, List.setIfInBounds_toArray, List.set_cons_zero, List.set_cons_succ]
              refine seqI_take (v := .slice (some ⟨g, 0, none⟩) n cap) rfl (fun W9 hW => by clear hW; go_simp) (fun _ _ _ h => h) ?_
              simp only [Act.put, List.setIfInBounds_toArray, List.set_cons_zero, List.set_cons_succ]
              refine seqI_take (v := .int .i64 n) rfl (fun W9 hW => by clear hW; go_simp) (fun _ _ _ h => h) ?_
              simp only [Act.put, List.setIfInBounds_toArray, List.set_cons_zero, List.set_cons_succ]
              refine seqI_take (v := .bool true) rfl (fun W9 hW => by clear hW; go_simp <;> first | exact H2.out | (have hz9 := H2.out; omega)) (fun _ _ _ h => h) ?_
              simp only [Act.put, List.setIfInBounds_toArray, List.set_cons_zero, List.set_cons_succ]
              refine seqI_take (v := .bool true) rfl (fun W9 hW => by clear hW; go_simp) (fun _ _ _ h => h) ?_
              simp only [Act.put, List.setIfInBounds_toArray, List.set_cons_zero, List.set_cons_succ]
              refine seqI_take (v := .slice (some ⟨g, 0, none⟩) n cap) rfl (fun W9 hW => by clear hW; go_simp) (fun _ _ _ h => h) ?_
              simp only [Act.put, List.setIfInBounds_toArray, List.set_cons_zero, List.set_cons_succ]
              refine seqI_take (v := .int .i64 i) rfl (fun W9 hW => by clear hW; go_simp) (fun _ _ _ h => h) ?_
              simp only [Act.put, List.setIfInBounds_toArray, List.set_cons_zero, List.set_cons_succ]
              refine seqI_take (v := .int .i64 i2) rfl (fun W9 hW => by clear hW; go_simp) (fun _ _ _ h => h) ?_
              simp only [Act.put, List.setIfInBounds_toArray, List.set_cons_zero, List.set_cons_succ]
              refine seqI_take (v := .pointer (some ⟨g, i2 * 6, none⟩)) rfl (fun W9 hW => by clear hW; go_simp) (fun _ _ _ h => h) ?_
              simp only [Act.put, List.setIfInBounds_toArray, List.set_cons_zero, List.set_cons_succ]
              refine seqI_take (v := .pointer (some ⟨g, i2 * 6, none⟩)) rfl (fun W9 hW => by clear hW; go_simp) (fun _ _ _ h => h) ?_
              simp only [Act.put, List.setIfInBounds_toArray, List.set_cons_zero, List.set_cons_succ]
              refine seqI_take (v := .string ⟨yp.toArray⟩) rfl (fun W9 hW => by obtain ⟨p0, p1, p2, p3⟩ := HCE.out W9 hW; clear hW; go_simp) (fun _ _ _ h => h) ?_
              simp only [Act.put, List.setIfInBounds_toArray, List.set_cons_zero, List.set_cons_succ]
              refine seqI_take (v := .string ⟨xp.toArray⟩) rfl (fun W9 hW => by clear hW; go_simp) (fun _ _ _ h => h) ?_
              simp only [Act.put, List.setIfInBounds_toArray, List.set_cons_zero, List.set_cons_succ]
              refine seqI_take (v := .bool true) rfl (fun W9 hW => by clear hW; go_simp <;> first | exact H3.out | (have hz9 := H3.out; omega)) (fun _ _ _ h => h) ?_
              simp only [Act.put, List.setIfInBounds_toArray, List.set_cons_zero, List.set_cons_succ]
              refine seqI_take (v := .bool true) rfl (fun W9 hW => by clear hW; go_simp) (fun _ _ _ h => h) ?_
              simp only [Act.put, List.setIfInBounds_toArray, List.set_cons_zero, List.set_cons_succ]
              refine seqI_take (v := .bool true) rfl (fun W9 hW => by clear hW; go_simp) (fun _ _ _ h => h) ?_
              simp only [Act.put, List.setIfInBounds_toArray, List.set_cons_zero, List.set_cons_succ]
              refine seqI_take (v := .slice (some ⟨g, 0, none⟩) n cap) rfl (fun W9 hW => by clear hW; go_simp) (fun _ _ _ h => h) ?_
              simp only [Act.put, List.setIfInBounds_toArray, List.set_cons_zero, List.set_cons_succ]
              refine seqI_take (v := .int .i64 i) rfl (fun W9 hW => by clear hW; go_simp) (fun _ _ _ h => h) ?_
              simp only [Act.put, List.setIfInBounds_toArray, List.set_cons_zero, List.set_cons_succ]
              refine seqI_take (v := .int .i64 i2) rfl (fun W9 hW => by clear hW; go_simp) (fun _ _ _ h => h) ?_
              simp only [Act.put, List.setIfInBounds_toArray, List.set_cons_zero, List.set_cons_succ]
              refine seqI_take (v := .pointer (some ⟨g, i2 * 6, none⟩)) rfl (fun W9 hW => by clear hW; go_simp) (fun _ _ _ h => h) ?_
              simp only [Act.put, List.setIfInBounds_toArray, List.set_cons_zero, List.set_cons_succ]
              refine seqI_take (v := .pointer (some ⟨g, i2 * 6 + 1, none⟩)) rfl (fun W9 hW => by clear hW; go_simp) (fun _ _ _ h => h) ?_
              simp only [Act.put, List.setIfInBounds_toArray, List.set_cons_zero, List.set_cons_succ]
              refine seqI_take (v := .string ⟨yd.toArray⟩) rfl (fun W9 hW => by obtain ⟨p0, p1, p2, p3⟩ := HCE.out W9 hW; clear hW; go_simp) (fun _ _ _ h => h) ?_
              simp only [Act.put, List.setIfInBounds_toArray, List.set_cons_zero, List.set_cons_succ]
              refine seqI_take (v := .pointer (some ⟨B, 1, none⟩)) rfl (fun W9 hW => by clear hW; go_simp) (fun _ _ _ h => h) ?_
              simp only [Act.put, List.setIfInBounds_toArray, List.set_cons_zero, List.set_cons_succ]
              refine seqI_take (v := .string ⟨xd.toArray⟩) rfl (fun W9 hW => by obtain ⟨p0, p1, p2, p3⟩ := HCE.out W9 hW; clear hW; go_simp) (fun _ _ _ h => h) ?_
              simp only [Act.put, List.setIfInBounds_toArray, List.set_cons_zero, List.set_cons_succ]
              refine seqI_take (v := .bool false) rfl (fun W9 hW => by clear hW; go_simp <;> first | exact H4.out | (have hz9 := H4.out; omega)) (fun _ _ _ h => h) ?_
              simp only [Act.put, List.setIfInBounds_toArray, List.set_cons_zero, List.set_cons_succ]
              refine seqI_take (v := .bool false) rfl (fun W9 hW => by clear hW; go_simp) (fun _ _ _ h => h) ?_
              simp only [Act.put, List.setIfInBounds_toArray, List.set_cons_zero, List.set_cons_succ]
              refine seqI_take (v := .bool false) rfl (fun W9 hW => by clear hW; go_simp) (fun _ _ _ h => h) ?_
              simp only [Act.put, List.setIfInBounds_toArray, List.set_cons_zero, List.set_cons_succ]
              refine seqI_skip rfl (fun _ _ _ h => h) ?_
              simp only [Act.put, List.setIfInBounds_toArray, List.set_cons_zero, List.set_cons_succ]
              refine seqI_skip rfl (fun _ _ _ h => h) ?_
              simp only [Act.put, List.setIfInBounds_toArray, List.set_cons_zero, List.set_cons_succ]
              refine seqI_skip rfl (fun _ _ _ h => h) ?_
              simp only [Act.put, List.setIfInBounds_toArray, List.set_cons_zero, List.set_cons_succ]
              refine seqI_skip rfl (fun _ _ _ h => h) ?_
              simp only [Act.put, List.setIfInBounds_toArray, List.set_cons_zero, List.set_cons_succ]
              refine seqI_skip rfl (fun _ _ _ h => h) ?_
              simp only [Act.put, List.setIfInBounds_toArray, List.set_cons_zero, List.set_cons_succ]
              refine seqI_skip rfl (fun _ _ _ h => h) ?_
              simp only [Act.put, List.setIfInBounds_toArray, List.set_cons_zero, List.set_cons_succ]
              refine seqI_skip rfl (fun _ _ _ h => h) ?_
              simp only [Act.put, List.setIfInBounds_toArray, List.set_cons_zero, List.set_cons_succ]
              refine seqI_skip rfl (fun _ _ _ h => h) ?_
              simp only [Act.put, List.setIfInBounds_toArray, List.set_cons_zero, List.set_cons_succ]
              refine seqI_take (v := .bool false) rfl (fun W9 hW => by clear hW; go_simp) (fun _ _ _ h => h) ?_
              simp only [Act.put, List.setIfInBounds_toArray, List.set_cons_zero, List.set_cons_succ]
              refine seqI_nil ?_
              go_wp2_with fail
              go_meet
              exact ⟨_, rfl, HBV.out, HD9.out⟩
          have H4 := Lib.hid h4
          clear h4
          by_cases h5 : ya ≤ t
          case neg =>
            have H5 := Lib.hid h5
            clear h5
            have HCE : Hid (∀ W9, Below w1.drew.heap.size w1.drew W9 → W9.cell? ⟨g, i2 * 6, none⟩ = some (.string ⟨yp.toArray⟩) ∧ W9.cell? ⟨g, i2 * 6 + 1, none⟩ = some (.string ⟨yd.toArray⟩) ∧ W9.cell? ⟨g, i2 * 6 + 3, none⟩ = some (.int .i64 ya) ∧ W9.cell? ⟨B, 1, none⟩ = some (.string ⟨xd.toArray⟩)) := fun W9 hW => by
              obtain ⟨q0, q1, q3⟩ := HNX.out (by have := H2.out; omega) W9 (ext_trans HWd.out.below hW)
              exact ⟨q0, q1, q3, (Xd.out.below hW).cell 1 rfl⟩
            have HBV : Hid (false = !cur) := by show _ = _; rw [HC2.out, decide_eq_true H2.out, decide_eq_true H3.out, decide_eq_true H4.out, decide_eq_false H5.out]; simp
            clear HC2 HNX Xd HWd
            as_aux_lemma =>
              refine region_seqI (S := fun W9 => Below w1.drew.heap.size w1.drew W9) [(true, 0), (true, 1), (true, 2), (true, 3), (true, 4), (true, 5), (true, 6), (true, 7), (true, 8), (true, 9), (true, 10), (true, 11), (true, 12), (true, 13), (true, 14), (true, 15), (true, 16), (true, 17), (true, 18), (true, 19), (true, 20), (true, 21), (true, 22), (true, 23), (true, 24), (true, 25), (true, 26), (true, 27), (true, 28), (true, 29), (true, 30), (true, 31), (true, 32), (true, 33), (true, 34), (true, 35)] (by kernel_rfl) (by kernel_rfl) rfl (by kernel_rfl) (Below.refl _ _) ?_
              generalize w1.drew = wd at HD9 HCE ⊢
              simp only [seqOps, List.getD_cons_zero, List.getD_cons_succ]
              refine seqI_take (v := .int .i64 i) rfl (fun W9 hW => by clear hW; go_simp) (fun _ _ _ h => h) ?_
              simp only [Act.put, List.setIfInBounds_toArray, List.set_cons_zero, List.set_cons_succ]
              refine seqI_take (v := .int .i64 i2) rfl (fun W9 hW => by clear hW; go_simp) (fun _ _ _ h => h) ?_
              simp only [Act.put, List.setIfInBounds_toArray, List.set_cons_zero, List.set_cons_succ]
              refine seqI_take (v := .slice (some ⟨g, 0, none⟩) n cap) rfl (fun W9 hW => by clear hW; go_simp) (fun _ _ _ h => h) ?_
              simp only [Act.put, List.setIfInBounds_toArray, List.set_cons_zero, List.set_cons_succ]
              refine seqI_take (v := .int .i64 n) rfl (fun W9 hW => by clear hW; go_simp) (fun _ _ _ h => h) ?_
              simp only [Act.put, List.setIfInBounds_toArray, List.set_cons_zero, List.set_cons_succ]
              refine seqI_take (v := .bool true) rfl (fun W9 hW => by clear hW; go_simp <;> first | exact H2.out | (have hz9 := H2.out; omega)) (fun _ _ _ h => h) ?_
              simp only [Act.put, List.setIfInBounds_toArray, List.set_cons_zero, List.set_cons_succ]
              refine seqI_take (v := .bool true) rfl (fun W9 hW => by clear hW; go_simp) (fun _ _ _ h => h) ?_
              simp only [Act.put, List.setIfInBounds_toArray, List.set_cons_zero, List.set_cons_succ]
              refine seqI_take (v := .slice (some ⟨g, 0, none⟩) n cap) rfl (fun W9 hW => by clear hW; go_simp) (fun _ _ _ h => h) ?_
              simp only [Act.put, List.setIfInBounds_toArray, List.set_cons_zero, List.set_cons_succ]
              refine seqI_take (v := .int .i64 i) rfl (fun W9 hW => by clear hW; go_simp) (fun _ _ _ h => h) ?_
              simp only [Act.put, List.setIfInBounds_toArray, List.set_cons_zero, List.set_cons_succ]
              refine seqI_take (v := .int .i64 i2) rfl (fun W9 hW => by clear hW; go_simp) (fun _ _ _ h => h) ?_
              simp only [Act.put, List.setIfInBounds_toArray, List.set_cons_zero, List.set_cons_succ]
              refine seqI_take (v := .pointer (some ⟨g, i2 * 6, none⟩)) rfl (fun W9 hW => by clear hW; go_simp) (fun _ _ _ h => h) ?_
              simp only [Act.put, List.setIfInBounds_toArray, List.set_cons_zero, List.set_cons_succ]
              refine seqI_take (v := .pointer (some ⟨g, i2 * 6, none⟩)) rfl (fun W9 hW => by clear hW; go_simp) (fun _ _ _ h => h) ?_
              simp only [Act.put, List.setIfInBounds_toArray, List.set_cons_zero, List.set_cons_succ]
              refine seqI_take (v := .string ⟨yp.toArray⟩) rfl (fun W9 hW => by obtain ⟨p0, p1, p2, p3⟩ := HCE.out W9 hW; clear hW; go_simp) (fun _ _ _ h => h) ?_
              simp only [Act.put, List.setIfInBounds_toArray, List.set_cons_zero, List.set_cons_succ]
              refine seqI_take (v := .string ⟨xp.toArray⟩) rfl (fun W9 hW => by clear hW; go_simp) (fun _ _ _ h => h) ?_
              simp only [Act.put, List.setIfInBounds_toArray, List.set_cons_zero, List.set_cons_succ]
              refine seqI_take (v := .bool true) rfl (fun W9 hW => by clear hW; go_simp <;> first | exact H3.out | (have hz9 := H3.out; omega)) (fun _ _ _ h => h) ?_
              simp only [Act.put, List.setIfInBounds_toArray, List.set_cons_zero, List.set_cons_succ]
              refine seqI_take (v := .bool true) rfl (fun W9 hW => by clear hW; go_simp) (fun _ _ _ h => h) ?_
              simp only [Act.put, List.setIfInBounds_toArray, List.set_cons_zero, List.set_cons_succ]
              refine seqI_take (v := .bool true) rfl (fun W9 hW => by clear hW; go_simp) (fun _ _ _ h => h) ?_
              simp only [Act.put, List.setIfInBounds_toArray, List.set_cons_zero, List.set_cons_succ]
              refine seqI_take (v := .slice (some ⟨g, 0, none⟩) n cap) rfl (fun W9 hW => by clear hW; go_simp) (fun _ _ _ h => h) ?_
              simp only [Act.put, List.setIfInBounds_toArray, List.set_cons_zero, List.set_cons_succ]
              refine seqI_take (v := .int .i64 i) rfl (fun W9 hW => by clear hW; go_simp) (fun _ _ _ h => h) ?_
              simp only [Act.put, List.setIfInBounds_toArray, List.set_cons_zero, List.set_cons_succ]
              refine seqI_take (v := .int .i64 i2) rfl (fun W9 hW => by clear hW; go_simp) (fun _ _ _ h => h) ?_
              simp only [Act.put, List.setIfInBounds_toArray, List.set_cons_zero, List.set_cons_succ]
              refine seqI_take (v := .pointer (some ⟨g, i2 * 6, none⟩)) rfl (fun W9 hW => by clear hW; go_simp) (fun _ _ _ h => h) ?_
              simp only [Act.put, List.setIfInBounds_toArray, List.set_cons_zero, List.set_cons_succ]
              refine seqI_take (v := .pointer (some ⟨g, i2 * 6 + 1, none⟩)) rfl (fun W9 hW => by clear hW; go_simp) (fun _ _ _ h => h) ?_
              simp only [Act.put, List.setIfInBounds_toArray, List.set_cons_zero, List.set_cons_succ]
              refine seqI_take (v := .string ⟨yd.toArray⟩) rfl (fun W9 hW => by obtain ⟨p0, p1, p2, p3⟩ := HCE.out W9 hW; clear hW; go_simp) (fun _ _ _ h => h) ?_
              simp only [Act.put, List.setIfInBounds_toArray, List.set_cons_zero, List.set_cons_succ]
              refine seqI_take (v := .pointer (some ⟨B, 1, none⟩)) rfl (fun W9 hW => by clear hW; go_simp) (fun _ _ _ h => h) ?_
              simp only [Act.put, List.setIfInBounds_toArray, List.set_cons_zero, List.set_cons_succ]
              refine seqI_take (v := .string ⟨xd.toArray⟩) rfl (fun W9 hW => by obtain ⟨p0, p1, p2, p3⟩ := HCE.out W9 hW; clear hW; go_simp) (fun _ _ _ h => h) ?_
              simp only [Act.put, List.setIfInBounds_toArray, List.set_cons_zero, List.set_cons_succ]
              refine seqI_take (v := .bool true) rfl (fun W9 hW => by clear hW; go_simp <;> first | exact H4.out | (have hz9 := H4.out; omega)) (fun _ _ _ h => h) ?_
              simp only [Act.put, List.setIfInBounds_toArray, List.set_cons_zero, List.set_cons_succ]
              refine seqI_take (v := .bool true) rfl (fun W9 hW => by clear hW; go_simp) (fun _ _ _ h => h) ?_
              simp only [Act.put, List.setIfInBounds_toArray, List.set_cons_zero, List.set_cons_succ]
              refine seqI_take (v := .bool true) rfl (fun W9 hW => by clear hW; go_simp) (fun _ _ _ h => h) ?_
              simp only [Act.put, List.setIfInBounds_toArray, List.set_cons_zero, List.set_cons_succ]
              refine seqI_take (v := .slice (some ⟨g, 0, none⟩) n cap) rfl (fun W9 hW => by clear hW; go_simp) (fun _ _ _ h => h) ?_
              simp only [Act.put, List.setIfInBounds_toArray, List.set_cons_zero, List.set_cons_succ]
              refine seqI_take (v := .int .i64 i) rfl (fun W9 hW => by clear hW; go_simp) (fun _ _ _ h => h) ?_
              simp only [Act.put, List.setIfInBounds_toArray, List.set_cons_zero, List.set_cons_succ]
              refine seqI_take (v := .int .i64 i2) rfl (fun W9 hW => by clear hW; go_simp) (fun _ _ _ h => h) ?_
              simp only [Act.put, List.setIfInBounds_toArray, List.set_cons_zero, List.set_cons_succ]
              refine seqI_take (v := .pointer (some ⟨g, i2 * 6, none⟩)) rfl (fun W9 hW => by clear hW; go_simp) (fun _ _ _ h => h) ?_
              simp only [Act.put, List.setIfInBounds_toArray, List.set_cons_zero, List.set_cons_succ]
              refine seqI_take (v := .pointer (some ⟨g, i2 * 6 + 3, none⟩)) rfl (fun W9 hW => by clear hW; go_simp) (fun _ _ _ h => h) ?_
              simp only [Act.put, List.setIfInBounds_toArray, List.set_cons_zero, List.set_cons_succ]
              refine seqI_take (v := .int .i64 ya) rfl (fun W9 hW => by obtain ⟨p0, p1, p2, p3⟩ := HCE.out W9 hW; clear hW; go_simp) (fun _ _ _ h => h) ?_
              simp only [Act.put, List.setIfInBounds_toArray, List.set_cons_zero, List.set_cons_succ]
              refine seqI_take (v := .int .i64 t) rfl (fun W9 hW => by clear hW; go_simp) (fun _ _ _ h => h) ?_
              simp only [Act.put, List.setIfInBounds_toArray, List.set_cons_zero, List.set_cons_succ]
              refine seqI_take (v := .bool false) rfl (fun W9 hW => by clear hW; go_simp <;> first | exact H5.out | (have hz9 := H5.out; omega)) (fun _ _ _ h => h) ?_
              simp only [Act.put, List.setIfInBounds_toArray, List.set_cons_zero, List.set_cons_succ]
              refine seqI_take (v := .bool false) rfl (fun W9 hW => by clear hW; go_simp) (fun _ _ _ h => h) ?_
              simp only [Act.put, List.setIfInBounds_toArray, List.set_cons_zero, List.set_cons_succ]
              refine seqI_nil ?_
              go_wp2_with fail
              go_meet
              exact ⟨_, rfl, HBV.out, HD9.out⟩
          have H5 := Lib.hid h5
          clear h5
          have HCE : Hid (∀ W9, Below w1.drew.heap.size w1.drew W9 → W9.cell? ⟨g, i2 * 6, none⟩ = some (.string ⟨yp.toArray⟩) ∧ W9.cell? ⟨g, i2 * 6 + 1, none⟩ = some (.string ⟨yd.toArray⟩) ∧ W9.cell? ⟨g, i2 * 6 + 3, none⟩ = some (.int .i64 ya) ∧ W9.cell? ⟨B, 1, none⟩ = some (.string ⟨xd.toArray⟩)) := fun W9 hW => by
            obtain ⟨q0, q1, q3⟩ := HNX.out (by have := H2.out; omega) W9 (ext_trans HWd.out.below hW)
            exact ⟨q0, q1, q3, (Xd.out.below hW).cell 1 rfl⟩
          have HBV : Hid (true = !cur) := by show _ = _; rw [HC2.out, decide_eq_true H2.out, decide_eq_true H3.out, decide_eq_true H4.out, decide_eq_true H5.out]; simp
          clear HC2 HNX Xd HWd
          as_aux_lemma =>
            refine region_seqI (S := fun W9 => Below w1.drew.heap.size w1.drew W9) [(true, 0), (true, 1), (true, 2), (true, 3), (true, 4), (true, 5), (true, 6), (true, 7), (true, 8), (true, 9), (true, 10), (true, 11), (true, 12), (true, 13), (true, 14), (true, 15), (true, 16), (true, 17), (true, 18), (true, 19), (true, 20), (true, 21), (true, 22), (true, 23), (true, 24), (true, 25), (true, 26), (true, 27), (true, 28), (true, 29), (true, 30), (true, 31), (true, 32), (true, 33), (true, 34), (true, 35)] (by kernel_rfl) (by kernel_rfl) rfl (by kernel_rfl) (Below.refl _ _) ?_
            generalize w1.drew = wd at HD9 HCE ⊢
            simp only [seqOps, List.getD_cons_zero, List.getD_cons_succ]
            refine seqI_take (v := .int .i64 i) rfl (fun W9 hW => by clear hW; go_simp) (fun _ _ _ h => h) ?_
            simp only [Act.put, List.setIfInBounds_toArray, List.set_cons_zero, List.set_cons_succ]
            refine seqI_take (v := .int .i64 i2) rfl (fun W9 hW => by clear hW; go_simp) (fun _ _ _ h => h) ?_
            simp only [Act.put, List.setIfInBounds_toArray, List.set_cons_zero, List.set_cons_succ]
            refine seqI_take (v := .slice (some ⟨g, 0, none⟩) n cap) rfl (fun W9 hW => by clear hW; go_simp) (fun _ _ _ h => h) ?_
            simp only [Act.put, List.setIfInBounds_toArray, List.set_cons_zero, List.set_cons_succ]
            refine seqI_take (v := .int .i64 n) rfl (fun W9 hW => by clear hW; go_simp) (fun _ _ _ h => h) ?_
            simp only [Act.put, List.setIfInBounds_toArray, List.set_cons_zero, List.set_cons_succ]
            refine seqI_take (v := .bool true) rfl (fun W9 hW => by clear hW; go_simp <;> first | exact H2.out | (have hz9 := H2.out; omega)) (fun _ _ _ h => h) ?_
            simp only [Act.put, List.setIfInBounds_toArray, List.set_cons_zero, List.set_cons_succ]
            refine seqI_take (v := .bool true) rfl (fun W9 hW => by clear hW; go_simp) (fun _ _ _ h => h) ?_
            simp only [Act.put, List.setIfInBounds_toArray, List.set_cons_zero, List.set_cons_succ]
            refine seqI_take (v := .slice (some ⟨g, 0, none⟩) n cap) rfl (fun W9 hW => by clear hW; go_simp) (fun _ _ _ h => h) ?_
            simp only [Act.put, List.setIfInBounds_toArray, List.set_cons_zero, List.set_cons_succ]
            refine seqI_take (v := .int .i64 i) rfl (fun W9 hW => by clear hW; go_simp) (fun _ _ _ h => h) ?_
            simp only [Act.put, List.setIfInBounds_toArray, List.set_cons_zero, List.set_cons_succ]
            refine seqI_take (v := .int .i64 i2) rfl (fun W9 hW => by clear hW; go_simp) (fun _ _ _ h => h) ?_
            simp only [Act.put, List.setIfInBounds_toArray, List.set_cons_zero, List.set_cons_succ]
            refine seqI_take (v := .pointer (some ⟨g, i2 * 6, none⟩)) rfl (fun W9 hW => by clear hW; go_simp) (fun _ _ _ h => h) ?_
            simp only [Act.put, List.setIfInBounds_toArray, List.set_cons_zero, List.set_cons_succ]
            refine seqI_take (v := .pointer (some ⟨g, i2 * 6, none⟩)) rfl (fun W9 hW => by clear hW; go_simp) (fun _ _ _ h => h) ?_
            simp only [Act.put, List.setIfInBounds_toArray, List.set_cons_zero, List.set_cons_succ]
            refine seqI_take (v := .string ⟨yp.toArray⟩) rfl (fun W9 hW => by obtain ⟨p0, p1, p2, p3⟩ := HCE.out W9 hW; clear hW; go_simp) (fun _ _ _ h => h) ?_
            simp only [Act.put, List.setIfInBounds_toArray, List.set_cons_zero, List.set_cons_succ]
            refine seqI_take (v := .string ⟨xp.toArray⟩) rfl (fun W9 hW => by clear hW; go_simp) (fun _ _ _ h => h) ?_
            simp only [Act.put, List.setIfInBounds_toArray, List.set_cons_zero, List.set_cons_succ]
            refine seqI_take (v := .bool true) rfl (fun W9 hW => by clear hW; go_simp <;> first | exact H3.out | (have hz9 := H3.out; omega)) (fun _ _ _ h => h) ?_
            simp only [Act.put, List.setIfInBounds_toArray, List.set_cons_zero, List.set_cons_succ]
            refine seqI_take (v := .bool true) rfl (fun W9 hW => by clear hW; go_simp) (fun _ _ _ h => h) ?_
            simp only [Act.put, List.setIfInBounds_toArray, List.set_cons_zero, List.set_cons_succ]
            refine seqI_take (v := .bool true) rfl (fun W9 hW => by clear hW; go_simp) (fun _ _ _ h => h) ?_
            simp only [Act.put, List.setIfInBounds_toArray, List.set_cons_zero, List.set_cons_succ]
            refine seqI_take (v := .slice (some ⟨g, 0, none⟩) n cap) rfl (fun W9 hW => by clear hW; go_simp) (fun _ _ _ h => h) ?_
            simp only [Act.put, List.setIfInBounds_toArray, List.set_cons_zero, List.set_cons_succ]
            refine seqI_take (v := .int .i64 i) rfl (fun W9 hW => by clear hW; go_simp) (fun _ _ _ h => h) ?_
            simp only [Act.put, List.setIfInBounds_toArray, List.set_cons_zero, List.set_cons_succ]
            refine seqI_take (v := .int .i64 i2) rfl (fun W9 hW => by clear hW; go_simp) (fun _ _ _ h => h) ?_
            simp only [Act.put, List.setIfInBounds_toArray, List.set_cons_zero, List.set_cons_succ]
            refine seqI_take (v := .pointer (some ⟨g, i2 * 6, none⟩)) rfl (fun W9 hW => by clear hW; go_simp) (fun _ _ _ h => h) ?_
            simp only [Act.put, List.setIfInBounds_toArray, List.set_cons_zero, List.set_cons_succ]
            refine seqI_take (v := .pointer (some ⟨g, i2 * 6 + 1, none⟩)) rfl (fun W9 hW => by clear hW; go_simp) (fun _ _ _ h => h) ?_
            simp only [Act.put, List.setIfInBounds_toArray, List.set_cons_zero, List.set_cons_succ]
            refine seqI_take (v := .string ⟨yd.toArray⟩) rfl (fun W9 hW => by obtain ⟨p0, p1, p2, p3⟩ := HCE.out W9 hW; clear hW; go_simp) (fun _ _ _ h => h) ?_
            simp only [Act.put, List.setIfInBounds_toArray, List.set_cons_zero, List.set_cons_succ]
            refine seqI_take (v := .pointer (some ⟨B, 1, none⟩)) rfl (fun W9 hW => by clear hW; go_simp) (fun _ _ _ h => h) ?_
            simp only [Act.put, List.setIfInBounds_toArray, List.set_cons_zero, List.set_cons_succ]
            refine seqI_take (v := .string ⟨xd.toArray⟩) rfl (fun W9 hW => by obtain ⟨p0, p1, p2, p3⟩ := HCE.out W9 hW; clear hW; go_simp) (fun _ _ _ h => h) ?_
            simp only [Act.put, List.setIfInBounds_toArray, List.set_cons_zero, List.set_cons_succ]
            refine seqI_take (v := .bool true) rfl (fun W9 hW => by clear hW; go_simp <;> first | exact H4.out | (have hz9 := H4.out; omega)) (fun _ _ _ h => h) ?_
            simp only [Act.put, List.setIfInBounds_toArray, List.set_cons_zero, List.set_cons_succ]
            refine seqI_take (v := .bool true) rfl (fun W9 hW => by clear hW; go_simp) (fun _ _ _ h => h) ?_
            simp only [Act.put, List.setIfInBounds_toArray, List.set_cons_zero, List.set_cons_succ]
            refine seqI_take (v := .bool true) rfl (fun W9 hW => by clear hW; go_simp) (fun _ _ _ h => h) ?_
            simp only [Act.put, List.setIfInBounds_toArray, List.set_cons_zero, List.set_cons_succ]
            refine seqI_take (v := .slice (some ⟨g, 0, none⟩) n cap) rfl (fun W9 hW => by clear hW; go_simp) (fun _ _ _ h => h) ?_
            simp only [Act.put, List.setIfInBounds_toArray, List.set_cons_zero, List.set_cons_succ]
            refine seqI_take (v := .int .i64 i) rfl (fun W9 hW => by clear hW; go_simp) (fun _ _ _ h => h) ?_
            simp only [Act.put, List.setIfInBounds_toArray, List.set_cons_zero, List.set_cons_succ]
            refine seqI_take (v := .int .i64 i2) rfl (fun W9 hW => by clear hW; go_simp) (fun _ _ _ h => h) ?_
            simp only [Act.put, List.setIfInBounds_toArray, List.set_cons_zero, List.set_cons_succ]
            refine seqI_take (v := .pointer (some ⟨g, i2 * 6, none⟩)) rfl (fun W9 hW => by clear hW; go_simp) (fun _ _ _ h => h) ?_
            simp only [Act.put, List.setIfInBounds_toArray, List.set_cons_zero, List.set_cons_succ]
            refine seqI_take (v := .pointer (some ⟨g, i2 * 6 + 3, none⟩)) rfl (fun W9 hW => by clear hW; go_simp) (fun _ _ _ h => h) ?_
            simp only [Act.put, List.setIfInBounds_toArray, List.set_cons_zero, List.set_cons_succ]
            refine seqI_take (v := .int .i64 ya) rfl (fun W9 hW => by obtain ⟨p0, p1, p2, p3⟩ := HCE.out W9 hW; clear hW; go_simp) (fun _ _ _ h => h) ?_
            simp only [Act.put, List.setIfInBounds_toArray, List.set_cons_zero, List.set_cons_succ]
            refine seqI_take (v := .int .i64 t) rfl (fun W9 hW => by clear hW; go_simp) (fun _ _ _ h => h) ?_
            simp only [Act.put, List.setIfInBounds_toArray, List.set_cons_zero, List.set_cons_succ]
            refine seqI_take (v := .bool true) rfl (fun W9 hW => by clear hW; go_simp <;> first | exact H5.out | (have hz9 := H5.out; omega)) (fun _ _ _ h => h) ?_
            simp only [Act.put, List.setIfInBounds_toArray, List.set_cons_zero, List.set_cons_succ]
            refine seqI_take (v := .bool true) rfl (fun W9 hW => by clear hW; go_simp) (fun _ _ _ h => h) ?_
            simp only [Act.put, List.setIfInBounds_toArray, List.set_cons_zero, List.set_cons_succ]
            refine seqI_nil ?_
            go_wp2_with fail
            go_meet
            exact ⟨_, rfl, HBV.out, HD9.out⟩
        case rest =>
          obtain ⟨b, rfl, hbv, hV⟩ := hcut
          obtain ⟨wd, rfl⟩ : ∃ x : World, x = wc := ⟨_, rfl⟩
          have Xd := Lib.hid (X1.out.below hV.out)
          have HWd := Lib.hid (HW1.out.ext hV.out)
          have hbc := hbv.out
          clear hbv hV X1 HW1 HC2 HNX HN HRES HBX HX
          cases b
          case true =>
            have HE : Hid (O2 = O) := by show _ = _; rw [HNEXT.out, show cur = false by simpa using hbc.symm]; rfl
            clear HNEXT hbc Xd
            as_aux_lemma =>
              go_wp2_with fail
              have hi2 := HI2.out
              go_roundw
              case rel => exact ⟨i2, by omega, by go_num, (by rw [hi2, ← HO2.out, HE.out, ← HF.out]; exact rfl), (by rw [hi2, ← HO2.out, HE.out]; exact HWd.out)⟩
              case measure => simp [intOf]; omega
          have HE : Hid (O2 = bcnBest O ⟨xp, xd, xs, xa, xt, xn⟩) := by show _ = _; rw [HNEXT.out, show cur = true by simpa using hbc.symm]; rfl
          clear HNEXT hbc
          rcases O with _ | c
          · skip
            have hf : f = false := HF.out
            subst hf
            clear HF
            as_aux_lemma =>
              go_upto_region 8 with (fail)
              have hd : Below wd.heap.size wd wd.drew := ext_drew (Below.refl _ _)
              have X9 := Lib.hid (Xd.out.below hd)
              have HW9 := Lib.hid (HWd.out.ext hd)
              clear hd Xd HWd
              as_aux_lemma =>
                refine region_seqI (S := fun W9 => Below wd.drew.heap.size wd.drew W9) [(true, 0), (true, 1), (true, 2), (true, 3), (true, 4), (true, 5), (true, 6), (true, 7), (true, 8), (true, 9), (true, 10), (true, 11), (true, 12), (true, 13), (true, 14), (true, 15), (true, 16)] (by kernel_rfl) (by kernel_rfl) rfl (by kernel_rfl) (Below.refl _ _) ?_
                generalize wd.drew = we at X9 HW9 ⊢
                simp only [seqOps, List.getD_cons_zero, List.getD_cons_succ]
                refine seqI_take (v := .bool false) rfl (fun W9 hW => by clear hW; go_simp) (fun _ _ _ h => h) ?_
                simp only [Act.put, List.setIfInBounds_toArray, List.set_cons_zero, List.set_cons_succ]
                refine seqI_take (v := .bool true) rfl (fun W9 hW => by clear hW; go_simp) (fun _ _ _ h => h) ?_
                simp only [Act.put, List.setIfInBounds_toArray, List.set_cons_zero, List.set_cons_succ]
                refine seqI_take (v := .bool true) rfl (fun W9 hW => by clear hW; go_simp) (fun _ _ _ h => h) ?_
                simp only [Act.put, List.setIfInBounds_toArray, List.set_cons_zero, List.set_cons_succ]
                refine seqI_skip rfl (fun _ _ _ h => h) ?_
                simp only [Act.put, List.setIfInBounds_toArray, List.set_cons_zero, List.set_cons_succ]
                refine seqI_skip rfl (fun _ _ _ h => h) ?_
                simp only [Act.put, List.setIfInBounds_toArray, List.set_cons_zero, List.set_cons_succ]
                refine seqI_skip rfl (fun _ _ _ h => h) ?_
                simp only [Act.put, List.setIfInBounds_toArray, List.set_cons_zero, List.set_cons_succ]
                refine seqI_skip rfl (fun _ _ _ h => h) ?_
                simp only [Act.put, List.setIfInBounds_toArray, List.set_cons_zero, List.set_cons_succ]
                refine seqI_skip rfl (fun _ _ _ h => h) ?_
                simp only [Act.put, List.setIfInBounds_toArray, List.set_cons_zero, List.set_cons_succ]
                refine seqI_skip rfl (fun _ _ _ h => h) ?_
                simp only [Act.put, List.setIfInBounds_toArray, List.set_cons_zero, List.set_cons_succ]
                refine seqI_skip rfl (fun _ _ _ h => h) ?_
                simp only [Act.put, List.setIfInBounds_toArray, List.set_cons_zero, List.set_cons_succ]
                refine seqI_skip rfl (fun _ _ _ h => h) ?_
                simp only [Act.put, List.setIfInBounds_toArray, List.set_cons_zero, List.set_cons_succ]
                refine seqI_skip rfl (fun _ _ _ h => h) ?_
                simp only [Act.put, List.setIfInBounds_toArray, List.set_cons_zero, List.set_cons_succ]
                refine seqI_skip rfl (fun _ _ _ h => h) ?_
                simp only [Act.put, List.setIfInBounds_toArray, List.set_cons_zero, List.set_cons_succ]
                refine seqI_skip rfl (fun _ _ _ h => h) ?_
                simp only [Act.put, List.setIfInBounds_toArray, List.set_cons_zero, List.set_cons_succ]
                refine seqI_skip rfl (fun _ _ _ h => h) ?_
                simp only [Act.put, List.setIfInBounds_toArray, List.set_cons_zero, List.set_cons_succ]
                refine seqI_skip rfl (fun _ _ _ h => h) ?_
                simp only [Act.put, List.setIfInBounds_toArray, List.set_cons_zero, List.set_cons_succ]
                refine seqI_take (v := .bool true) rfl (fun W9 hW => by clear hW; go_simp) (fun _ _ _ h => h) ?_
                simp only [Act.put, List.setIfInBounds_toArray, List.set_cons_zero, List.set_cons_succ]
                refine seqI_nil ?_
                have HTH : Hid (we.there (A + 1) 0 6) := HW9.out.best.th 6 (Nat.le_refl 6)
                have HRG : Hid (we.rangeAt B 0 [.string ⟨xp.toArray⟩, .string ⟨xd.toArray⟩, .int .i64 xs, .int .i64 xa, .int .i64 xt, .string ⟨xn.toArray⟩]) := fun j v hj => by rw [Nat.zero_add]; exact X9.out.cell j hj
                have HE2 : Hid (SayW w (we.setCells (A + 1) 0 [.string ⟨xp.toArray⟩, .string ⟨xd.toArray⟩, .int .i64 xs, .int .i64 xa, .int .i64 xt, .string ⟨xn.toArray⟩]) A (some ⟨xp, xd, xs, xa, xt, xn⟩)) := ⟨blkOther HW9.out.res (by omega) _ _, HW9.out.best.setAll6 _ _ _ _ _ _, belowB (by have := HA.out; omega) HW9.out.below _ _⟩
                as_aux_lemma =>
                  go_wp2_with (first | (refine wpList_load_mid rfl 35 (.tmp 11) rfl B 0 rfl [.string ⟨xp.toArray⟩, .string ⟨xd.toArray⟩, .int .i64 xs, .int .i64 xa, .int .i64 xt, .string ⟨xn.toArray⟩] _ HRG.out Tryz.underlying35 rfl Tryz.bcnSz ?_) | (refine wpList_store_mid rfl 35 (.tmp 8) (.tmp 88) rfl (A + 1) 0 #[.string ⟨xp.toArray⟩, .string ⟨xd.toArray⟩, .int .i64 xs, .int .i64 xa, .int .i64 xt, .string ⟨xn.toArray⟩] rfl rfl HTH.out Tryz.bcnSz (by simp [Value.oneCell']) ?_; generalize we.setCells (A + 1) 0 [.string ⟨xp.toArray⟩, .string ⟨xd.toArray⟩, .int .i64 xs, .int .i64 xa, .int .i64 xt, .string ⟨xn.toArray⟩] = wz at HE2 ⊢; clear HTH HRG))
                  have hi2 := HI2.out
                  go_roundw
                  case rel => exact ⟨i2, by omega, by go_num, (by rw [hi2, ← HO2.out, HE.out]; exact rfl), (by rw [hi2, ← HO2.out, HE.out]; exact HE2.out)⟩
                  case measure => simp [intOf]; omega
          · skip
            have hf : f = true := HF.out
            subst hf
            clear HF
            as_aux_lemma =>
              go_upto_region 8 with (fail)
              have hd : Below wd.heap.size wd wd.drew := ext_drew (Below.refl _ _)
              have X9 := Lib.hid (Xd.out.below hd)
              have HW9 := Lib.hid (HWd.out.ext hd)
              clear hd Xd HWd
              obtain ⟨cp, cd, cs, ca, ct, cn⟩ := c
              have HCE8 : Hid (∀ W9, Below wd.drew.heap.size wd.drew W9 → W9.cell? ⟨B, 2, none⟩ = some (.int .i64 xs) ∧ W9.cell? ⟨B, 3, none⟩ = some (.int .i64 xa) ∧ W9.cell? ⟨A + 1, 2, none⟩ = some (.int .i64 cs) ∧ W9.cell? ⟨A + 1, 3, none⟩ = some (.int .i64 ca)) := fun W9 hW => ⟨(X9.out.below hW).cell 2 rfl, (X9.out.below hW).cell 3 rfl, (HW9.out.best.below hW).cell 2 rfl, (HW9.out.best.below hW).cell 3 rfl⟩
              have HR0 : Hid (∀ W, Calls Tryz.prog 69 #[.int .i64 xs, .int .i64 cs] W fun e w' => e = .returned (.int .i64 (Lib.compareInt xs cs)) ∧ w' = W) := fun W => Tryz.cmp_Compare _ _ W
              have HR1 : Hid (∀ W, Calls Tryz.prog 69 #[.int .i64 xa, .int .i64 ca] W fun e w' => e = .returned (.int .i64 (Lib.compareInt xa ca)) ∧ w' = W) := fun W => Tryz.cmp_Compare _ _ W
              have HBB : Hid (bcnBest (some ⟨cp, cd, cs, ca, ct, cn⟩) ⟨xp, xd, xs, xa, xt, xn⟩ = if 0 < firstE (Lib.compareInt xs cs) (Lib.compareInt xa ca) then some ⟨xp, xd, xs, xa, xt, xn⟩ else some ⟨cp, cd, cs, ca, ct, cn⟩) := rfl
              generalize Lib.compareInt xs cs = r0 at HR0 HBB
              generalize Lib.compareInt xa ca = r1 at HR1 HBB
              as_aux_lemma =>
                refine region_seqI (S := fun W9 => Below wd.drew.heap.size wd.drew W9) [(true, 0), (true, 1), (true, 2), (true, 3), (true, 4), (true, 5), (true, 6), (true, 8), (true, 9), (true, 10), (true, 11), (false, 7), (false, 12), (false, 13), (false, 14), (true, 15), (true, 16)] (by kernel_rfl) (by kernel_rfl) rfl (by kernel_rfl) (Below.refl _ _) ?_
                generalize wd.drew = we at X9 HW9 HCE8 ⊢
                simp only [seqOps, List.getD_cons_zero, List.getD_cons_succ]
                refine seqI_take (v := .bool true) rfl (fun W9 hW => by clear hW; go_simp) (fun _ _ _ h => h) ?_
                simp only [Act.put, List.setIfInBounds_toArray, List.set_cons_zero, List.set_cons_succ]
                refine seqI_take (v := .bool false) rfl (fun W9 hW => by clear hW; go_simp) (fun _ _ _ h => h) ?_
                simp only [Act.put, List.setIfInBounds_toArray, List.set_cons_zero, List.set_cons_succ]
                refine seqI_take (v := .bool false) rfl (fun W9 hW => by clear hW; go_simp) (fun _ _ _ h => h) ?_
                simp only [Act.put, List.setIfInBounds_toArray, List.set_cons_zero, List.set_cons_succ]
                refine seqI_take (v := .pointer (some ⟨B, 2, none⟩)) rfl (fun W9 hW => by clear hW; go_simp) (fun _ _ _ h => h) ?_
                simp only [Act.put, List.setIfInBounds_toArray, List.set_cons_zero, List.set_cons_succ]
                refine seqI_take (v := .int .i64 xs) rfl (fun W9 hW => by obtain ⟨p0, p1, p2, p3⟩ := HCE8.out W9 hW; clear hW; go_simp) (fun _ _ _ h => h) ?_
                simp only [Act.put, List.setIfInBounds_toArray, List.set_cons_zero, List.set_cons_succ]
                refine seqI_take (v := .pointer (some ⟨A + 1, 2, none⟩)) rfl (fun W9 hW => by clear hW; go_simp) (fun _ _ _ h => h) ?_
                simp only [Act.put, List.setIfInBounds_toArray, List.set_cons_zero, List.set_cons_succ]
                refine seqI_take (v := .int .i64 cs) rfl (fun W9 hW => by obtain ⟨p0, p1, p2, p3⟩ := HCE8.out W9 hW; clear hW; go_simp) (fun _ _ _ h => h) ?_
                simp only [Act.put, List.setIfInBounds_toArray, List.set_cons_zero, List.set_cons_succ]
                refine seqI_take (v := .pointer (some ⟨B, 3, none⟩)) rfl (fun W9 hW => by clear hW; go_simp) (fun _ _ _ h => h) ?_
                simp only [Act.put, List.setIfInBounds_toArray, List.set_cons_zero, List.set_cons_succ]
                refine seqI_take (v := .int .i64 xa) rfl (fun W9 hW => by obtain ⟨p0, p1, p2, p3⟩ := HCE8.out W9 hW; clear hW; go_simp) (fun _ _ _ h => h) ?_
                simp only [Act.put, List.setIfInBounds_toArray, List.set_cons_zero, List.set_cons_succ]
                refine seqI_take (v := .pointer (some ⟨A + 1, 3, none⟩)) rfl (fun W9 hW => by clear hW; go_simp) (fun _ _ _ h => h) ?_
                simp only [Act.put, List.setIfInBounds_toArray, List.set_cons_zero, List.set_cons_succ]
                refine seqI_take (v := .int .i64 ca) rfl (fun W9 hW => by obtain ⟨p0, p1, p2, p3⟩ := HCE8.out W9 hW; clear hW; go_simp) (fun _ _ _ h => h) ?_
                simp only [Act.put, List.setIfInBounds_toArray, List.set_cons_zero, List.set_cons_succ]
                refine seqI_call _ _ rfl (by go_simp) ((HR0).out _) ?_
                rintro e w9 ⟨rfl, hw⟩
                replace hw := hw.symm
                subst hw
                refine ⟨_, rfl, Below.refl _ _, ?_⟩
                simp only [Act.put, List.setIfInBounds_toArray, List.set_cons_zero, List.set_cons_succ]
                refine seqI_call _ _ rfl (by go_simp) ((HR1).out _) ?_
                rintro e w9 ⟨rfl, hw⟩
                replace hw := hw.symm
                subst hw
                refine ⟨_, rfl, Below.refl _ _, ?_⟩
                simp only [Act.put, List.setIfInBounds_toArray, List.set_cons_zero, List.set_cons_succ]
                have hA2 : Below we.heap.size we (we.alloc (.cells #[.int .i64 r0, .int .i64 r1] 3)) := ext_alloc (Below.refl _ _)
                have HL : Hid (Blk (we.alloc (.cells #[.int .i64 r0, .int .i64 r1] 3)) we.heap.size [.int .i64 r0, .int .i64 r1] 3) := Blk.new _ _ _
                refine seqI_do rfl (wp_valA (bs_2i _ _ _ 78 83 r0 r1 rfl rfl rfl) ⟨hA2, ?_⟩)
                simp only [Act.put, List.setIfInBounds_toArray, List.set_cons_zero, List.set_cons_succ]
                refine seqI_call _ _ rfl (by go_simp) (or2I_any r0 r1 we.heap.size _ HL.out.lt (HL.out.cell 0 rfl) (HL.out.cell 1 rfl)) ?_
                rintro e w9 ⟨rfl, hw⟩
                subst hw
                refine ⟨_, rfl, hA2, ?_⟩
                simp only [Act.put, List.setIfInBounds_toArray, List.set_cons_zero, List.set_cons_succ]
                have X9 := Lib.hid (X9.out.below hA2)
                have HW9 := Lib.hid (HW9.out.ext hA2)
                clear hA2 HL HCE8 HR0 HR1
                generalize (we.alloc (.cells #[.int .i64 r0, .int .i64 r1] 3)) = wf at X9 HW9 ⊢
                generalize firstE r0 r1 = rr at HBB ⊢
                by_cases hrr : 0 < rr
                case neg =>
                  have HRR := Lib.hid hrr
                  have HE3 : Hid (O2 = some ⟨cp, cd, cs, ca, ct, cn⟩) := by show _ = _; rw [HE.out, HBB.out, if_neg hrr]
                  clear hrr
                  refine seqI_take (v := .bool false) rfl (fun W9 hW => by clear hW; go_simp <;> first | exact HRR.out | (have hz9 := HRR.out; omega)) (fun _ _ _ h => h) ?_
                  simp only [Act.put, List.setIfInBounds_toArray, List.set_cons_zero, List.set_cons_succ]
                  refine seqI_take (v := .bool false) rfl (fun W9 hW => by clear hW; go_simp) (fun _ _ _ h => h) ?_
                  simp only [Act.put, List.setIfInBounds_toArray, List.set_cons_zero, List.set_cons_succ]
                  refine seqI_nil ?_
                  as_aux_lemma =>
                    go_wp2_with fail
                    have hi2 := HI2.out
                    go_roundw
                    case rel => exact ⟨i2, by omega, by go_num, (by rw [hi2, ← HO2.out, HE3.out]; exact rfl), (by rw [hi2, ← HO2.out, HE3.out]; exact HW9.out)⟩
                    case measure => simp [intOf]; omega
                have HRR := Lib.hid hrr
                have HE : Hid (O2 = some ⟨xp, xd, xs, xa, xt, xn⟩) := by show _ = _; rw [HE.out, HBB.out, if_pos hrr]
                clear hrr
                refine seqI_take (v := .bool true) rfl (fun W9 hW => by clear hW; go_simp <;> first | exact HRR.out | (have hz9 := HRR.out; omega)) (fun _ _ _ h => h) ?_
                simp only [Act.put, List.setIfInBounds_toArray, List.set_cons_zero, List.set_cons_succ]
                refine seqI_take (v := .bool true) rfl (fun W9 hW => by clear hW; go_simp) (fun _ _ _ h => h) ?_
                simp only [Act.put, List.setIfInBounds_toArray, List.set_cons_zero, List.set_cons_succ]
                refine seqI_nil ?_
                have HTH : Hid (wf.there (A + 1) 0 6) := HW9.out.best.th 6 (Nat.le_refl 6)
                have HRG : Hid (wf.rangeAt B 0 [.string ⟨xp.toArray⟩, .string ⟨xd.toArray⟩, .int .i64 xs, .int .i64 xa, .int .i64 xt, .string ⟨xn.toArray⟩]) := fun j v hj => by rw [Nat.zero_add]; exact X9.out.cell j hj
                have HE2 : Hid (SayW w (wf.setCells (A + 1) 0 [.string ⟨xp.toArray⟩, .string ⟨xd.toArray⟩, .int .i64 xs, .int .i64 xa, .int .i64 xt, .string ⟨xn.toArray⟩]) A (some ⟨xp, xd, xs, xa, xt, xn⟩)) := ⟨blkOther HW9.out.res (by omega) _ _, HW9.out.best.setAll6 _ _ _ _ _ _, belowB (by have := HA.out; omega) HW9.out.below _ _⟩
                as_aux_lemma =>
                  go_wp2_with (first | (refine wpList_load_mid rfl 35 (.tmp 11) rfl B 0 rfl [.string ⟨xp.toArray⟩, .string ⟨xd.toArray⟩, .int .i64 xs, .int .i64 xa, .int .i64 xt, .string ⟨xn.toArray⟩] _ HRG.out Tryz.underlying35 rfl Tryz.bcnSz ?_) | (refine wpList_store_mid rfl 35 (.tmp 8) (.tmp 88) rfl (A + 1) 0 #[.string ⟨xp.toArray⟩, .string ⟨xd.toArray⟩, .int .i64 xs, .int .i64 xa, .int .i64 xt, .string ⟨xn.toArray⟩] rfl rfl HTH.out Tryz.bcnSz (by simp [Value.oneCell']) ?_; generalize wf.setCells (A + 1) 0 [.string ⟨xp.toArray⟩, .string ⟨xd.toArray⟩, .int .i64 xs, .int .i64 xa, .int .i64 xt, .string ⟨xn.toArray⟩] = wz at HE2 ⊢; clear HTH HRG))
                  have hi2 := HI2.out
                  go_roundw
                  case rel => exact ⟨i2, by omega, by go_num, (by rw [hi2, ← HO2.out, HE.out]; exact rfl), (by rw [hi2, ← HO2.out, HE.out]; exact HE2.out)⟩
                  case measure => simp [intOf]; omega
end Go.Proofs.YtamoclofloijpaaGreatDoor

set_option linter.unusedVariables false
set_option linter.unusedSimpArgs false
namespace Go.Proofs.YtamoclofloijpaaGreatDoor
open Go.RowKit Go.Sort

theorem memI_upTo (d : Array Int) (x : Int) : ∀ m, x ∈ Lib.compactUpTo d m ↔ ∃ j, j < m ∧ d[j]! = x
  | 0 => by simp [Lib.compactUpTo]
  | m + 1 => by
    rw [Lib.compactUpTo_succ, List.mem_append, memI_upTo d x m]
    refine ⟨fun h => ?_, fun h => ?_⟩
    · rcases h with ⟨j, h1, h2⟩ | h
      · exact ⟨j, by omega, h2⟩
      · split at h
        · exact ⟨m, by omega, (List.mem_singleton.1 h).symm⟩
        · cases h
    · obtain ⟨j, h1, h2⟩ := h
      rcases Nat.lt_succ_iff_lt_or_eq.1 h1 with h3 | rfl
      · exact Or.inl ⟨j, h3, h2⟩
      · cases hk : Lib.keeps d j with
        | true => right; rw [if_pos rfl]; exact List.mem_singleton.2 h2.symm
        | false =>
          left
          simp only [Lib.keeps, decide_eq_false_iff_not, not_or, ne_eq, Decidable.not_not] at hk
          exact ⟨j - 1, by omega, by rw [← hk.2]; exact h2⟩
theorem memI_compact (zs : List Int) (x : Int) : x ∈ Lib.compact zs ↔ x ∈ zs := by
  unfold Lib.compact
  rw [memI_upTo]
  refine ⟨fun ⟨j, h1, h2⟩ => ?_, fun h => ?_⟩
  · rw [← h2]
    simp [h1]
  · obtain ⟨j, h1, h2⟩ := List.getElem_of_mem h
    exact ⟨j, h1, by simp [h1, h2]⟩
theorem upToI_strict (d : Array Int) (hd : ∀ i j, i ≤ j → j < d.size → d[i]! ≤ d[j]!) : ∀ m, m ≤ d.size → (Lib.compactUpTo d m).Pairwise (· < ·)
  | 0, _ => by simp [Lib.compactUpTo]
  | m + 1, hm => by
    rw [Lib.compactUpTo_succ]
    have ih := upToI_strict d hd m (by omega)
    cases hk : Lib.keeps d m with
    | false => simpa using ih
    | true =>
      rw [if_pos rfl, List.pairwise_append]
      refine ⟨ih, by simp, fun a ha b hb => ?_⟩
      obtain ⟨j, h1, rfl⟩ := (memI_upTo d a m).1 ha
      rw [List.mem_singleton.1 hb]
      simp only [Lib.keeps, decide_eq_true_eq] at hk
      rcases hk with h0 | hne
      · omega
      · have h2 := hd j (m - 1) (by omega) (by omega)
        have h3 := hd (m - 1) m (by omega) (by omega)
        omega
theorem compactI_strict (zs : List Int) (h : zs.Pairwise (fun a b => decide (a ≤ b) = true)) : (Lib.compact zs).Pairwise (· < ·) := by
  unfold Lib.compact
  refine upToI_strict _ (fun i j hij hj => ?_) _ (by simp)
  have hj' : j < zs.length := by simpa using hj
  rcases Nat.lt_or_eq_of_le hij with h1 | rfl
  · have h2 := List.pairwise_iff_getElem.1 h i j (by omega) hj' h1
    simp only [decide_eq_true_eq] at h2
    simpa [hj', show i < zs.length by omega] using h2
  · exact Int.le_refl _
/-- What a beacon adds to the edges. -/
def edgIn (per : List UInt8) (a z : Int) (b : Vbcn) (n : Int) : List Int := if b.per = per ∧ a < n ∧ n < z then [n] else []
def edgB (per : List UInt8) (a z : Int) (b : Vbcn) : List Int := edgIn per a z b b.at_ ++ edgIn per a z b b.til
def edgN (l : List Vbcn) (per : List UInt8) (a z : Int) : Nat → List Int
  | 0 => [a, z]
  | i + 1 => edgN l per a z i ++ edgB per a z (l.getD i default)
theorem mem_edgIn {per : List UInt8} {a z : Int} {b : Vbcn} {n x : Int} : x ∈ edgIn per a z b n ↔ x = n ∧ b.per = per ∧ a < n ∧ n < z := by
  unfold edgIn
  split
  · next h => simp [h]
  · next h => simp [h]
theorem mem_edgN {l : List Vbcn} {per : List UInt8} {a z x : Int} : ∀ i, i ≤ l.length → (x ∈ edgN l per a z i ↔ x = a ∨ x = z ∨ ∃ j, j < i ∧ (l.getD j default).per = per ∧ (x = (l.getD j default).at_ ∨ x = (l.getD j default).til) ∧ a < x ∧ x < z)
  | 0, _ => by simp [edgN]
  | i + 1, h => by
    unfold edgN edgB
    rw [List.mem_append, List.mem_append, mem_edgN i (by omega), mem_edgIn, mem_edgIn]
    refine ⟨fun h => ?_, fun h => ?_⟩
    · rcases h with (h | h | ⟨j, h1, h2⟩) | ⟨rfl, h1, h2, h3⟩ | ⟨rfl, h1, h2, h3⟩
      · exact Or.inl h
      · exact Or.inr (Or.inl h)
      · exact Or.inr (Or.inr ⟨j, by omega, h2⟩)
      · exact Or.inr (Or.inr ⟨i, by omega, h1, Or.inl rfl, h2, h3⟩)
      · exact Or.inr (Or.inr ⟨i, by omega, h1, Or.inr rfl, h2, h3⟩)
    · rcases h with h | h | ⟨j, h1, h2, h3, h4, h5⟩
      · exact Or.inl (Or.inl h)
      · exact Or.inl (Or.inr (Or.inl h))
      · rcases Nat.lt_succ_iff_lt_or_eq.1 h1 with h6 | rfl
        · exact Or.inl (Or.inr (Or.inr ⟨j, h6, h2, h3, h4, h5⟩))
        · rcases h3 with rfl | rfl
          · exact Or.inr (Or.inl ⟨rfl, h2, h4, h5⟩)
          · exact Or.inr (Or.inr ⟨rfl, h2, h4, h5⟩)
theorem edgN_len (l : List Vbcn) (per : List UInt8) (a z : Int) : ∀ i, 2 ≤ (edgN l per a z i).length ∧ (edgN l per a z i).length ≤ 2 + 2 * i
  | 0 => ⟨Nat.le_refl _, Nat.le_refl _⟩
  | i + 1 => by
    have := edgN_len l per a z i
    unfold edgN edgB edgIn
    rw [List.length_append, List.length_append]
    constructor
    · omega
    · split <;> split <;> simp <;> omega
/-- The edges of a window, in order. -/
def edgL (l : List Vbcn) (per : List UInt8) (a z : Int) : List Int := Lib.compact ((edgN l per a z l.length).mergeSort fun x y => decide (x ≤ y))
theorem edgL_edges (l : List Vbcn) (per : List UInt8) (a z : Int) : Edges l per a z (edgL l per a z) := by
  refine ⟨compactI_strict _ (List.pairwise_mergeSort (fun a b c h1 h2 => by simp only [decide_eq_true_eq] at *; omega) (fun a b => by simp only [Bool.or_eq_true, decide_eq_true_eq]; omega) _), fun n => ?_⟩
  unfold edgL
  rw [memI_compact, List.mem_mergeSort, mem_edgN _ (Nat.le_refl _)]
  refine or_congr Iff.rfl (or_congr Iff.rfl ⟨fun ⟨j, h1, h2⟩ => ⟨_, bcn_mem h1, h2⟩, fun ⟨b, hb, h2⟩ => ?_⟩)
  obtain ⟨j, hj, rfl⟩ := List.getElem_of_mem hb
  exact ⟨j, hj, by rw [List.getD_eq_getElem?_getD, List.getElem?_eq_getElem hj]; exact h2⟩
theorem compactI_len (xs : List Int) : (Lib.compact xs).length ≤ xs.length := by
  unfold Lib.compact Lib.compactUpTo
  rw [List.length_map]
  refine Nat.le_trans (List.length_filter_le _ _) ?_
  simp
theorem edgL_len (l : List Vbcn) (per : List UInt8) (a z : Int) : (edgL l per a z).length ≤ 2 + 2 * l.length := by
  refine Nat.le_trans (compactI_len _) ?_
  rw [List.length_mergeSort]
  exact (edgN_len l per a z _).2

theorem ownI_short {w : World} {base : Nat} {e : TypeId} {g n cap : Nat} {A B : List Value} (h : w.ownsRow base e 1 (.slice (some ⟨g, 0, none⟩) n cap) n (A ++ B)) : w.ownsRow base e 1 (.slice (some ⟨g, 0, none⟩) A.length cap) A.length A := by
  have hl : (A ++ B).length = n := by have := h.1; simpa using this
  rcases h.2 with ⟨h0, _⟩ | ⟨g', cap', cur, hv, hb, hg, h1, h2, h3, h4⟩
  · cases h0
  · cases hv
    have hA : A.length ≤ n := by rw [← hl, List.length_append]; omega
    refine ⟨by simp, Or.inr ⟨g, cap, cur, rfl, hb, hg, by omega, h2, h3, ?_⟩⟩
    have h5 := congrArg (List.take A.length) h4
    rw [List.take_take, List.take_left, Nat.min_eq_left (by omega)] at h5
    rw [Nat.mul_one]
    exact h5
theorem holdsI_block {w : World} {g : Nat} {cur : Array Value} {e : TypeId} {ss : List Int} (hb : w.heap[g]? = some (.cells cur e (0, 0))) (ht : cur.toList.take ss.length = ss.map (Value.int .i64)) : Holds (Value.int .i64) w g 0 ss.toArray := by
  intro j hj
  have hj' : j < ss.length := by simpa using hj
  refine ⟨?_, by simp [World.frozen?, hb]⟩
  have h1 : (cur.toList.take ss.length)[j]? = (ss.map (Value.int .i64))[j]? := by rw [ht]
  rw [List.getElem?_take_of_lt hj'] at h1
  simp only [World.cell?, hb, Nat.zero_add]
  simp only [Option.isSome_none, Bool.false_eq_true, if_false]
  rw [← Array.getElem?_toList, h1]
  simp [hj']
theorem heapI_sorted {w : World} {g n : Nat} {os : Array Obj} {cur : Array Value} {e : TypeId} {fr : Nat × Nat} (d : Array Int) (hb : w.heap[g]? = some (.cells cur e fr)) :
    (grow (putRow (Value.int .i64) (Sort.ahead w n) g 0 d) os).heap[g]? = some (.cells (putCells (Value.int .i64) 0 d cur) e fr) := by
  have hg : g < w.heap.size := (Array.getElem?_eq_some_iff.1 hb).1
  rw [heap_grow_old _ _ (by simpa using hg)]
  simp [putRow, mapBlock, Sort.ahead, Array.getElem?_modify, hb, onCells]
theorem grownI_sorted {w : World} {g n : Nat} {os : Array Obj} (d : Array Int) : w.grownBy (grow (putRow (Value.int .i64) (Sort.ahead w n) g 0 d) os) (some g) := by
  refine ⟨rfl, rfl, rfl, by simp, fun k hk hne => ?_⟩
  rw [heap_grow_old _ _ (by simpa using hk)]
  have : g ≠ k := fun e => hne (by rw [e])
  simp [putRow, mapBlock, Sort.ahead, Array.getElem?_modify, this]
theorem takeI_put (cur : Array Value) (ts : List Int) (h : ts.length ≤ cur.size) : (putCells (Value.int .i64) 0 ts.toArray cur).toList.take ts.length = ts.map (Value.int .i64) := by
  apply List.ext_getElem?
  intro j
  by_cases hj : j < ts.length
  · rw [List.getElem?_take_of_lt hj, Array.getElem?_toList]
    simp [putCells, hj, show j < cur.size by omega]
  · rw [List.getElem?_take_eq_none (by omega), List.getElem?_eq_none (by simp; omega)]
theorem ownsI_sorted {w : World} {base g cap n : Nat} {e : TypeId} {os : Array Obj} {cur : Array Value} {ss ts : List Int} (hl : ts.length = ss.length) (hbase : base ≤ g) (hb : w.heap[g]? = some (.cells cur e (0, 0)))
    (h1 : ss.length ≤ cap) (h2 : cap ≤ maxLen) (h3 : cur.size = cap * 1) :
    (grow (putRow (Value.int .i64) (Sort.ahead w n) g 0 ts.toArray) os).ownsRow base e 1 (.slice (some ⟨g, 0, none⟩) ss.length cap) ss.length (ts.map (Value.int .i64)) :=
  ⟨by simp [hl], .inr ⟨g, cap, _, rfl, hbase, heapI_sorted _ hb, h1, h2, by simp [putCells, h3], by rw [Nat.mul_one, ← hl]; exact takeI_put cur ts (by omega)⟩⟩
theorem sortI_own {w : World} {base g cap : Nat} {n : Nat} {xs : List Int} (h : w.ownsRow base 3 1 (.slice (some ⟨g, 0, none⟩) n cap) n (xs.map (Value.int .i64))) (hn : n ≤ 100000) : Calls Tryz.prog 23 #[.slice (some ⟨g, 0, none⟩) n cap] w fun e w' => e = .returned (.tuple #[]) ∧ w'.ownsRow base 3 1 (.slice (some ⟨g, 0, none⟩) n cap) n ((xs.mergeSort fun x y => decide (x ≤ y)).map (Value.int .i64)) ∧ w.grownBy w' (some g) := by
  have hl : xs.length = n := by have := h.1; simpa using this
  rcases h.2 with ⟨h0, _⟩ | ⟨g, cap, cur, hv, hb, hg, h1, h2, h3, h4⟩
  · cases h0
  · cases hv
    have hlt := (Array.getElem?_eq_some_iff.1 hg).1
    subst hl
    refine (Tryz.slices_SortI g 0 cap xs w (holdsI_block hg (by rw [Nat.mul_one] at h4; exact h4)) hlt (by omega)).mono ?_
    rintro e w' ⟨rfl, q, os, rfl⟩
    exact ⟨rfl, ownsI_sorted (by simp) hb hg h1 h2 h3, grownI_sorted _⟩
theorem compactI_own {w : World} {base g cap : Nat} {n : Nat} {xs : List Int} (h : w.ownsRow base 3 1 (.slice (some ⟨g, 0, none⟩) n cap) n (xs.map (Value.int .i64))) (hn : n ≤ 100000) : Calls Tryz.prog 24 #[.slice (some ⟨g, 0, none⟩) n cap] w fun e w' => e = .returned (.slice (some ⟨g, 0, none⟩) (Lib.compact xs).length cap) ∧ w'.ownsRow base 3 1 (.slice (some ⟨g, 0, none⟩) (Lib.compact xs).length cap) (Lib.compact xs).length ((Lib.compact xs).map (Value.int .i64)) ∧ w.grownBy w' (some g) := by
  have hl : xs.length = n := by have := h.1; simpa using this
  rcases h.2 with ⟨h0, _⟩ | ⟨g, cap, cur, hv, hb, hg, h1, h2, h3, h4⟩
  · cases h0
  · cases hv
    have hlt := (Array.getElem?_eq_some_iff.1 hg).1
    subst hl
    refine (Tryz.slices_CompactI g 0 cap xs w (holdsI_block hg (by rw [Nat.mul_one] at h4; exact h4)) (by omega) h1).mono ?_
    rintro e w' ⟨rfl, q, rfl⟩
    have hcl := compactI_len xs
    have h5 := ownsI_sorted (n := q) (os := #[]) (ts := Lib.compact xs ++ List.replicate (xs.length - (Lib.compact xs).length) 0) (ss := xs) (by rw [List.length_append, List.length_replicate]; omega) hb hg h1 h2 h3
    have h6 := grownI_sorted (w := w) (g := g) (n := q) (os := #[]) (Lib.compact xs ++ List.replicate (xs.length - (Lib.compact xs).length) 0).toArray
    rw [grow_empty] at h5 h6
    rw [List.map_append] at h5
    have h7 := ownI_short h5
    rw [List.length_map] at h7
    exact ⟨rfl, h7, h6⟩
end Go.Proofs.YtamoclofloijpaaGreatDoor

set_option linter.unusedVariables false
set_option linter.unusedSimpArgs false
namespace Go.Proofs.YtamoclofloijpaaGreatDoor
open Go.RowKit Go.Sort Go.Lib

set_option maxRecDepth 100000 in
set_option maxHeartbeats 16000000 in
theorem checkBcns_any (S : Nat) (w : World) (hU : U8W S w) (hS : S ≤ w.heap.size) (base : Nat) (v : Value) (l : List Vbcn) (h : VbcnRow w base v l) (hl : l.length ≤ 1000) (hok : BcnsOk l) (hb : ∀ a ∈ l, BcnB a) :
    Calls Tryz.prog 21 #[v] w ((IntP 0 w)) := by
  have HUW : Hid (∀ W, Below w.heap.size w W → U8W S W ∧ S ≤ W.heap.size) := fun W hW => ⟨hU.below hW hS, Nat.le_trans hS hW.size⟩
  clear hU hS
  unfold VbcnRow at h
  obtain ⟨a, cap, rfl⟩ := own_shape h
  have HO := Lib.hid h
  have HB := Lib.hid hb
  have HOK := Lib.hid hok
  obtain ⟨n, hn⟩ : ∃ n, n = l.length := ⟨_, rfl⟩
  have HN := Lib.hid hn
  rw [← hn] at HO hl ⊢
  clear hn h hb hok
  have hl0 : ¬ (1000 : Int) < (n : Int) := by omega
  go_enter Tryz.func21, Tryz.ntmps21
  go_wp2_with fail
  clear hl0
  go_loopw [10] (fun it wr => ∃ i : Nat, i ≤ n ∧ it = .int .i64 i ∧ Hid (Below w.heap.size w wr)) (fun it _ => n - (intOf it).toNat)
  case atStart => exact ⟨0, Nat.zero_le _, rfl, Below.refl _ _⟩
  case round =>
    obtain ⟨i, hi, rfl, HBW⟩ := hrel
    by_cases hlt : i < n
    case neg =>
      obtain rfl : i = n := by omega
      have hin : ¬ ((i : Int) < (i : Int)) := by omega
      as_aux_lemma =>
        go_wp2_with fail
        go_ret
        exact ⟨rfl, HBW.out⟩
    have hin : (i : Int) < (n : Int) := by omega
    have hil : i < l.length := by have := HN.out; omega
    have hO := own_keep HO.out HBW.out
    obtain ⟨g, rfl, hg0, hgw⟩ := own_pos hO (by omega)
    have HBX := Lib.hid (HB.out _ (getD_mem hil))
    have HPREV : Hid (∀ i1, i = i1 + 1 → ∀ W9, Below w.heap.size w W9 → W9.cell? ⟨g, i1 * 6, none⟩ = some (.string ⟨(l.getD i1 default).per.toArray⟩) ∧ W9.cell? ⟨g, i1 * 6 + 1, none⟩ = some (.string ⟨(l.getD i1 default).dev.toArray⟩) ∧ W9.cell? ⟨g, i1 * 6 + 2, none⟩ = some (.int .i64 (l.getD i1 default).st) ∧ W9.cell? ⟨g, i1 * 6 + 3, none⟩ = some (.int .i64 (l.getD i1 default).at_) ∧ W9.cell? ⟨g, i1 * 6 + 4, none⟩ = some (.int .i64 (l.getD i1 default).til) ∧ W9.cell? ⟨g, i1 * 6 + 5, none⟩ = some (.string ⟨(l.getD i1 default).note.toArray⟩)) := fun i1 e W9 hW => ⟨own_field Vbcn.cells (fun _ => rfl) (own_keep HO.out hW) i1 0 default (by omega) (by omega) rfl, own_field Vbcn.cells (fun _ => rfl) (own_keep HO.out hW) i1 1 default (by omega) (by omega) rfl, own_field Vbcn.cells (fun _ => rfl) (own_keep HO.out hW) i1 2 default (by omega) (by omega) rfl, own_field Vbcn.cells (fun _ => rfl) (own_keep HO.out hW) i1 3 default (by omega) (by omega) rfl, own_field Vbcn.cells (fun _ => rfl) (own_keep HO.out hW) i1 4 default (by omega) (by omega) rfl, own_field Vbcn.cells (fun _ => rfl) (own_keep HO.out hW) i1 5 default (by omega) (by omega) rfl⟩
    have HCM : Hid (∀ i1, i = i1 + 1 → ∀ W, Calls Tryz.prog 64 #[(l.getD i1 default).val, (l.getD i default).val] W fun e w' => e = .returned (.int .i64 (bcnCmp (l.getD i1 default) (l.getD i default))) ∧ Below W.heap.size W w') := fun i1 _ W => (cmpBcn_any _ _ W).mono fun e w' h => ⟨h.1, Grown.below h.2⟩
    have d0 := own_field Vbcn.cells (fun _ => rfl) hO i 0 default hil (by omega) rfl
    have d1 := own_field Vbcn.cells (fun _ => rfl) hO i 1 default hil (by omega) rfl
    have d2 := own_field Vbcn.cells (fun _ => rfl) hO i 2 default hil (by omega) rfl
    have d3 := own_field Vbcn.cells (fun _ => rfl) hO i 3 default hil (by omega) rfl
    have d4 := own_field Vbcn.cells (fun _ => rfl) hO i 4 default hil (by omega) rfl
    have d5 := own_field Vbcn.cells (fun _ => rfl) hO i 5 default hil (by omega) rfl
    have hXV : (l.getD i default).val = .agg #[.string ⟨(l.getD i default).per.toArray⟩, .string ⟨(l.getD i default).dev.toArray⟩, .int .i64 (l.getD i default).st, .int .i64 (l.getD i default).at_, .int .i64 (l.getD i default).til, .string ⟨(l.getD i default).note.toArray⟩] := rfl
    rw [hXV] at HCM
    clear hXV hO
    have HGD := Lib.hid (HOK.out.good _ (getD_mem hil))
    obtain ⟨x, hx⟩ : ∃ x, x = l.getD i default := ⟨_, rfl⟩
    rw [← hx] at d0 d1 d2 d3 d4 d5 HCM HBX HGD
    have HX := Lib.hid hx
    clear hx
    have HNL : Hid (x.note.length ≤ 101) := notesB_len _ HBX.out.note
    have HMO : Hid (∀ W, Calls Tryz.prog 26 #[.int .i64 x.at_] W (BoolP true W)) := fun W => by rw [← HGD.out.mom]; exact ((isMoment_any _ W).mono (fun e w2 h => ⟨h.1, by rw [← h.2]; exact Below.refl _ _⟩))
    have HK1 : Hid (∀ W, Calls Tryz.prog 22 #[.string ⟨x.per.toArray⟩] W (BoolP true W)) := fun W => by rw [← HGD.out.per]; exact isKey_any _ W (by have := HBX.out.per; omega)
    have HK2 : Hid (∀ W, Calls Tryz.prog 22 #[.string ⟨x.dev.toArray⟩] W (BoolP true W)) := fun W => by rw [← HGD.out.dev]; exact isKey_any _ W (by have := HBX.out.dev; omega)
    have HIN : Hid (∀ z lo hi W, Calls Tryz.prog 62 #[.int .i64 z, .int .i64 lo, .int .i64 hi] W (BoolP (decide (lo ≤ z) && decide (z ≤ hi)) W)) := fun z lo hi W => ((within_voi z lo hi W).mono (fun e w2 h => ⟨h.1, by rw [← h.2]; exact Below.refl _ _⟩))
    have HPL : Hid (∀ W, Below w.heap.size w W → Calls Tryz.prog 63 #[.string ⟨x.note.toArray⟩] W (BoolP true W)) := fun W hW => isPlain_any S x.note W (HUW.out W hW).1 (HUW.out W hW).2 (by have := HNL.out; omega) HGD.out.plain
    have HINK := HIN.out x.st 0 4
    rw [decide_eq_true HGD.out.st0, decide_eq_true HGD.out.st1] at HINK
    have HINK := Lib.hid HINK
    have HINL := HIN.out x.til x.at_ 345686400000
    rw [decide_eq_true HGD.out.til0, decide_eq_true HGD.out.til1] at HINL
    have HINL := Lib.hid HINL
    clear HIN
    obtain ⟨m5, hm5⟩ : ∃ m, m = x.note.length := ⟨_, rfl⟩
    have HZ5 := Lib.hid hm5
    have hz5 : (⟨x.note.toArray⟩ : ByteArray).size = m5 := by rw [hm5]; show x.note.toArray.size = _; simp
    have hm6 : ¬ (100 : Int) < (m5 : Int) := by have := HGD.out.len; omega
    clear hm5
    obtain ⟨x2, hx2⟩ : ∃ z, z = x.st := ⟨_, rfl⟩
    obtain ⟨x3, hx3⟩ : ∃ z, z = x.at_ := ⟨_, rfl⟩
    obtain ⟨x4, hx4⟩ : ∃ z, z = x.til := ⟨_, rfl⟩
    obtain ⟨b0, hb0⟩ : ∃ z : ByteArray, z = ⟨x.per.toArray⟩ := ⟨_, rfl⟩
    obtain ⟨b1, hb1⟩ : ∃ z : ByteArray, z = ⟨x.dev.toArray⟩ := ⟨_, rfl⟩
    obtain ⟨b5, hb5⟩ : ∃ z : ByteArray, z = ⟨x.note.toArray⟩ := ⟨_, rfl⟩
    rw [← hx2] at d2 HINK HCM
    rw [← hx3] at d3 HMO HINL HCM
    rw [← hx4] at d4 HINL HCM
    rw [← hb0] at d0 HK1 HCM
    rw [← hb1] at d1 HK2 HCM
    rw [← hb5] at d5 HPL HCM hz5
    rw [Nat.add_zero] at d0
    clear hx2 hx3 hx4 hb0 hb1 hb5
    have X1 : Hid (Blk (wr.alloc (.cells #[.string b0, .string b1, .int .i64 x2, .int .i64 x3, .int .i64 x4, .string b5] 35)) wr.heap.size [.string b0, .string b1, .int .i64 x2, .int .i64 x3, .int .i64 x4, .string b5] 35) := Blk.new _ _ _
    have HB1 : Hid (Below w.heap.size w (wr.alloc (.cells #[.string b0, .string b1, .int .i64 x2, .int .i64 x3, .int .i64 x4, .string b5] 35))) := ext_alloc HBW.out
    as_aux_lemma =>
      go_upto_region 6 with (fail)
      clear d0 d1 d2 d3 d4 d5 HBW
      generalize (wr.alloc (.cells #[.string b0, .string b1, .int .i64 x2, .int .i64 x3, .int .i64 x4, .string b5] 35)) = w1 at X1 HB1 ⊢
      generalize wr.heap.size = B at X1 ⊢
      have c0 := X1.out.cell 0 rfl
      have c1 := X1.out.cell 1 rfl
      have c2 := X1.out.cell 2 rfl
      have c3 := X1.out.cell 3 rfl
      have c4 := X1.out.cell 4 rfl
      have c5 := X1.out.cell 5 rfl
      as_aux_lemma =>
        go_wp2_with fail
        refine (HK1.out _).mono ?_
        rintro e w2 ⟨rfl, hb⟩
        have X2 := Lib.hid (X1.out.below hb)
        have HB2 := Lib.hid (ext_trans HB1.out hb)
        clear hb c0 c1 c2 c3 c4 c5 X1 HB1
        have c0 := X2.out.cell 0 rfl
        have c1 := X2.out.cell 1 rfl
        have c2 := X2.out.cell 2 rfl
        have c3 := X2.out.cell 3 rfl
        have c4 := X2.out.cell 4 rfl
        have c5 := X2.out.cell 5 rfl
        as_aux_lemma =>
          go_wp2_with fail
          refine (HK2.out _).mono ?_
          rintro e w3 ⟨rfl, hb⟩
          have X3 := Lib.hid (X2.out.below hb)
          have HB3 := Lib.hid (ext_trans HB2.out hb)
          clear hb c0 c1 c2 c3 c4 c5 X2 HB2
          have c0 := X3.out.cell 0 rfl
          have c1 := X3.out.cell 1 rfl
          have c2 := X3.out.cell 2 rfl
          have c3 := X3.out.cell 3 rfl
          have c4 := X3.out.cell 4 rfl
          have c5 := X3.out.cell 5 rfl
          as_aux_lemma =>
            go_wp2_with fail
            refine (HINK.out _).mono ?_
            rintro e w4 ⟨rfl, hb⟩
            have X4 := Lib.hid (X3.out.below hb)
            have HB4 := Lib.hid (ext_trans HB3.out hb)
            clear hb c0 c1 c2 c3 c4 c5 X3 HB3
            have c0 := X4.out.cell 0 rfl
            have c1 := X4.out.cell 1 rfl
            have c2 := X4.out.cell 2 rfl
            have c3 := X4.out.cell 3 rfl
            have c4 := X4.out.cell 4 rfl
            have c5 := X4.out.cell 5 rfl
            as_aux_lemma =>
              go_wp2_with fail
              refine (HMO.out _).mono ?_
              rintro e w5 ⟨rfl, hb⟩
              have X5 := Lib.hid (X4.out.below hb)
              have HB5 := Lib.hid (ext_trans HB4.out hb)
              clear hb c0 c1 c2 c3 c4 c5 X4 HB4
              have c0 := X5.out.cell 0 rfl
              have c1 := X5.out.cell 1 rfl
              have c2 := X5.out.cell 2 rfl
              have c3 := X5.out.cell 3 rfl
              have c4 := X5.out.cell 4 rfl
              have c5 := X5.out.cell 5 rfl
              as_aux_lemma =>
                go_wp2_with fail
                refine (HINL.out _).mono ?_
                rintro e w6 ⟨rfl, hb⟩
                have X6 := Lib.hid (X5.out.below hb)
                have HB6 := Lib.hid (ext_trans HB5.out hb)
                clear hb c0 c1 c2 c3 c4 c5 X5 HB5
                have c0 := X6.out.cell 0 rfl
                have c1 := X6.out.cell 1 rfl
                have c2 := X6.out.cell 2 rfl
                have c3 := X6.out.cell 3 rfl
                have c4 := X6.out.cell 4 rfl
                have c5 := X6.out.cell 5 rfl
                as_aux_lemma =>
                  go_wp2_with fail
                  refine (HPL.out _ HB6.out).mono ?_
                  rintro e w7 ⟨rfl, hb⟩
                  have X7 := Lib.hid (X6.out.below hb)
                  have HB7 := Lib.hid (ext_trans HB6.out hb)
                  clear hb c0 c1 c2 c3 c4 c5 X6 HB6
                  have c0 := X7.out.cell 0 rfl
                  have c1 := X7.out.cell 1 rfl
                  have c2 := X7.out.cell 2 rfl
                  have c3 := X7.out.cell 3 rfl
                  have c4 := X7.out.cell 4 rfl
                  have c5 := X7.out.cell 5 rfl
                  as_aux_lemma =>
                    go_upto_region 14 with (fail)
                    have hd : Below w7.heap.size w7 w7.drew := ext_drew (Below.refl _ _)
                    have XD := Lib.hid (X7.out.below hd)
                    have HBD := Lib.hid (ext_trans HB7.out hd)
                    clear hd X7 HB7 c0 c1 c2 c3 c4 c5
                    by_cases hiz : i = 0
                    case pos =>
                      have HIZ := Lib.hid hiz
                      clear hiz HCM HPREV
                      as_aux_lemma =>
                        refine region_seqI (S := fun W9 => Below w7.drew.heap.size w7.drew W9) [(true, 0), (true, 1), (true, 2), (true, 3), (true, 4), (true, 5), (true, 6), (true, 7), (true, 8), (true, 9), (true, 10), (true, 11), (true, 12)] (by kernel_rfl) (by kernel_rfl) rfl (by kernel_rfl) (Below.refl _ _) ?_
                        generalize w7.drew = wd at XD HBD ⊢
                        simp only [seqOps, List.getD_cons_zero, List.getD_cons_succ]
                        refine seqI_take (v := .int .i64 i) rfl (fun W9 hW => by clear hW; go_simp) (fun _ _ _ h => h) ?_
                        simp only [Act.put, List.setIfInBounds_toArray, List.set_cons_zero, List.set_cons_succ]
                        refine seqI_take (v := .bool false) rfl (fun W9 hW => by clear hW; go_simp; exact HIZ.out) (fun _ _ _ h => h) ?_
                        simp only [Act.put, List.setIfInBounds_toArray, List.set_cons_zero, List.set_cons_succ]
                        refine seqI_take (v := .bool false) rfl (fun W9 hW => by clear hW; go_simp) (fun _ _ _ h => h) ?_
                        simp only [Act.put, List.setIfInBounds_toArray, List.set_cons_zero, List.set_cons_succ]
                        refine seqI_skip rfl (fun _ _ _ h => h) ?_
                        simp only [Act.put, List.setIfInBounds_toArray, List.set_cons_zero, List.set_cons_succ]
                        refine seqI_skip rfl (fun _ _ _ h => h) ?_
                        simp only [Act.put, List.setIfInBounds_toArray, List.set_cons_zero, List.set_cons_succ]
                        refine seqI_skip rfl (fun _ _ _ h => h) ?_
                        simp only [Act.put, List.setIfInBounds_toArray, List.set_cons_zero, List.set_cons_succ]
                        refine seqI_skip rfl (fun _ _ _ h => h) ?_
                        simp only [Act.put, List.setIfInBounds_toArray, List.set_cons_zero, List.set_cons_succ]
                        refine seqI_skip rfl (fun _ _ _ h => h) ?_
                        simp only [Act.put, List.setIfInBounds_toArray, List.set_cons_zero, List.set_cons_succ]
                        refine seqI_skip rfl (fun _ _ _ h => h) ?_
                        simp only [Act.put, List.setIfInBounds_toArray, List.set_cons_zero, List.set_cons_succ]
                        refine seqI_skip rfl (fun _ _ _ h => h) ?_
                        simp only [Act.put, List.setIfInBounds_toArray, List.set_cons_zero, List.set_cons_succ]
                        refine seqI_skip rfl (fun _ _ _ h => h) ?_
                        simp only [Act.put, List.setIfInBounds_toArray, List.set_cons_zero, List.set_cons_succ]
                        refine seqI_take (v := .bool false) rfl (fun W9 hW => by clear hW; go_simp) (fun _ _ _ h => h) ?_
                        simp only [Act.put, List.setIfInBounds_toArray, List.set_cons_zero, List.set_cons_succ]
                        refine seqI_take (v := .bool false) rfl (fun W9 hW => by clear hW; go_simp) (fun _ _ _ h => h) ?_
                        simp only [Act.put, List.setIfInBounds_toArray, List.set_cons_zero, List.set_cons_succ]
                        refine seqI_nil ?_
                        as_aux_lemma =>
                          go_wp2_with fail
                          go_roundw
                          case rel => exact ⟨i + 1, by omega, by go_num, HBD.out⟩
                          case measure => simp [intOf]; omega
                    obtain ⟨i1, hi1⟩ : ∃ i1, i = i1 + 1 := ⟨i - 1, by omega⟩
                    have HI1 := Lib.hid hi1
                    have hip : 0 < i := by omega
                    have HIP := Lib.hid hip
                    have hw1 : IntKind.i64.wrap ((i : Int) - 1) = (i1 : Int) := by rw [show (i : Int) - 1 = (i1 : Int) by omega]; exact IntWalk.i64_in _ (by omega)
                    have h1n : (i1 : Int) < (n : Int) := by omega
                    have h10 : ¬ ((i1 : Int) < 0) := by omega
                    have HC1 := Lib.hid (HCM.out i1 hi1)
                    have HP1 := Lib.hid (HPREV.out i1 hi1)
                    clear hiz hi1 hip HCM HPREV
                    obtain ⟨r, hr⟩ : ∃ r, r = bcnCmp (l.getD i1 default) x := ⟨_, rfl⟩
                    have HR := Lib.hid hr
                    rw [← hr] at HC1
                    have HC2 : Hid (∀ W, Calls Tryz.prog 64 #[.agg #[.string ⟨(l.getD i1 default).per.toArray⟩, .string ⟨(l.getD i1 default).dev.toArray⟩, .int .i64 (l.getD i1 default).st, .int .i64 (l.getD i1 default).at_, .int .i64 (l.getD i1 default).til, .string ⟨(l.getD i1 default).note.toArray⟩], .agg #[.string b0, .string b1, .int .i64 x2, .int .i64 x3, .int .i64 x4, .string b5]] W fun e w' => e = .returned (.int .i64 r) ∧ Below W.heap.size W w') := HC1.out
                    clear hr HC1
                    generalize (⟨(l.getD i1 default).per.toArray⟩ : ByteArray) = z0 at HP1 HC2
                    generalize (⟨(l.getD i1 default).dev.toArray⟩ : ByteArray) = z1 at HP1 HC2
                    generalize (l.getD i1 default).st = z2 at HP1 HC2
                    generalize (l.getD i1 default).at_ = z3 at HP1 HC2
                    generalize (l.getD i1 default).til = z4 at HP1 HC2
                    generalize (⟨(l.getD i1 default).note.toArray⟩ : ByteArray) = z5 at HP1 HC2
                    have HCE : Hid (∀ W9, Below w7.drew.heap.size w7.drew W9 → (W9.cell? ⟨g, i1 * 6, none⟩ = some (.string z0) ∧ W9.cell? ⟨g, i1 * 6 + 1, none⟩ = some (.string z1) ∧ W9.cell? ⟨g, i1 * 6 + 2, none⟩ = some (.int .i64 z2) ∧ W9.cell? ⟨g, i1 * 6 + 3, none⟩ = some (.int .i64 z3) ∧ W9.cell? ⟨g, i1 * 6 + 4, none⟩ = some (.int .i64 z4) ∧ W9.cell? ⟨g, i1 * 6 + 5, none⟩ = some (.string z5)) ∧ (W9.cell? ⟨B, 0, none⟩ = some (.string b0) ∧ W9.cell? ⟨B, 1, none⟩ = some (.string b1) ∧ W9.cell? ⟨B, 2, none⟩ = some (.int .i64 x2) ∧ W9.cell? ⟨B, 3, none⟩ = some (.int .i64 x3) ∧ W9.cell? ⟨B, 4, none⟩ = some (.int .i64 x4) ∧ W9.cell? ⟨B, 5, none⟩ = some (.string b5))) := fun W9 hW => ⟨HP1.out W9 (ext_trans HBD.out hW), ⟨(XD.out.below hW).cell 0 rfl, (XD.out.below hW).cell 1 rfl, (XD.out.below hW).cell 2 rfl, (XD.out.below hW).cell 3 rfl, (XD.out.below hW).cell 4 rfl, (XD.out.below hW).cell 5 rfl⟩⟩
                    clear HP1
                    as_aux_lemma =>
                      refine region_seqI (S := fun W9 => Below w7.drew.heap.size w7.drew W9) [(true, 0), (true, 1), (true, 2), (true, 3), (true, 4), (true, 5), (true, 6), (true, 7), (true, 8), (false, 9), (true, 10), (true, 11), (true, 12)] (by kernel_rfl) (by kernel_rfl) rfl (by kernel_rfl) (Below.refl _ _) ?_
                      generalize w7.drew = wd at XD HBD HCE ⊢
                      simp only [seqOps, List.getD_cons_zero, List.getD_cons_succ]
                      refine seqI_take (v := .int .i64 i) rfl (fun W9 hW => by clear hW; go_simp) (fun _ _ _ h => h) ?_
                      simp only [Act.put, List.setIfInBounds_toArray, List.set_cons_zero, List.set_cons_succ]
                      refine seqI_take (v := .bool true) rfl (fun W9 hW => by clear hW; go_simp; exact HIP.out) (fun _ _ _ h => h) ?_
                      simp only [Act.put, List.setIfInBounds_toArray, List.set_cons_zero, List.set_cons_succ]
                      refine seqI_take (v := .bool true) rfl (fun W9 hW => by clear hW; go_simp) (fun _ _ _ h => h) ?_
                      simp only [Act.put, List.setIfInBounds_toArray, List.set_cons_zero, List.set_cons_succ]
                      refine seqI_take (v := .slice (some ⟨g, 0, none⟩) n cap) rfl (fun W9 hW => by clear hW; go_simp) (fun _ _ _ h => h) ?_
                      simp only [Act.put, List.setIfInBounds_toArray, List.set_cons_zero, List.set_cons_succ]
                      refine seqI_take (v := .int .i64 i) rfl (fun W9 hW => by clear hW; go_simp) (fun _ _ _ h => h) ?_
                      simp only [Act.put, List.setIfInBounds_toArray, List.set_cons_zero, List.set_cons_succ]
                      refine seqI_take (v := .int .i64 i1) rfl (fun W9 hW => by clear hW; go_simp) (fun _ _ _ h => h) ?_
                      simp only [Act.put, List.setIfInBounds_toArray, List.set_cons_zero, List.set_cons_succ]
                      refine seqI_take (v := .pointer (some ⟨g, i1 * 6, none⟩)) rfl (fun W9 hW => by clear hW; go_simp) (fun _ _ _ h => h) ?_
                      simp only [Act.put, List.setIfInBounds_toArray, List.set_cons_zero, List.set_cons_succ]
                      refine seqI_take (v := .agg #[.string z0, .string z1, .int .i64 z2, .int .i64 z3, .int .i64 z4, .string z5]) rfl (fun W9 hW => by obtain ⟨⟨p0, p1, p2, p3, p4, p5⟩, ⟨q0, q1, q2, q3, q4, q5⟩⟩ := HCE.out W9 hW; clear hW; go_simp) (fun _ _ _ h => h) ?_
                      simp only [Act.put, List.setIfInBounds_toArray, List.set_cons_zero, List.set_cons_succ]
                      refine seqI_take (v := .agg #[.string b0, .string b1, .int .i64 x2, .int .i64 x3, .int .i64 x4, .string b5]) rfl (fun W9 hW => by obtain ⟨⟨p0, p1, p2, p3, p4, p5⟩, ⟨q0, q1, q2, q3, q4, q5⟩⟩ := HCE.out W9 hW; clear hW; go_simp) (fun _ _ _ h => h) ?_
                      simp only [Act.put, List.setIfInBounds_toArray, List.set_cons_zero, List.set_cons_succ]
                      refine seqI_call _ _ rfl (by go_simp) (HC2.out wd) ?_
                      rintro e w9 ⟨rfl, hb⟩
                      have HB9 := Lib.hid (ext_trans HBD.out hb)
                      refine ⟨_, rfl, hb, ?_⟩
                      simp only [Act.put, List.setIfInBounds_toArray, List.set_cons_zero, List.set_cons_succ]
                      clear hb HCE XD HBD HC2
                      have hr0 : r < 0 := by
                        rw [HR.out, HX.out, HI1.out]
                        exact HOK.out.asc i1 (by have := HN.out; have := HI1.out; omega)
                      have hr1 : ¬ (0 ≤ r) := by omega
                      refine seqI_take (v := .bool false) rfl (fun W9 hW => by clear hW; go_simp) (fun _ _ _ h => h) ?_
                      simp only [Act.put, List.setIfInBounds_toArray, List.set_cons_zero, List.set_cons_succ]
                      refine seqI_take (v := .bool false) rfl (fun W9 hW => by clear hW; go_simp) (fun _ _ _ h => h) ?_
                      simp only [Act.put, List.setIfInBounds_toArray, List.set_cons_zero, List.set_cons_succ]
                      refine seqI_take (v := .bool false) rfl (fun W9 hW => by clear hW; go_simp) (fun _ _ _ h => h) ?_
                      simp only [Act.put, List.setIfInBounds_toArray, List.set_cons_zero, List.set_cons_succ]
                      refine seqI_nil ?_
                      as_aux_lemma =>
                        go_wp2_with fail
                        go_roundw
                        case rel => exact ⟨i + 1, by omega, by go_num, HB9.out⟩
                        case measure => simp [intOf]; omega
end Go.Proofs.YtamoclofloijpaaGreatDoor

set_option linter.unusedVariables false
set_option linter.unusedSimpArgs false
namespace Go.Proofs.YtamoclofloijpaaGreatDoor
open Go.RowKit Go.Sort Go.Lib

def stBPost (base : Nat) (v : Value) (l : List Vbcn) (w : World) (e : Ending) (w' : World) : Prop := e = .returned (.tuple #[]) ∧ VbcnRow w' base v l ∧ w.grownBy w' v.ownBlock
theorem stB_lays (blk size : Nat) (w : World) : CmpLays Tryz.prog 55 #[] Vbcn.cells 6 bcnOrd blk 0 size w := fun m os dk _ x y => bcnOrd_any x y _
/-- Nothing is sorted. -/
theorem stB_nil (c : Nat) (a : Option Addr) (fv : Value) (w : World) : Calls Tryz.prog 157 #[.slice a 0 c, .int .i64 0, .int .i64 0, fv] w fun e w' => e = .returned (.tuple #[]) ∧ w = w' := by
  go_enter Tryz.func157, Tryz.ntmps157
  go_wp2_with fail
  go_loopw [8] (fun i wr => i = .int .i64 1 ∧ wr = w) (fun _ _ => 0)
  case atStart => exact ⟨rfl, rfl⟩
  case round =>
    obtain ⟨rfl, rfl⟩ := hrel
    go_wp2_with fail
    go_end0
    exact ⟨rfl, rfl⟩
theorem stB_any (w : World) (base : Nat) (v : Value) (l : List Vbcn) (h : VbcnRow w base v l) (hl : l.length ≤ 12) : Calls Tryz.prog 54 #[v, .func (.func 55) #[] #[]] w (stBPost base v (insL (ltOf bcnOrd) l) w) := by
  unfold VbcnRow at h
  obtain ⟨a, c, rfl⟩ := own_shape h
  have HINS : Hid (Calls Tryz.prog 157 #[.slice a l.length c, .int .i64 0, .int .i64 l.length, .func (.func 55) #[] #[]] w (stBPost base (.slice a l.length c) (insL (ltOf bcnOrd) l) w)) := by
    show Calls _ _ _ _ _
    by_cases h0 : l.length = 0
    · have hx : l = [] := List.eq_nil_of_length_eq_zero h0
      subst hx
      have e1 : insL (ltOf bcnOrd) ([] : List Vbcn) = [] := by unfold insL insertionSort insOuter; simp
      rw [e1]
      refine (stB_nil c a _ w).mono ?_
      rintro e w' ⟨rfl, rfl⟩
      exact ⟨rfl, h, gb_of_below (Below.refl _ _)⟩
    · obtain ⟨g, rfl, hg1, hg2⟩ := own_pos h (by omega)
      have hcon := Tryz.slices_insVbcn Vbcn.cells (fun _ => rfl) bcn_one bcnOrd 55 #[] g 0 c 0 l.length l.toArray w (enters_of Tryz.func55 (by kernel_rfl) rfl) (stB_lays g _ w) (holdsK_own Vbcn.cells (fun _ => rfl) (by omega) h) hg2 (Nat.zero_le _) (by simp) (by simp; omega)
      refine Calls.mono hcon ?_
      rintro e w' ⟨rfl, q, os, rfl⟩
      rw [insL_arr]
      refine ⟨rfl, ?_, gb_sortKA Vbcn.cells 6 w g q _ os⟩
      unfold VbcnRow
      rw [insL_len]
      exact own_putK Vbcn.cells (fun _ => rfl) (by omega) h (insL_len _ _) q os
  have hl12 := hl
  clear h
  have HPR : Hid (∀ e W2, stBPost base (.slice a l.length c) (insL (ltOf bcnOrd) l) w e W2 → e = .returned (.tuple #[]) ∧ Hid (stBPost base (.slice a l.length c) (insL (ltOf bcnOrd) l) w (.returned (.tuple #[])) W2)) := fun e W2 h => ⟨h.1, by obtain ⟨rfl, h2⟩ := h; exact ⟨rfl, h2⟩⟩
  generalize hPP : stBPost base (.slice a l.length c) (insL (ltOf bcnOrd) l) w = PP at HINS HPR ⊢
  clear hPP
  generalize l.length = n at HINS hl12 ⊢
  clear hl
  have HSTB : Hid (Calls Tryz.prog 98 #[.slice a n c, .int .i64 n, .func (.func 55) #[] #[]] w fun e w' => e = .returned (.tuple #[]) ∧ PP (.returned (.tuple #[])) w') := by
    show Calls _ _ _ _ _
    have q1 : ¬ ((20 : Int) ≤ (n : Int)) := by omega
    have q2 : ¬ ((20 : Int) < (n : Int)) := by omega
    go_enter Tryz.func98, Tryz.ntmps98
    go_wp2_with fail
    go_loopw [7, 8] (fun a b wr => a = .int .i64 0 ∧ b = .int .i64 20 ∧ wr = w) (fun _ _ _ => 0)
    case atStart => exact ⟨rfl, rfl, rfl⟩
    case round =>
      obtain ⟨rfl, rfl, rfl⟩ := hrel
      go_wp2_with fail
      refine HINS.out.mono ?_
      rintro e W2 hp
      obtain ⟨rfl, HPW⟩ : e = .returned (.tuple #[]) ∧ Hid (PP (.returned (.tuple #[])) W2) := HPR.out e W2 hp
      go_wp2_with fail
      go_loopw [6] (fun a wr => a = .int .i64 20 ∧ wr = W2) (fun _ _ => 0)
      case atStart => exact ⟨rfl, rfl⟩
      case round =>
        obtain ⟨rfl, rfl⟩ := hrel
        go_wp2_with fail
        go_end0
        exact ⟨rfl, HPW.out⟩
  clear HINS
  go_enter Tryz.func54, Tryz.ntmps54
  go_wp2_with fail
  refine HSTB.out.mono ?_
  rintro e w' ⟨rfl, hp⟩
  have HP := Lib.hid hp
  clear hp
  go_wp2_with fail
  go_end0
  exact HP.out
end Go.Proofs.YtamoclofloijpaaGreatDoor
