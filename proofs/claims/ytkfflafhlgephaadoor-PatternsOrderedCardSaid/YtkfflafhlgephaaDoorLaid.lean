/- What is proved here: what the rows' condition on the listed tables gives the walks; what a slice of integers that came in gives them. No further condition. -/
import Derived.Test.YtkfflafhlgephaaDoorRows
import Derived.Test.YtkfflafhlgephaaDoorTie
import Derived.Test.YtkfflafhlgephaaDoorCards
import Derived.Test.YtkfflafhlgephaaDoorReady
import Derived.Test.YtkfflafhlgephaaDoorStream
import Derived.ProofKit
import Derived.OpenShut
import Derived.ShutString
import Derived.ChangeOld
import Derived.LaidMore
import Derived.Lay
import Derived.Lib.LaidU8
import Derived.SevenTiedAt
namespace Go.Proofs.YtkfflafhlgephaaDoor
open Go.ChangeShapes Go.WideShapes Go.ChangeAt Go.RowKit
set_option linter.unusedVariables false

theorem own : ownKnob Tryd.prog.godebug = none := by kernel_rfl
theorem laidOut : laidOutB Tryd.prog = true := by kernel_rfl

/-- The listed variables. -/
abbrev laid3 : List (String × DataW Unit) := [("math/bits.deBruijn32tab", Rows.laid_math_bits_deBruijn32tab), ("unicode/utf8.acceptRanges", Rows.laid_unicode_utf8_acceptRanges), ("unicode/utf8.first", Rows.laid_unicode_utf8_first)]

theorem gTab : Tryd.prog.globalNamed "math/bits.deBruijn32tab" = some 0 := by kernel_rfl
theorem tTab : (Tryd.prog.globals[0]?).map (·.type) = some 171 := by kernel_rfl
theorem cByte : Tryd.prog.cellsOf 5 = 1 := by kernel_rfl

theorem tab_of_laid {W : World} (h : laidMetH Tryd.prog laid3 W) : TabAt W := by
  rw [MakeChecks.laidMetH_plain _ _ _ (by kernel_rfl)] at h
  obtain ⟨g, t, cs, fuel, p, hg, ht, hv, hd⟩ := Lib.laidMet.reads h (List.mem_cons_self ..)
  obtain rfl := Option.some.inj (gTab.symm.trans hg)
  obtain rfl := Option.some.inj (tTab.symm.trans ht)
  obtain ⟨xs, m, rfl, hx, hlen, hn, hel⟩ := DataW.trod_array Tryd.underlying171 hd
  have hxs : xs.map (·.1) = tabL.map (fun z => (DataW.lit (.int .u8 z) : DataW Unit)) := by
    have := congrArg Prod.fst hx
    simp only [Rows.laid_math_bits_deBruijn32tab, DataW.agg.injEq] at this
    exact this.symm
  have key : ∀ i, i < 32 → W.cell? ⟨0, i, none⟩ = some (.int .u8 (tabL.getD i 0)) := by
    intro i hi
    have h1 := hel i hi
    obtain ⟨b, hb⟩ : ∃ b, xs[i]? = some b := ⟨xs[i]'(by omega), List.getElem?_eq_getElem (by omega)⟩
    rw [hb, cByte] at h1
    obtain ⟨z, hcz, hbz, _⟩ := DataW.trod_int Tryd.underlying5 h1
    have h2 : cs[i]? = some (.int .u8 z) := by
      have := congrArg (·[0]?) hcz
      simpa [List.getElem?_take, List.getElem?_drop] using this
    have h3 : (xs.map (·.1))[i]? = some (DataW.lit (.int .u8 z) : DataW Unit) := by simp [hb, hbz]
    rw [hxs] at h3
    simp only [List.getElem?_map, Option.map_eq_some_iff, DataW.lit.injEq, Lit.int.injEq, true_and] at h3
    obtain ⟨z', hz', rfl⟩ := h3
    rw [World.var?_cell hg hv i, h2]
    simp [List.getD_eq_getElem?_getD, hz']
  refine ⟨?_, key⟩
  have := key 0 (by omega)
  rcases Nat.lt_or_ge 0 W.heap.size with h | h
  · exact h
  · simp [World.cell?, Array.getElem?_eq_none h] at this
end Go.Proofs.YtkfflafhlgephaaDoor
