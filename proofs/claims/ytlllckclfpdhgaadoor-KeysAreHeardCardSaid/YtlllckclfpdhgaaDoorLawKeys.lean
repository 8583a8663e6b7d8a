/- What is proved here: the walk of the statement KeysAreHeard: it answers true. Condition: the slice that came in lies in memory, and a table of the library as its initialiser lays it. -/
import Derived.Test.YtlllckclfpdhgaaDoorKeyLaw
import Derived.Test.YtlllckclfpdhgaaDoorReady
namespace Go.Proofs.YtlllckclfpdhgaaDoor
open Go.RowKit
set_option linter.unusedVariables false
set_option linter.unusedSimpArgs false

set_option maxRecDepth 100000 in
set_option maxHeartbeats 4000000 in
theorem keys_true (w : World) (a : Option Addr) (len cap : Nat) (zs : List Int) (hr : ArgRow w a len cap zs) (ht : TabAt w) :
    Calls Tryd.prog 7 #[.slice a len cap] w fun e w' => e = .returned (.bool true) ∧ Below w.heap.size w w' := by
  have hst := stream_start hr
  have HT := Lib.hid ht
  have HS0 := Lib.hid hst
  clear hr ht hst
  go_enter Tryd.func7, Tryd.ntmps7
  go_wp2_with fail
  refine (keyTones_any w.heap.size 0 _ HS0.out (by omega)).mono ?_
  rintro e w1 ⟨segs, v, hok, hlen, rfl, hown, hst1, hkp1⟩
  have hsl := soundI_length_le segs hok
  have hl : (soundI segs).length ≤ 20000 := by omega
  obtain ⟨av, cv, hv, hrow⟩ := IRow.of_own hown
  have hcap : (soundI segs).length ≤ cv ∧ cv ≤ 9223372036854775807 := by
    rcases hown.2 with ⟨h1, h2⟩ | ⟨g, c, cu, h1, _, _, h2, h3, _⟩
    · rw [hv] at h1; injection h1 with _ h4 h5; omega
    · rw [hv] at h1; injection h1 with _ _ h5; unfold maxLen at h3; omega
  have HK1 := Lib.hid hkp1
  have HTX := Lib.hid (heard_text segs hok)
  have hcon := fun w' (hw : Below w1.heap.size w1 w') => keys_any w' av _ cv (soundI segs) (hrow.below hw) (sound_samples segs hok) hl hcap.1 hcap.2
  have HCON := Lib.hid hcon
  subst hv
  clear hown hst1 hkp1 hrow hcon hok hsl
  go_wp2_with fail
  refine (HCON.out _ (Below.refl _ _)).mono ?_
  rw [HTX.out]
  rintro e w2 ⟨rfl, hb2⟩
  have HT2 : Hid (TabAt w2) := (HT.out.below (ext_alloc (Below.refl _ _))).keeps (HK1.out.ext hb2) (by have := HT.out.1; omega)
  have HK2 := Lib.hid (HK1.out.ext hb2)
  clear hb2
  go_wp2_with fail
  refine (ready_true _ HT2.out).mono ?_
  rintro e w9 ⟨rfl, hB9⟩
  go_wp2_with fail
  go_ret
  exact ⟨rfl, law_end (HK2.out.ext hB9)⟩
end Go.Proofs.YtlllckclfpdhgaaDoor
