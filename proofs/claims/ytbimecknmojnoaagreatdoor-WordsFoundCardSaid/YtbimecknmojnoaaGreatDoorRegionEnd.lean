/- What is proved here: a region that draws its order and whose last operation waits for all the others, in a forced order. No condition beyond those stated. -/
import Derived.Test.YtbimecknmojnoaaGreatDoorRegionSeq
namespace Go.Proofs.YtbimecknmojnoaaGreatDoor

section
variable {P : Program} {Q : Exit → Act → World → Prop}
/-- **A region that draws, in a forced order, its last operation behind the others**: S need not hold behind that one. -/
theorem region_lastI {S : World → Prop} {id : Nat} {L : List Oper} {st : Oper} {a : Act} {w : World} (l : List (Bool × Nat)) (hm : P.follows .mixedOrders = true) (hst : L.getLast? = some st) (hg : st.guard = none) (hc : lastChk L.toArray (L.length - 1) = true)
    (hs : Region.noSelect L.dropLast.toArray = true) (hlen : l.length = L.length - 1) (hok : seqOkI L.dropLast.toArray l (Array.replicate (L.length - 1) false) = true)
    (hS : S w.drew) (h : wpSeqI P L.dropLast.toArray (lastQ P st Q) S (seqOps L.dropLast l) a w.drew) : (Code.region id L.toArray true).wp P Q a w := by
  have hd : L.dropLast.toArray.size = L.length - 1 := by simp
  refine region_last_held (S := S) (ops' := L.dropLast.toArray) (st := st) hm ?_ hg (by rw [hd]; exact hc) hS fun hS => ?_
  · obtain ⟨hne, he⟩ : ∃ hne : L ≠ [], L.getLast hne = st := by
      cases L with
      | nil => simp at hst
      | cons x xs => exact ⟨by simp, by rw [List.getLast?_eq_some_getLast (by simp)] at hst; exact Option.some.inj hst⟩
    have := List.dropLast_concat_getLast hne
    rw [he] at this
    conv => lhs; rw [← this]
    simp
  · have hok' : seqOkI L.dropLast.toArray l (Array.replicate L.dropLast.toArray.size false) = true := by rw [hd]; exact hok
    have hl : L.dropLast.toArray.size = l.length := by rw [hd, hlen]
    have := seqI_held (Q := lastQ P st Q) hs l _ a _ hok' hS h
    rw [← hl] at this
    exact this
end
end Go.Proofs.YtbimecknmojnoaaGreatDoor
