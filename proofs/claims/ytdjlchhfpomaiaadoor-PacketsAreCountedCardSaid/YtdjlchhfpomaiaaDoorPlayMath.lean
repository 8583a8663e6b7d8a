/- What is proved here: playing packets, on lists. No condition. -/
import Derived.Test.YtdjlchhfpomaiaaDoorArrive
import Derived.Test.YtdjlchhfpomaiaaDoorMediaMath
set_option linter.unusedVariables false
set_option linter.unusedSimpArgs false
namespace Go.Proofs.YtdjlchhfpomaiaaDoor

/-- One byte is put at place i, if there is such a place and nothing is there. -/
def putI (st : List Int × List Bool) (i : Int) (b : Int) : List Int × List Bool :=
  if 0 ≤ i ∧ i < st.1.length ∧ st.2.getD i.toNat true = false then (st.1.set i.toNat (expandI b), st.2.set i.toNat true) else st
def payTo (from_ : Int) (pay : List Int) (st : List Int × List Bool) : Nat → List Int × List Bool
  | 0 => st
  | k + 1 => putI (payTo from_ pay st k) (from_ + k) (pay.getD k 0)
def lateB (l : List Arr) (delay : Int) (k : Nat) : Bool := decide ((l.getD 0 noArr).at_ + delay + apartI (l.getD k noArr).p.time (l.getD 0 noArr).p.time / 8 < (l.getD k noArr).at_)
def playTo (l : List Arr) (delay : Int) (st : List Int × List Bool) : Nat → List Int × List Bool
  | 0 => st
  | k + 1 => if lateB l delay k then playTo l delay st k else payTo (apartI (l.getD k noArr).p.time (l.getD 0 noArr).p.time) (l.getD k noArr).p.pay (playTo l delay st k) (l.getD k noArr).p.pay.length
/-- What is missing is made of what was heard before. -/
def hideTo (ts : List Bool) (os : List Int) : Nat → List Int
  | 0 => os
  | k + 1 => if ts.getD k true = false ∧ 160 ≤ k then (hideTo ts os k).set k ((hideTo ts os k).getD (k - 160) 0 |>.tdiv 2) else hideTo ts os k

theorem payTo_fits (A : List Int) (pay : List Int) (R : Nat) : ∀ j, j ≤ pay.length → j ≤ R → payTo A.length pay (A ++ List.replicate R 0, List.replicate A.length true ++ List.replicate R false) j = (A ++ (pay.take j).map expandI ++ List.replicate (R - j) 0, List.replicate (A.length + j) true ++ List.replicate (R - j) false)
  | 0, _, _ => by simp [payTo]
  | j + 1, h1, h2 => by
    rw [payTo, payTo_fits A pay R j (by omega) (by omega)]
    have hl : ((pay.take j).map expandI).length = j := by simp; omega
    have e1 : ((A.length : Int) + (j : Int)).toNat = A.length + j := by omega
    have hR : R - j = (R - (j + 1)) + 1 := by omega
    have ht : pay.take (j + 1) = pay.take j ++ [pay.getD j 0] := by
      rw [List.take_succ_eq_append_getElem (by omega)]; simp [show j < pay.length by omega]
    unfold putI
    rw [if_pos ⟨by omega, by simp [hl]; omega, by rw [e1]; simp [List.getD_eq_getElem?_getD, List.getElem?_append, List.getElem?_replicate, show 0 < R - j by omega]⟩]
    rw [e1, hR, List.replicate_succ, List.replicate_succ]
    refine Prod.ext ?_ ?_
    · simp only
      have hA : (A ++ (pay.take j).map expandI).length = A.length + j := by rw [List.length_append, hl]
      rw [List.set_append_right _ _ (by rw [hA]; exact Nat.le_refl _), hA, Nat.sub_self, List.set_cons_zero, ht]
      simp
    · simp only
      rw [List.set_append_right _ _ (by simp), show A.length + j - (List.replicate (A.length + j) true).length = 0 by simp, List.set_cons_zero]
      rw [show A.length + (j + 1) = (A.length + j) + 1 by omega, List.replicate_succ' (n := A.length + j)]
      simp
end Go.Proofs.YtdjlchhfpomaiaaDoor
