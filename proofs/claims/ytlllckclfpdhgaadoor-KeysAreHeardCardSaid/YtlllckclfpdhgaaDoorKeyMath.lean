/- What is proved here: keys in sound, on lists: tones, their strengths. No condition. -/
import Derived.WalkKit
namespace Go.Proofs.YtlllckclfpdhgaaDoor
open Go.RowKit

def stepI (c : Int) (p : Int × Int) (x : Int) : Int × Int := (wrap64 (wrap64 (x / 8 + wrap64 (c * p.1) / 16384) - p.2), p.1)
def strI (c : Int) (l : List Int) : Int := let p := l.foldl (stepI c) (0, 0); wrap64 (wrap64 (wrap64 (p.1 * p.1) + wrap64 (p.2 * p.2)) - wrap64 (wrap64 (c * p.1) / 16384 * p.2))
/-- The numbers from the i-th on, of which the two before are given. -/
def humS (c : Int) : Nat → Int × Int → List Int
  | 0, _ => []
  | n + 1, (a, b) => a :: humS c n (b, wrap64 (wrap64 (c * b) / 16384 - a))
def humI (c : Int) (n : Nat) : List Int := humS c n (0, c / 8)
def rowsI : List Int := [27980, 26956, 25701, 24219]
def colsI : List Int := [19073, 16325, 13085, 9315]
/-- The place of the greatest, the first of such. -/
def bestTo (a : List Int) : Nat → Nat
  | 0 => 0
  | k + 1 => if a.getD (bestTo a k) 0 < a.getD k 0 then k else bestTo a k
def noneNear (a : List Int) (b : Nat) : Nat → Bool
  | 0 => true
  | k + 1 => noneNear a b k && (k == b || decide (¬ a.getD b 0 < wrap64 (6 * a.getD k 0)))
def strongI (ns l : List Int) : Nat × Bool :=
  let a := ns.map (fun c => strI c l)
  let b := bestTo a a.length
  if noneNear a b a.length then (b, decide (4000000 ≤ a.getD b 0)) else (0, false)
def classI (l : List Int) : Int := let r := strongI rowsI l; let c := strongI colsI l; if r.2 && c.2 then 4 * r.1 + c.1 else -1
def toneI (k n : Nat) : List Int := List.zipWith (fun a b => wrap64 (a + b)) (humI (rowsI.getD (k / 4) 0) n) (humI (colsI.getD (k % 4) 0) n)
end Go.Proofs.YtlllckclfpdhgaaDoor
