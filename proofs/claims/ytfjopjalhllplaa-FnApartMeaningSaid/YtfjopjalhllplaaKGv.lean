/- When a gate is valid: plain words. -/
import Derived.Test.YtfjopjalhllplaaProg
namespace Go.Proofs.Ytfjopjalhllplaa
def arity (k : Int) : Int := if 1 ≤ k ∧ k ≤ 8 then 1 else if 9 ≤ k ∧ k ≤ 11 then 2 else if k = 12 then 3 else 0
def okQ (ar n : Int) : Nat → List Int → List Int → Bool
  | i, [], seen => true
  | i, q :: r, seen => if ar ≤ i then (q == 0) && okQ ar n (i + 1) r seen else (decide (0 ≤ q ∧ q ≤ n - 1) && !seen.contains q) && okQ ar n (i + 1) r (q :: seen)
def ivg (k a b c n : Int) : Bool := (decide (1 ≤ n ∧ n ≤ 4) && !(arity k == 0)) && okQ (arity k) n 0 [a, b, c] []
end Go.Proofs.Ytfjopjalhllplaa
