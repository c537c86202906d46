/- The product of two diagrams, as the program makes it: plain. -/
import Derived.Test.YtjfkompfkgjdaaaPCx0
namespace Go.Proofs.Ytjfkompfkgjdaaa.PC
open Go.RowKit Go.Proofs.YtjfkompfkgjdaaaW.PrintWords Go.Proofs.YtjfkompfkgjdaaaW.PrintLast Go.Proofs.YtjfkompfkgjdaaaW.PrintMore
/-- the way through the strands from a point to an outer point; a middle point is seen once on its way -/
def plait_way (d o : List Int) (n : Nat) : Nat → Bool → Int → List Bool → Option (Int × List Bool)
  | 0, _, _, _ => none
  | k + 1, up, p, T =>
    if 0 ≤ p ∧ p < (d.length : Int) then
      (if up = decide ((if up = true then rd d p else rd o p) < (n : Int)) then some (if up = true then rd d p else rd o p, T)
       else if 0 ≤ (if up = true then rd d p else rd o p) ∧ 0 < n then
         plait_way d o n k (!up) (if up = true then (if up = true then rd d p else rd o p) % (n : Int) else (if up = true then rd d p else rd o p) % (n : Int) + (n : Int)) (T.set ((if up = true then rd d p else rd o p) % (n : Int)).toNat true)
       else none)
    else none
def plait_ways (d o : List Int) (n : Nat) : Nat → Nat → List Int → List Bool → Option (List Int × List Bool)
  | 0, _, out, T => some (out, T)
  | k + 1, i, out, T => (plait_way d o n (2 * n + 2) true (i : Int) T).bind fun a => (plait_way d o n (2 * n + 2) false (((n + i : Nat)) : Int) a.2).bind fun b => plait_ways d o n k (i + 1) ((out.set i a.1).set (n + i) b.1) b.2
/-- once around a loop in the middle -/
def plait_round (d o : List Int) (n : Nat) : Nat → Int → List Bool → Option (List Bool)
  | 0, _, _ => none
  | k + 1, at_, T =>
    if 0 ≤ at_ ∧ at_ < (n : Int) then
      (if T.getD at_.toNat false = true then some T
       else if 0 ≤ rd o at_ ∧ rd o at_ < (n : Int) then plait_round d o n k (wrap64 (rd d (rd o at_ + (n : Int)) - (n : Int))) ((T.set at_.toNat true).set (rd o at_).toNat true)
       else none)
    else none
def plait_loops (d o : List Int) (n : Nat) : Nat → Nat → Nat → List Bool → Option Nat
  | 0, _, many, _ => some many
  | k + 1, i, many, T => if T.getD i false = true then plait_loops d o n k (i + 1) many T else (plait_round d o n (n + 1) (i : Int) T).bind fun T' => plait_loops d o n k (i + 1) (many + 1) T'
end Go.Proofs.Ytjfkompfkgjdaaa.PC
