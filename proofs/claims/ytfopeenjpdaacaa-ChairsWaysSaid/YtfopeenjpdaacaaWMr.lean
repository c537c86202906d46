-- One word of the print's last part.
import Derived.Test.YtfopeenjpdaacaaWApart
namespace Go.Proofs.YtfopeenjpdaacaaW.PrintMore
open Go.RowKit Go.Proofs.YtfopeenjpdaacaaW.PrintWords
namespace Kd
open Go.Proofs.YtfopeenjpdaacaaW.PrintWords.Kd
variable {α : Type} {d : Kd α} {e base b b' g N : Nat} {ok ok1 : Nat → Prop} {W W2 w1 : World} {u v : Value} {xs ys : List α} {S : Nat → Prop}
theorem R_reok (hE : d.E = []) (h : d.R e W base ok1 v xs) (hok : ∀ k, v.ownBlock = some k → ok k) : d.R e W base ok v xs := R_mono (R_tight hE h) (fun k hk => hok k hk.symm)
end Kd
end Go.Proofs.YtfopeenjpdaacaaW.PrintMore
