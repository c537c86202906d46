-- One word of the print's last part.
import Derived.Test.YtfopeenjpdaacaaWKept
namespace Go.Proofs.YtfopeenjpdaacaaW.PrintWords
open Go.RowKit
section
variable {w w' u : World} {m B g : Nat} {o : Obj} {row : Option Nat} {S : Nat → Prop} {a : Addr} {v : Value}
theorem kept_at (hq : w.drewN m = w') (h : Kept u w S) : Kept u w' S := by subst hq; exact Kept.drewN h m
end
end Go.Proofs.YtfopeenjpdaacaaW.PrintWords
