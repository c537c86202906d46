/- Plait: PlaitHooks: Hooks returns what the specification returns. -/
import Derived.Test.YtjfkompfkgjdaaaLHook
import Derived.Test.YtjfkompfkgjdaaaPCf14
namespace Go.Proofs.Ytjfkompfkgjdaaa.L
open Go.RowKit Go.Proofs.Ytjfkompfkgjdaaa.PC Go.Proofs.YtjfkompfkgjdaaaW.PrintWords Go.Proofs.YtjfkompfkgjdaaaW.PrintLast Go.Proofs.Ytjfkompfkgjdaaa.G
theorem PlaitHooks_pure : pomadelaw07_PlaitHooks.Pure := by
  intro a0 w _ _ _ _
  refine Ev.rounds (g := fun k => pomadelaw07_PlaitHooks.f k a0 w) ?_
  by_cases c : (w.length : Int) > 300
  · exact Ev.congr (f := fun _ => some true) (fun k => by unfold pomadelaw07_PlaitHooks.f; rw [if_pos c]; rfl) (Ev.now _)
  · have hb : ∃ r : List Int × Int × Int, r.1.length ≤ 1000000 ∧ Ev (fun k => plait_Hooks.f k a0 w) r ∧ Ev (fun k => pomaderef07_Hooks.f k a0 w) r := by
      obtain ⟨e, h | ⟨_, n, _, _, hn, _, hw, h1, h2⟩⟩ := hooks_both a0 w
      · exact ⟨_, by simp, h.2.1, h.2.2⟩
      · exact ⟨_, (show (hkW n w w.length 0 (idL n) 0).1.length ≤ 1000000 from by have := (hkW_lm hw w.length 0 (idL n) 0 (by omega) (idL_lm n)).len; omega), h1, h2⟩
    obtain ⟨r, hl, h1, h2⟩ := hb
    refine Ev.congr (f := fun k => (plait_Hooks.f k a0 w).bind fun bt375 => ((pomaderef07_Hooks.f k a0 w).bind fun bt380 => ((pomadelaw07_same.f k bt375.1 bt380.1).bind fun t385 => (if t385 = true then (if bt375.2.1 = bt380.2.1 then (if bt375.2.2 = bt380.2.2 then ((pomadelaw07_alive.f).bind fun t386 => (some t386)) else (some false)) else (some false)) else (some false))))) (fun k => by unfold pomadelaw07_PlaitHooks.f; rw [if_neg c]) ?_
    refine Ev.bind h1 ?_
    refine Ev.bind h2 ?_
    refine Ev.bind (same_ev hl) ?_
    exact Ev.congr (f := fun _ => some true) (fun k => by rw [if_pos rfl, if_pos rfl, if_pos rfl]; rfl) (Ev.now _)
end Go.Proofs.Ytjfkompfkgjdaaa.L
namespace Go.Proofs.Ytjfkompfkgjdaaa.Pure
theorem PlaitHooks : Go.Proofs.Ytjfkompfkgjdaaa.PC.pomadelaw07_PlaitHooks.Pure := Go.Proofs.Ytjfkompfkgjdaaa.L.PlaitHooks_pure
end Go.Proofs.Ytjfkompfkgjdaaa.Pure
