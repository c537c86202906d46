/- What the program and the specification say of a string as an arch system. -/
import Derived.Test.YtjfkompfkgjdaaaLPart
import Derived.Test.YtjfkompfkgjdaaaPCg6
namespace Go.Proofs.Ytjfkompfkgjdaaa.L
open Go.RowKit Go.Proofs.Ytjfkompfkgjdaaa.PC Go.Proofs.YtjfkompfkgjdaaaW.PrintWords Go.Proofs.YtjfkompfkgjdaaaW.PrintLast
theorem sys_ev (s : ByteArray) (b : Bool) (o : List Int) (h : Ev (fun k => pomaderef07_partners.f k s) (o, b)) : Ev (fun k => pomaderef07_System.f k s) (if s.size > 24 then 3 else if b = true then 0 else 5) := by
  by_cases c : s.size > 24
  · rw [if_pos c]
    exact Ev.congr (fun k => by unfold pomaderef07_System.f; rw [if_pos (by omega)]) (Ev.now _)
  · rw [if_neg c]
    refine Ev.congr (fun k => by unfold pomaderef07_System.f; rw [if_neg (by omega)]) (Ev.bind h ?_)
    by_cases d : b = true
    · simp only [d, if_true]; exact Ev.now _
    · simp only [d]; exact Ev.now _
/-- what partners and System say of a string -/
theorem part_sys (s : ByteArray) (hs : s.size ≤ 1000) : ∃ (e : Int) (p o : List Int) (b : Bool), Ev (fun k => plait_partners.f k s) (p, e) ∧ Ev (fun k => pomaderef07_System.f k s) e ∧ Ev (fun k => pomaderef07_partners.f k s) (o, b) ∧ (e = 0 → Arch s o ∧ p = o) := by
  rcases partners_both s hs with ⟨o, hA, h1, h2⟩ | ⟨o, h1, h2⟩
  · have h3 := sys_ev s true o h2
    by_cases c : s.size > 24
    · rw [if_pos c] at h1 h3
      exact ⟨3, _, _, _, h1, h3, h2, fun h => by omega⟩
    · rw [if_neg c] at h1 h3
      rw [if_pos rfl] at h3
      exact ⟨0, _, _, _, h1, h3, h2, fun _ => ⟨hA, rfl⟩⟩
  · have h3 := sys_ev s false o h2
    by_cases c : s.size > 24
    · rw [if_pos c] at h1 h3
      exact ⟨3, _, _, _, h1, h3, h2, fun h => by omega⟩
    · rw [if_neg c] at h1 h3
      rw [if_neg (by decide)] at h3
      exact ⟨5, _, _, _, h1, h3, h2, fun h => by omega⟩
end Go.Proofs.Ytjfkompfkgjdaaa.L
