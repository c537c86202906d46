/- Coin systems: one more coin. -/
import Derived.Test.YtgbalmjnjpfopaaLRef
import Derived.Test.YtgbalmjnjpfopaaLBest
import Derived.Test.YtgbalmjnjpfopaaPCf24
import Derived.Test.YtgbalmjnjpfopaaPCf25
namespace Go.Proofs.Ytgbalmjnjpfopaa.L
open Go.RowKit Go.Proofs.Ytgbalmjnjpfopaa.PC Go.Proofs.YtgbalmjnjpfopaaW.PrintWords Go.Proofs.YtgbalmjnjpfopaaW.PrintLast Go.Proofs.Ytgbalmjnjpfopaa.M

theorem rd_app_l (l : List Int) (a : Int) (i : Int) (h0 : 0 ≤ i) (h : i < l.length) : rd (l ++ [a]) i = rd l i := by
  unfold rd
  rw [List.getD_eq_getElem?_getD, List.getD_eq_getElem?_getD, List.getElem?_append_left (by omega)]
theorem rd_app_r (l : List Int) (a : Int) : rd (l ++ [a]) (l.length : Int) = a := by
  unfold rd
  rw [List.getD_eq_getElem?_getD, Int.toNat_natCast, List.getElem?_append_right (Nat.le_refl _)]
  simp
theorem sys_app {l : List Int} (h : Sys l) (a : Int) (h1 : l.length < 15) (h2 : rd l ((l.length : Int) - 1) < a) (h3 : a ≤ 5000) : Sys (l ++ [a]) := by
  obtain ⟨p, _, c, d⟩ := h
  have hl : (l ++ [a]).length = l.length + 1 := by simp
  refine ⟨by omega, by omega, by rw [rd_app_l l a 0 (by omega) (by omega)]; exact c, fun i i0 i1 => ?_⟩
  by_cases hi : i < (l.length : Int)
  · have := d i i0 hi
    refine ⟨by rw [rd_app_l l a i i0 hi]; exact this.1, fun g => ?_⟩
    rw [rd_app_l l a i i0 hi, rd_app_l l a (i - 1) (by omega) (by omega)]
    exact this.2 g
  · obtain rfl : i = (l.length : Int) := by omega
    refine ⟨by rw [rd_app_r]; exact h3, fun _ => ?_⟩
    rw [rd_app_r, rd_app_l l a _ (by omega) (by omega)]
    exact h2
open Classical in
/-- what Extend tells -/
noncomputable def extV (l : List Int) (a : Int) : Bool × Int :=
  if Sys l then (if a ≤ rd l ((l.length : Int) - 1) ∨ a > 5000 then (false, 4) else if l.length = 15 then (false, 8) else (RV (l ++ [a]) == 0, 0)) else (false, 2)
theorem ext_ev (l : List Int) (a : Int) : Ev (fun k => coins_Extend.f k l a) (extV l a) := by
  unfold extV
  by_cases hs : Sys l
  · rw [if_pos hs]
    refine Ev.bind ((valid_ev l).1 hs) ?_
    simp only [if_true]
    refine Ev.congr (fun k => if_pos ⟨hs.1, hs.2.1⟩) ?_
    by_cases h1 : a ≤ rd l ((l.length : Int) - 1)
    · rw [if_pos (Or.inl h1)]; exact Ev.congr (fun k => if_pos h1) (Ev.now _)
    refine Ev.congr (fun k => if_neg h1) ?_
    by_cases h2 : a > 5000
    · rw [if_pos (Or.inr h2)]; exact Ev.congr (fun k => if_pos h2) (Ev.now _)
    refine Ev.congr (fun k => if_neg h2) ?_
    rw [if_neg (by omega)]
    by_cases h3 : l.length = 15
    · rw [if_pos h3]; exact Ev.congr (fun k => if_pos h3) (Ev.now _)
    rw [if_neg h3]
    refine Ev.congr (fun k => if_neg h3) ?_
    have hs' := sys_app hs a (by have := hs.2.1; omega) (by omega) (by omega)
    exact Ev.bind (fails_ev _ hs' _ (RV_res hs')) (Ev.now _)
  · rw [if_neg hs]
    exact Ev.bind ((valid_ev l).2 hs) (Ev.now _)
theorem rext_ev (l : List Int) (a : Int) : Ev (fun k => pomaderef05_Extend.f k l a) (extV l a) := by
  unfold extV
  by_cases hs : Sys l
  · rw [if_pos hs]
    refine Ev.bind ((issys_ev l).1 hs) ?_
    simp only [if_true]
    have hl := hs.1
    have hl2 := hs.2.1
    have hw : wrap64 ((l.length : Int) - 1) = (l.length : Int) - 1 := w64 (by omega) (by omega)
    refine Ev.congr (fun k => by rw [hw, if_pos (by omega), if_pos (by omega)]) ?_
    by_cases h1 : a ≤ rd l ((l.length : Int) - 1)
    · rw [if_pos (Or.inl h1)]
      exact Ev.congr (fun k => if_pos h1) (Ev.step (fun k => by simp only [pomaderef05_Extend.j0]; rfl) (Ev.now _))
    refine Ev.congr (fun k => if_neg h1) ?_
    by_cases h2 : a > 5000
    · rw [if_pos (Or.inr h2)]
      exact Ev.step (fun k => by simp only [pomaderef05_Extend.j0]; rw [if_pos (by simpa using h2)]) (Ev.now _)
    rw [if_neg (by omega)]
    by_cases h3 : l.length = 15
    · rw [if_pos h3]
      exact Ev.step (fun k => by simp only [pomaderef05_Extend.j0]; rw [if_neg (by simpa using h2), if_pos (by omega)]) (Ev.now _)
    rw [if_neg h3]
    have hs' := sys_app hs a (by omega) (by omega) (by omega)
    refine Ev.step (f := fun k => (pomaderef05_fails.f k (l ++ [a])).bind fun t => some (t == 0, 0)) (fun k => ?_) (Ev.bind (rfails_ev _ hs' _ (RV_res hs')) (Ev.now _))
    simp only [pomaderef05_Extend.j0]
    rw [if_neg (by simpa using h2), if_neg (by omega), if_pos (by simp; omega), Option.bind_some, List.nil_append, if_pos (by omega)]
  · rw [if_neg hs]
    exact Ev.bind ((issys_ev l).2 hs) (Ev.now _)
end Go.Proofs.Ytgbalmjnjpfopaa.L
