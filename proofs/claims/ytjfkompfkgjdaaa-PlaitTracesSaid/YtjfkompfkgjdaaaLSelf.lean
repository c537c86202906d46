/- Product by the program; equal lists are the same. -/
import Derived.Test.YtjfkompfkgjdaaaLLoop
import Derived.Test.YtjfkompfkgjdaaaLDia
import Derived.Test.YtjfkompfkgjdaaaPCf27
import Derived.Test.YtjfkompfkgjdaaaPCg2
namespace Go.Proofs.Ytjfkompfkgjdaaa.L
open Go.RowKit Go.Proofs.Ytjfkompfkgjdaaa.PC Go.Proofs.YtjfkompfkgjdaaaW.PrintWords Go.Proofs.YtjfkompfkgjdaaaW.PrintLast Go.Proofs.Ytjfkompfkgjdaaa.G
theorem same_l0 {a : List Int} (ha : a.length ≤ 1000000) (d : Nat) : ∀ i, i + d = a.length → Ev (fun k => pomadelaw07_same.l0 k a a (i : Int)) true := by
  induction d with
  | zero =>
    intro i hi
    refine Ev.step (f := fun _ => some true) (fun k => ?_) (Ev.now _)
    simp only [pomadelaw07_same.l0]
    rw [if_neg (by omega)]
  | succ d ih =>
    intro i hi
    refine Ev.step (fun k => ?_) (ih (i + 1) (by omega))
    simp only [pomadelaw07_same.l0]
    rw [if_pos (by omega), if_pos (by omega), if_pos (by omega), if_pos trivial, pw64 (by omega) (by omega)]
    rfl
theorem same_ev {a : List Int} (ha : a.length ≤ 1000000) : Ev (fun k => pomadelaw07_same.f k a a) true :=
  Ev.congr (fun k => by unfold pomadelaw07_same.f; rw [if_pos rfl]; rfl) (same_l0 ha a.length 0 (by omega))
theorem Dia.two {n m : Nat} {a : List Int} (h : Dia n a) (k : Dia m a) : n = m := by
  have h1 := h.lm.len
  have h2 := k.lm.len
  omega
/-- the error of two lists -/
def err2 (e1 e2 : Int) (a b : List Int) : Int := if e1 = 0 then if e2 = 0 then if (a.length : Int) = (b.length : Int) then 0 else 2 else e2 else e1
/-- what two lists make -/
theorem product_plait (a b : List Int) : ∃ e1 e2 : Int, Ev (fun k => plait_of.f k a) e1 ∧ Ev (fun k => pomaderef07_Diagram.f k a) e1 ∧ Ev (fun k => plait_of.f k b) e2 ∧ Ev (fun k => pomaderef07_Diagram.f k b) e2 ∧
    ((e1 = 0 ∧ e2 = 0 ∧ a.length = b.length ∧ ∃ n, Dia n a ∧ Dia n b ∧ Ev (fun k => plait_Product.f k a b) (prodL n a b, (lops n (fn a) (fn b) : Int), 0)) ∨
     (¬ (e1 = 0 ∧ e2 = 0 ∧ a.length = b.length) ∧ err2 e1 e2 a b ≠ 0 ∧ Ev (fun k => plait_Product.f k a b) ([], 0, err2 e1 e2 a b))) := by
  obtain ⟨e1, o1, d1, c1⟩ := dia_both a
  obtain ⟨e2, o2, d2, c2⟩ := dia_both b
  refine ⟨e1, e2, o1, d1, o2, d2, ?_⟩
  unfold err2
  by_cases z1 : e1 = 0
  · by_cases z2 : e2 = 0
    · by_cases z3 : (a.length : Int) = (b.length : Int)
      · have g1 : ∃ n, Dia n a := by
          rcases c1 with c | c | ⟨_, n, c, _⟩
          · omega
          · omega
          · exact ⟨n, c⟩
        have g2 : ∃ n, Dia n b := by
          rcases c2 with c | c | ⟨_, n, c, _⟩
          · omega
          · omega
          · exact ⟨n, c⟩
        obtain ⟨n, g1⟩ := g1
        obtain ⟨m, g2⟩ := g2
        have l1 := g1.lm.len
        have l2 := g2.lm.len
        have hl := g1.lim
        obtain rfl : m = n := by omega
        refine .inl ⟨z1, z2, by omega, m, g1, g2, ?_⟩
        refine Ev.congr (fun k => rfl) (Ev.bind o1 (Ev.congr (fun k => by rw [if_pos z1]) (Ev.bind o2 (Ev.congr (fun k => ?_) (Ev.now _)))))
        rw [if_pos z2, if_pos z3, product_ok (by omega) g1.lm g2.lm, Option.bind_some]
      · rw [if_pos z1, if_pos z2, if_neg z3]
        refine .inr ⟨fun h => z3 (by omega), by decide, ?_⟩
        refine Ev.congr (fun k => rfl) (Ev.bind o1 (Ev.congr (fun k => by rw [if_pos z1]) (Ev.bind o2 (Ev.congr (fun k => ?_) (Ev.now _)))))
        rw [if_pos z2, if_neg z3]
    · rw [if_pos z1, if_neg z2]
      refine .inr ⟨fun h => z2 h.2.1, z2, ?_⟩
      refine Ev.congr (fun k => rfl) (Ev.bind o1 (Ev.congr (fun k => by rw [if_pos z1]) (Ev.bind o2 (Ev.congr (fun k => ?_) (Ev.now _)))))
      rw [if_neg z2]
  · rw [if_neg z1]
    refine .inr ⟨fun h => z1 h.1, z1, ?_⟩
    exact Ev.congr (fun k => rfl) (Ev.bind o1 (Ev.congr (fun k => by rw [if_neg z1]) (Ev.now _)))
end Go.Proofs.Ytjfkompfkgjdaaa.L
