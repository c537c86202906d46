/- Coin systems: one coin more (Magazine, Nemhauser and Trotter), in whole numbers. -/
import Derived.Test.YtgbalmjnjpfopaaLExt
namespace Go.Proofs.Ytgbalmjnjpfopaa.L
open Go.RowKit Go.Proofs.Ytgbalmjnjpfopaa.PC Go.Proofs.YtgbalmjnjpfopaaW.PrintWords Go.Proofs.YtgbalmjnjpfopaaW.PrintLast Go.Proofs.Ytgbalmjnjpfopaa.M
theorem DD_app (l : List Int) (v : Int) : DD (l ++ [v]) = v.toNat :: DD l := by simp [DD, nats]
/-- the law itself, in whole numbers -/
theorem one_plain (l : List Int) (hs : Sys l) (h15 : l.length < 15) (v m : Int) (hv1 : rd l ((l.length : Int) - 1) < v) (hv2 : v ≤ 5000) (hr : RV l = 0)
    (hm0 : (m - 1) * rd l ((l.length : Int) - 1) < v) (hm1 : v ≤ m * rd l ((l.length : Int) - 1)) (hm : 1 ≤ m) :
    (RV (l ++ [v]) == 0) = decide ((g (DD l) (m * rd l ((l.length : Int) - 1) - v).toNat : Int) < m) := by
  have hs' := sys_app hs v h15 hv1 hv2
  have hlen := hs.1
  have hq := sys_rd hs (l.length - 1) (by omega)
  rw [show ((l.length - 1 : Nat) : Int) = (l.length : Int) - 1 from by omega] at hq
  obtain ⟨c, hc⟩ : ∃ c : Nat, rd l ((l.length : Int) - 1) = (c : Int) := ⟨_, (Int.toNat_of_nonneg (by omega)).symm⟩
  rw [hc] at hv1 hm0 hm1 hq ⊢
  obtain ⟨u, rfl⟩ : ∃ u : Nat, v = (u : Int) := ⟨v.toNat, (Int.toNat_of_nonneg (by omega)).symm⟩
  obtain ⟨n, rfl⟩ : ∃ n : Nat, m = (n : Int) := ⟨m.toNat, (Int.toNat_of_nonneg (by omega)).symm⟩
  have hD := okD hs
  have hD0 : at_ (DD l) 0 = c := by rw [DD_at l 0 hlen, show ((l.length - 1 - 0 : Nat) : Int) = (l.length : Int) - 1 from by omega, hc]; simp
  have hlD := DD_len l
  obtain ⟨r, hDr⟩ : ∃ r, DD l = c :: r := by
    cases hd : DD l with
    | nil => rw [hd] at hlD; simp at hlD; omega
    | cons x r => rw [hd] at hD0; exact ⟨r, by rw [show c = x from by simpa [at_] using hD0.symm]⟩
  have hDD := DD_app l (u : Int)
  rw [hDr] at hDD hD
  have hf := isFew hs
  rw [hDr] at hf
  have hf' := isFew hs'
  rw [hDD, Int.toNat_natCast] at hf'
  have hg := (res_nonneg hs (RV_res hs)).2.1 hr
  rw [hDr] at hg
  have e0 : (n - 1) * c < u := by
    have : ((n : Int) - 1) * (c : Int) = (((n - 1) * c : Nat) : Int) := by rw [Int.natCast_mul]; congr 1; omega
    omega
  have e1 : u ≤ n * c := by
    have : (n : Int) * (c : Int) = ((n * c : Nat) : Int) := by rw [Int.natCast_mul]
    omega
  have key := one_point hD hf hf' (by omega) hg n e0 e1
  have hz := (res_nonneg hs' (RV_res hs')).2
  rw [hDD, Int.toNat_natCast] at hz
  have hn : ((n : Int) * (c : Int) - (u : Int)).toNat = n * c - u := by
    have : (n : Int) * (c : Int) = ((n * c : Nat) : Int) := by rw [Int.natCast_mul]
    omega
  rw [hn, hDr]
  by_cases h : g (c :: r) (n * c - u) < n
  · rw [decide_eq_true (by omega), beq_iff_eq]
    exact hz.2 (key.2 h)
  · rw [decide_eq_false (by omega), beq_eq_false_iff_ne]
    exact fun h' => h (key.1 (hz.1 h'))
end Go.Proofs.Ytgbalmjnjpfopaa.L
