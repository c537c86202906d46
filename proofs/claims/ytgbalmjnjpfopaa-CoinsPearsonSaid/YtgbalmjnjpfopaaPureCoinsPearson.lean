/- The best change and the greedy change for the least amount for which greed fails have no value in common, for every list of at most 40 coins. -/
import Derived.Test.YtgbalmjnjpfopaaPCx8
import Derived.Test.YtgbalmjnjpfopaaLBest
namespace Go.Proofs.Ytgbalmjnjpfopaa.L
open Go.RowKit Go.Proofs.Ytgbalmjnjpfopaa.PC Go.Proofs.YtgbalmjnjpfopaaW.PrintWords Go.Proofs.YtgbalmjnjpfopaaW.PrintLast Go.Proofs.Ytgbalmjnjpfopaa.M

theorem at_reverse (l : List Nat) (k : Nat) (h : k < l.length) : at_ l.reverse k = at_ l (l.length - 1 - k) := by
  unfold at_
  rw [List.getD_eq_getElem?_getD, List.getD_eq_getElem?_getD, List.getElem?_reverse h]
/-- no value in common -/
theorem no_common (l : List Int) (hs : Sys l) (w : Nat) (h1 : F l w < g (DD l) w) (h2 : ∀ x, x < w → F l x = g (DD l) x) (i : Nat) (hi : i < l.length) (hg : rd (coins_greedy.gl l (w : Int)).1 (i : Int) > 0) : ¬ rd (bestL l (w : Int)) (i : Int) > 0 := by
  intro hb
  have hv : ∀ v ∈ l, 1 ≤ v := fun v hv => (hs.range v hv).1
  obtain ⟨b1, b2, b3, b4⟩ := best_spec l hs (w : Int) (by omega)
  rw [Int.toNat_natCast] at b3 b4
  have hgn := (gl_nat l hv (w : Int) (by omega)).1
  rw [Int.toNat_natCast] at hgn
  rw [rd_nat_at _ i (fun x hx => (gl_nonneg l hv (w : Int) (by omega) x hx).1), hgn, at_reverse _ i (by rw [G_len, DD_len]; exact hi), G_len, DD_len] at hg
  rw [rd_nat_at _ i b2] at hb
  have hno := not_oc_of_greedy (okD hs) h2 h1 (m := l.length - 1 - i) (by omega)
  have hh := least_helps (isFew hs) (nats l) (nats (bestL l (w : Int))) (fun c hc => by simpa [DD] using hc) (by rw [nats_len, nats_len]; exact b1) (by rw [b3]; exact b4) i (by omega)
  rw [b3] at hh
  have e : at_ (DD l) (l.length - 1 - i) = at_ (nats l) i := by
    rw [DD_at l _ (by omega), show l.length - 1 - (l.length - 1 - i) = i from by omega, nats_at i hi]
  exact hno ⟨by rw [DD_len]; omega, by rw [e]; exact hh.1, by rw [e]; exact hh.2⟩

theorem pearson_loop (l gv bv : List Int) (hg : gv.length = l.length) (hb : bv.length = l.length) (hl : l.length ≤ 15) (hno : ∀ i : Nat, i < l.length → rd gv (i : Int) > 0 → ¬ rd bv (i : Int) > 0) (d : Nat) : ∀ q : Nat, q + d = l.length →
    Ev (fun k => pomadelaw05_CoinsPearson.l0 k l gv bv (q : Int)) true := by
  induction d with
  | zero =>
    intro q hq
    refine Ev.step (f := fun k => (pomadelaw05_alive.f k).bind fun t296 => some t296) (fun k => ?_) (Ev.bind alive_ev (Ev.now true))
    simp only [pomadelaw05_CoinsPearson.l0]
    rw [if_neg (by omega)]
  | succ d ih =>
    intro q hq
    refine Ev.step (fun k => ?_) (ih (q + 1) (by omega))
    simp only [pomadelaw05_CoinsPearson.l0]
    rw [if_pos (by omega), if_pos (by omega), if_pos (by omega), w64 (by omega) (by omega)]
    by_cases c : rd gv (q : Int) > 0
    · rw [if_pos c, if_pos (by omega), if_neg (hno q (by omega) c)]
      rfl
    · rw [if_neg c]
      rfl
theorem pearson_j0_true (l : List Int) : Ev (fun k => pomadelaw05_CoinsPearson.j0 k l true) true :=
  Ev.step (f := fun k => (pomadelaw05_alive.f k).bind fun t282 => some t282) (fun k => by simp only [pomadelaw05_CoinsPearson.j0]; rw [if_pos trivial]) (Ev.bind alive_ev (Ev.now true))
theorem CoinsPearson_pure : pomadelaw05_CoinsPearson.Pure := by
  intro l _ _ _
  refine Ev.rounds ?_
  by_cases c : (l.length : Int) > 40
  · exact Ev.congr (fun k => by unfold pomadelaw05_CoinsPearson.f; rw [if_pos c]) (pearson_j0_true l)
  refine Ev.congr (fun k => by unfold pomadelaw05_CoinsPearson.f; rw [if_neg c]) ?_
  by_cases hs : Sys l
  · refine Ev.bind ((issys_ev l).1 hs) ?_
    have hr := RV_res hs
    have hrb := RV_bound hs
    have hlen := hs.2.1
    obtain ⟨r, hre⟩ : ∃ r, RV l = r := ⟨_, rfl⟩
    rw [hre] at hr hrb
    refine Ev.step (f := fun k => (coins_Fails.f k l).bind fun bt283 => (if bt283.2 = 0 then ((coins_Greedy.f k l bt283.1).bind fun bt286 => ((coins_Best.f k l bt283.1).bind fun bt290 => (if bt286.2 = 0 then (if bt290.2 = 0 then (if (bt286.1.length : Int) = (l.length : Int) then (pomadelaw05_CoinsPearson.j1 k l bt286.1 bt290.1 ((bt290.1.length : Int) != (l.length : Int))) else (pomadelaw05_CoinsPearson.j1 k l bt286.1 bt290.1 true)) else (pomadelaw05_CoinsPearson.j1 k l bt286.1 bt290.1 true)) else (pomadelaw05_CoinsPearson.j1 k l bt286.1 bt290.1 true)))) else (if bt283.2 = 10 then (if bt283.1 = 0 then ((pomadelaw05_alive.f k).bind fun t285 => (some t285)) else (some false)) else (some false)))) (fun k => ?_) ?_
    · simp only [pomadelaw05_CoinsPearson.j0]
      rw [if_neg (by simp)]
    refine Ev.bind (Fails_ev l hs r hr) ?_
    by_cases h : r > 0
    · rw [if_pos h]
      have e1 : greedyV l r = ((coins_greedy.gl l r).1, 0) := by unfold greedyV; rw [if_pos (err_ok' hs (by omega) (by omega))]
      have e2 : bestV l r = (bestL l r, 0) := by unfold bestV; rw [if_pos (err_ok' hs (by omega) (by omega))]
      refine Ev.congr (f := fun k => (coins_Greedy.f k l r).bind fun bt286 => ((coins_Best.f k l r).bind fun bt290 => (if bt286.2 = 0 then (if bt290.2 = 0 then (if (bt286.1.length : Int) = (l.length : Int) then (pomadelaw05_CoinsPearson.j1 k l bt286.1 bt290.1 ((bt290.1.length : Int) != (l.length : Int))) else (pomadelaw05_CoinsPearson.j1 k l bt286.1 bt290.1 true)) else (pomadelaw05_CoinsPearson.j1 k l bt286.1 bt290.1 true)) else (pomadelaw05_CoinsPearson.j1 k l bt286.1 bt290.1 true)))) (fun k => by rw [if_pos rfl]) ?_
      refine Ev.bind (greedyV_ev l r) (Ev.bind (bestV_ev l r) ?_)
      rw [e1, e2]
      have l1 : (coins_greedy.gl l r).1.length = l.length := coins_greedy.gl_len l r
      have l2 : (bestL l r).length = l.length := bl_len _ _ _
      refine Ev.congr (f := fun k => pomadelaw05_CoinsPearson.j1 k l (coins_greedy.gl l r).1 (bestL l r) false) (fun k => ?_) ?_
      · simp only [if_true]
        rw [if_pos (by omega)]
        rw [show (((bestL l r).length : Int) != (l.length : Int)) = false from by rw [l2]; simp]
      · refine Ev.step (f := fun k => pomadelaw05_CoinsPearson.l0 k l (coins_greedy.gl l r).1 (bestL l r) 0) (fun k => ?_) ?_
        · simp only [pomadelaw05_CoinsPearson.j1]
          rw [if_neg (by simp)]
        · refine pearson_loop l _ _ l1 l2 hlen ?_ l.length 0 (by omega)
          rcases hr with ⟨_, h3⟩ | ⟨w, h1, h2, h3⟩
          · omega
          · subst h3
            exact fun i hi hg => no_common l hs w h1 h2 i hi hg
    · rw [if_neg h]
      refine Ev.congr (fun k => ?_) (Ev.bind alive_ev (Ev.now true))
      simp only
      rw [if_neg (by decide), if_pos trivial, if_pos trivial]
  · exact Ev.bind ((issys_ev l).2 hs) (pearson_j0_true l)
end Go.Proofs.Ytgbalmjnjpfopaa.L
namespace Go.Proofs.Ytgbalmjnjpfopaa.Pure
theorem CoinsPearson : Go.Proofs.Ytgbalmjnjpfopaa.PC.pomadelaw05_CoinsPearson.Pure := Go.Proofs.Ytgbalmjnjpfopaa.L.CoinsPearson_pure
end Go.Proofs.Ytgbalmjnjpfopaa.Pure
