/- Bend and Arches, by the program and by the specification. -/
import Derived.Test.YtjfkompfkgjdaaaLSelf
import Derived.Test.YtjfkompfkgjdaaaLSys
import Derived.Test.YtjfkompfkgjdaaaPCf40
import Derived.Test.YtjfkompfkgjdaaaPCf42
import Derived.Test.YtjfkompfkgjdaaaPCf41
import Derived.Test.YtjfkompfkgjdaaaPCf43
namespace Go.Proofs.Ytjfkompfkgjdaaa.L
open Go.RowKit Go.Proofs.Ytjfkompfkgjdaaa.PC Go.Proofs.YtjfkompfkgjdaaaW.PrintWords Go.Proofs.YtjfkompfkgjdaaaW.PrintLast Go.Proofs.Ytjfkompfkgjdaaa.G
/-- the partners of an arch system, as a diagram -/
def bendL (n : Nat) (o : List Int) : List Int := (List.range (2 * n)).map (fun z => (bo n (fn o (bo n z)) : Int))
theorem bendL_len (n : Nat) (o : List Int) : (bendL n o).length = 2 * n := by simp [bendL]
theorem bendL_rd {n z : Nat} {o : List Int} (h : z < 2 * n) : rd (bendL n o) (z : Int) = (bo n (fn o (bo n z)) : Int) := rd_range _ _ _ h
theorem bend_l0 {n : Nat} (hn : n ≤ 1000) {o : List Int} (ho : o.length = 2 * n) (hr : ∀ x ∈ o, 0 ≤ x ∧ x < ((2 * n : Nat) : Int)) (d : Nat) : ∀ (i : Nat) (out : List Int), i + d = 2 * n → out.length = 2 * n → (∀ j, j < i → rd out (bo n j : Int) = (bo n (fn o j) : Int)) →
    Ev (fun k => plait_Bend.l0 k out (bl n) o ((2 * n : Nat) : Int) (i : Int)) (bendL n o, 0) ∧ Ev (fun k => pomaderef07_Bend.l0 k (n : Int) o out (i : Int)) (bendL n o, 0) := by
  have e2 : wrap64 (2 * (n : Int)) = ((2 * n : Nat) : Int) := by rw [pw64 (by omega) (by omega)]; omega
  have hbl := bl_len n
  induction d with
  | zero =>
    intro i out hi hl hj
    obtain rfl : i = 2 * n := by omega
    have e : out = bendL n o := by
      refine list_eq (by rw [bendL_len, hl]) (fun z hz => ?_)
      have hz2 : z < 2 * n := by omega
      have := hj (bo n z) (bo_lt hz2)
      rw [bo_bo hz2] at this
      rw [this, bendL_rd hz2]
    refine ⟨Ev.step (f := fun _ => some (bendL n o, 0)) (fun k => ?_) (Ev.now _), Ev.step (f := fun _ => some (bendL n o, 0)) (fun k => ?_) (Ev.now _)⟩
    · simp only [plait_Bend.l0]; rw [if_neg (by omega), e]
    · simp only [pomaderef07_Bend.l0]; rw [e2, if_neg (by omega), e]
  | succ d ih =>
    intro i out hi hl hj
    have e1 : wrap64 ((i : Int) + 1) = ((i + 1 : Nat) : Int) := by rw [pw64 (by omega) (by omega)]; rfl
    have hi2 : i < 2 * n := by omega
    have hb := bo_lt hi2
    have g := rd_rng ho hr (i : Int) (by omega) (by omega)
    have q : rd o (i : Int) = (fn o i : Int) := by unfold fn; omega
    have q2 : fn o i < 2 * n := by omega
    obtain ⟨g1, g2⟩ := ih (i + 1) (out.set (bo n i) (bo n (fn o i) : Int)) (by omega) (by simpa using hl) (fun j hj2 => by
      rw [rd_set _ _ _ _ (by omega)]
      by_cases c : j = i
      · subst c; rw [if_pos rfl]
      · rw [if_neg (fun e => c (bo_inj (by omega) hi2 e))]
        exact hj j (by omega))
    constructor
    · refine Ev.step (fun k => ?_) g1
      simp only [plait_Bend.l0]
      rw [if_pos (by omega), if_pos (by omega), if_pos (by omega), if_pos (by omega), if_pos (by omega), if_pos (by omega), bl_rd hi2, if_pos (by omega), if_pos (by omega), q, bl_rd q2, e1, Int.toNat_natCast]
    · refine Ev.step (fun k => ?_) g2
      simp only [pomaderef07_Bend.l0]
      rw [e2, if_pos (by omega), refborder hn hi2, Option.bind_some, if_pos (by omega), if_pos (by omega), q, refborder hn q2, Option.bind_some, if_pos (by omega), if_pos (by omega), e1, Int.toNat_natCast]
/-- Bend, by the program and by the specification -/
theorem bend_both (a0 : Int) (s : ByteArray) (hs : s.size ≤ 1000) : ∃ r : List Int × Int, r.1.length ≤ 20 ∧ Ev (fun k => plait_Bend.f k a0 s) r ∧ Ev (fun k => pomaderef07_Bend.f k a0 s) r ∧ (r.2 = 0 → ∃ (n : Nat) (o : List Int), a0 = (n : Int) ∧ 1 ≤ n ∧ n ≤ 10 ∧ s.size = 2 * n ∧ Arch s o ∧ r.1 = bendL n o) := by
  by_cases c1 : a0 < 1 ∨ a0 > 10
  · refine ⟨([], 2), by simp, Ev.congr (f := fun k => plait_Bend.j0 k a0 s true) (fun k => ?_) (Ev.step (f := fun _ => some ([], 2)) (fun k => ?_) (Ev.now _)), Ev.congr (f := fun k => pomaderef07_Bend.j0 k a0 s true) (fun k => ?_) (Ev.step (f := fun _ => some ([], 2)) (fun k => ?_) (Ev.now _)), fun h => absurd h (by decide)⟩
    · unfold plait_Bend.f
      by_cases c : a0 < 1
      · rw [if_pos c]
      · rw [if_neg c, decide_eq_true (by omega)]
    · simp only [plait_Bend.j0]; rw [if_pos trivial]
    · unfold pomaderef07_Bend.f
      by_cases c : a0 < 1
      · rw [if_pos c]
      · rw [if_neg c, decide_eq_true (by omega)]
    · simp only [pomaderef07_Bend.j0]; rw [if_pos trivial]
  · obtain ⟨n, rfl⟩ : ∃ n : Nat, a0 = (n : Int) := ⟨a0.toNat, by omega⟩
    have e2 : wrap64 (2 * (n : Int)) = ((2 * n : Nat) : Int) := by rw [pw64 (by omega) (by omega)]; omega
    obtain ⟨e, p, o, b, h1, h2, h3, h4⟩ := part_sys s hs
    have sp : ∀ r, Ev (fun k => (plait_partners.f k s).bind fun bt476 => (if bt476.2 = 0 then (if (bt476.1.length : Int) = (wrap64 (2 * (n : Int))) then (if 0 ≤ (wrap64 (2 * (n : Int))) then (if (wrap64 (2 * (n : Int)) : Int).toNat ≤ 35184372088832 then ((plait_border.f k (n : Int)).bind fun t483 => (plait_Bend.l0 k (List.replicate (wrap64 (2 * (n : Int)) : Int).toNat 0) t483 bt476.1 (bt476.1.length : Int) 0)) else (none)) else (none)) else (some (([] : List Int), 2))) else (some (([] : List Int), bt476.2)))) r → Ev (fun k => plait_Bend.f k (n : Int) s) r := fun r hr => by
      refine Ev.congr (f := fun k => plait_Bend.j0 k (n : Int) s false) (fun k => ?_) (Ev.step (fun k => ?_) hr)
      · unfold plait_Bend.f; rw [if_neg (by omega), decide_eq_false (by omega)]
      · simp only [plait_Bend.j0]; rw [if_neg (by decide)]
    have sr : ∀ r, Ev (fun k => (pomaderef07_System.f k s).bind fun t506 => (if t506 = 0 then (if (s.size : Int) = (wrap64 (2 * (n : Int))) then ((pomaderef07_partners.f k s).bind fun bt507 => (if 0 ≤ (wrap64 (2 * (n : Int))) then (if (wrap64 (2 * (n : Int)) : Int).toNat ≤ 35184372088832 then (pomaderef07_Bend.l0 k (n : Int) bt507.1 (List.replicate (wrap64 (2 * (n : Int)) : Int).toNat 0) 0) else (none)) else (none))) else (some (([] : List Int), 2))) else (some (([] : List Int), t506)))) r → Ev (fun k => pomaderef07_Bend.f k (n : Int) s) r := fun r hr => by
      refine Ev.congr (f := fun k => pomaderef07_Bend.j0 k (n : Int) s false) (fun k => ?_) (Ev.step (fun k => ?_) hr)
      · unfold pomaderef07_Bend.f; rw [if_neg (by omega), decide_eq_false (by omega)]
      · simp only [pomaderef07_Bend.j0]; rw [if_neg (by decide)]
    by_cases z : e = 0
    · subst z
      obtain ⟨hA, rfl⟩ := h4 rfl
      have hl := hA.len
      by_cases c : s.size = 2 * n
      · obtain ⟨g1, g2⟩ := bend_l0 (n := n) (by omega) (by omega : p.length = 2 * n) (by rw [← c]; exact hA.rng) (2 * n) 0 (List.replicate (2 * n) 0) (by omega) (by simp) (fun j hj => by omega)
        refine ⟨(bendL n p, 0), by show (bendL n p).length ≤ 20; rw [bendL_len]; omega, sp _ ?_, sr _ ?_, fun _ => ⟨n, p, rfl, by omega, by omega, c, hA, rfl⟩⟩
        · refine Ev.bind h1 ?_
          refine Ev.congr (f := fun k => (plait_border.f k (n : Int)).bind fun t483 => (plait_Bend.l0 k (List.replicate (2 * n) 0) t483 p ((2 * n : Nat) : Int) 0)) (fun k => ?_) (Ev.bind (border_ev (by omega)) g1)
          rw [if_pos rfl, e2, if_pos (show (p.length : Int) = ((2 * n : Nat) : Int) by omega), if_pos (by omega), Int.toNat_natCast, if_pos (by omega), show (p.length : Int) = ((2 * n : Nat) : Int) by omega]
        · refine Ev.bind h2 ?_
          refine Ev.congr (f := fun k => (pomaderef07_partners.f k s).bind fun bt507 => pomaderef07_Bend.l0 k (n : Int) bt507.1 (List.replicate (2 * n) 0) 0) (fun k => ?_) (Ev.bind h3 g2)
          rw [if_pos rfl, e2, if_pos (show (s.size : Int) = ((2 * n : Nat) : Int) by omega), Int.toNat_natCast]
          congr 1
          funext bt
          rw [if_pos (by omega), if_pos (by omega)]
      · refine ⟨([], 2), by simp, sp _ ?_, sr _ ?_, fun h => absurd h (by decide)⟩
        · refine Ev.bind h1 ?_
          exact Ev.congr (fun k => by rw [if_pos rfl, e2, if_neg (show ¬ (p.length : Int) = ((2 * n : Nat) : Int) by omega)]) (Ev.now _)
        · refine Ev.bind h2 ?_
          exact Ev.congr (fun k => by rw [if_pos rfl, e2, if_neg (show ¬ (s.size : Int) = ((2 * n : Nat) : Int) by omega)]) (Ev.now _)
    · refine ⟨([], e), by simp, sp _ ?_, sr _ ?_, fun h => absurd h z⟩
      · refine Ev.bind h1 ?_
        exact Ev.congr (fun k => by rw [if_neg z]) (Ev.now _)
      · refine Ev.bind h2 ?_
        exact Ev.congr (fun k => by rw [if_neg z]) (Ev.now _)
theorem brk_rd {n x : Nat} {l : List Int} (h : x < 2 * n) : rd (brk n l) (x : Int) = if Db n l x < x then 41 else 40 := rd_range _ _ _ h
theorem brk_len (n : Nat) (l : List Int) : (brk n l).length = 2 * n := by simp [brk]
theorem arch_ref {n : Nat} {l : List Int} (hn : n ≤ 1000) (h : LM n l) (d : Nat) : ∀ (i : Nat) (out : List Int), i + d = 2 * n → out.length = 2 * n → (∀ j, j < i → rd out (bo n j : Int) = rd (brk n l) (bo n j : Int)) →
    Ev (fun k => pomaderef07_Arches.l0 k l (n : Int) out (i : Int)) (strOfNums (brk n l), 0) := by
  have e2 : wrap64 (2 * (n : Int)) = ((2 * n : Nat) : Int) := by rw [pw64 (by omega) (by omega)]; omega
  have hl := h.len
  induction d with
  | zero =>
    intro i out hi ho hj
    obtain rfl : i = 2 * n := by omega
    have e : out = brk n l := by
      refine list_eq (by rw [brk_len, ho]) (fun z hz => ?_)
      have hz2 : z < 2 * n := by omega
      have := hj (bo n z) (bo_lt hz2)
      rwa [bo_bo hz2] at this
    refine Ev.step (f := fun _ => some (strOfNums (brk n l), 0)) (fun k => ?_) (Ev.now _)
    simp only [pomaderef07_Arches.l0]; rw [e2, if_neg (by omega), e]
  | succ d ih =>
    intro i out hi ho hj
    have e1 : wrap64 ((i : Int) + 1) = ((i + 1 : Nat) : Int) := by rw [pw64 (by omega) (by omega)]; rfl
    have hi2 : i < 2 * n := by omega
    have hb := bo_lt hi2
    have hm := h.mat i hi2
    have v : rd (brk n l) (bo n i : Int) = if bo n (fn l i) < bo n i then 41 else 40 := by
      rw [brk_rd hb]
      unfold Db
      rw [bo_bo hi2]
    have g := ih (i + 1) (out.set (bo n i) (if bo n (fn l i) < bo n i then 41 else 40)) (by omega) (by simpa using ho) (fun j hj2 => by
      rw [rd_set _ _ _ _ (by omega)]
      by_cases c : j = i
      · subst c; rw [if_pos rfl, v]
      · rw [if_neg (fun e => c (bo_inj (by omega) hi2 e))]
        exact hj j (by omega))
    refine Ev.step (fun k => ?_) g
    simp only [pomaderef07_Arches.l0]
    rw [e2, if_pos (by omega), if_pos (by omega), if_pos (by omega), h.nn i hi2, refborder hn hm.1, Option.bind_some, refborder hn hi2, Option.bind_some, Option.bind_some, Option.bind_some, e1, Int.toNat_natCast]
    by_cases c : bo n (fn l i) < bo n i
    · rw [if_pos (by omega), if_pos (by omega), if_pos (by omega), if_pos c]
    · rw [if_neg (by omega), if_pos (by omega), if_pos (by omega), if_neg c]
/-- Arches, by the program and by the specification -/
theorem arches_both (l : List Int) : ∃ r : ByteArray × Int, Ev (fun k => plait_Arches.f k l) r ∧ Ev (fun k => pomaderef07_Arches.f k l) r ∧ ((r.2 = 0 ∧ ∃ n, Dia n l ∧ r.1 = strOfNums (brk n l)) ∨ (r.2 ≠ 0 ∧ r.1 = (⟨#[]⟩ : ByteArray))) := by
  obtain ⟨e, h1, h2, h3⟩ := dia_both l
  by_cases z : e = 0
  · obtain ⟨n, d, h⟩ : ∃ n, Dia n l ∧ Ev (fun k => plait_diagram_arches.f k l) (strOfNums (brk n l), true) := by
      rcases h3 with c | c | ⟨_, n, d, h⟩
      · omega
      · omega
      · exact ⟨n, d, h⟩
    have hn := d.lim
    have hl := d.lm.len
    have e0 : wrap64 ((l.length : Int) / 2) = (n : Int) := by rw [pw64 (by omega) (by omega)]; omega
    have e2 : wrap64 (2 * (n : Int)) = ((2 * n : Nat) : Int) := by rw [pw64 (by omega) (by omega)]; omega
    refine ⟨(strOfNums (brk n l), 0), ?_, ?_, .inl ⟨rfl, n, d, rfl⟩⟩
    · refine Ev.congr (fun k => rfl) (Ev.bind h1 ?_)
      refine Ev.congr (fun k => by rw [if_pos z]) (Ev.bind h (Ev.now _))
    · refine Ev.congr (fun k => rfl) (Ev.bind h2 ?_)
      refine Ev.congr (fun k => ?_) (arch_ref (by omega) d.lm (2 * n) 0 (List.replicate (2 * n) 0) (by omega) (by simp) (fun j hj => by omega))
      rw [if_pos z, e0, e2, if_pos (by omega), if_pos (by omega), Int.toNat_natCast]
      rfl
  · refine ⟨((⟨#[]⟩ : ByteArray), e), ?_, ?_, .inr ⟨z, rfl⟩⟩
    · exact Ev.congr (fun k => rfl) (Ev.bind h1 (Ev.congr (fun k => by rw [if_neg z]) (Ev.now _)))
    · exact Ev.congr (fun k => rfl) (Ev.bind h2 (Ev.congr (fun k => by rw [if_neg z]) (Ev.now _)))
end Go.Proofs.Ytjfkompfkgjdaaa.L
