/- Tree: the walk behind its tests: a queue of nodes, the chairs one after the other. -/
import Derived.Test.YtfopeenjpdaacaaHQueue
import Derived.Test.YtfopeenjpdaacaaMTree
import Derived.Test.YtfopeenjpdaacaaPCg2
import Derived.Test.YtfopeenjpdaacaaPCg2
namespace Go.Proofs.Ytfopeenjpdaacaa.PC
open Go.RowKit Go.Proofs.YtfopeenjpdaacaaW.PrintWords Go.Proofs.YtfopeenjpdaacaaW.PrintLast Go.Proofs.YtfopeenjpdaacaaW.PrintMore
/-- the state of the walk: what lay below the list that is made is as it was; the list; the queue in the block behind it -/
structure TSt (Wm : World) (B : Nat) (out q : List Int) (W : World) : Prop where
  below : Below Wm.heap.size Wm W
  hB : B = Wm.heap.size + 1
  out : W.heap[Wm.heap.size]? = some (.cells (nums .i64 out).toArray 3 (0, 0))
  q : QVar W B q
theorem QVar.below {W W' : World} {B : Nat} {xs : List Int} (h : QVar W B xs) (hb : ∀ k, B ≤ k → k < W.heap.size → W'.heap[k]? = W.heap[k]?) : QVar W' B xs := by
  obtain ⟨v, h1, h2⟩ := h
  refine ⟨v, (hb B (Nat.le_refl _) (Array.getElem?_eq_some_iff.1 h1).1).trans h1, ?_⟩
  exact Kd.Q_mono (Kd.Q_step (ok := fun k => B + 1 ≤ k) (Kd.Q_mono (Kd.Q_bound h2) (fun k hk => hk.2.1)) (fun k hk hl => hb k (by omega) hl)) (fun _ _ => trivial)
theorem TSt.moved {Wm W W' : World} {B : Nat} {out q q' : List Int} (h : TSt Wm B out q W) (hb : Below B W W') (hq : QVar W' B q') : TSt Wm B out q' W' := by
  have e := h.hB
  exact ⟨h.below.trans (hb.mono (by omega)), e, (hb.block _ (by omega)).trans h.out, hq⟩
theorem TSt.store {Wm W : World} {B : Nat} {out q : List Int} (h : TSt Wm B out q W) (i : Nat) (x : Int) : TSt Wm B (out.set i x) q (W.setCell ⟨Wm.heap.size, i, none⟩ (.int .i64 x)) := by
  have e := h.hB
  refine ⟨h.below.setCell (p := ⟨Wm.heap.size, i, none⟩) (Nat.le_refl _) _, e, ?_, h.q.below fun k hk _ => Below.heap_setCell W _ _ k (by show k ≠ Wm.heap.size; omega)⟩
  rw [hset h.out]
  simp [nums, List.map_set]
theorem TSt.cell {Wm W : World} {B : Nat} {out q : List Int} (h : TSt Wm B out q W) (i : Nat) (hi : i < out.length) : ∃ u, W.cell? ⟨Wm.heap.size, i, none⟩ = some u := ⟨.int .i64 (out[i]), by simp [World.cell?, h.out, nums, hi]⟩
theorem TSt.frozen {Wm W : World} {B : Nat} {out q : List Int} (h : TSt Wm B out q W) (i : Nat) : W.frozen? ⟨Wm.heap.size, i, none⟩ = false := by simp [World.frozen?, h.out]
theorem TSt.start (Wm : World) (n : Nat) (_hn : n ≤ 1000) : TSt Wm (Wm.heap.size + 1) (List.replicate n 0) [] ((Wm.alloc (.cells (madeCells #[.int .i64 0] n) 3)).alloc (.cells #[.slice none 0 0] 69)) := by
  obtain ⟨W1, hW1⟩ : ∃ W1, Wm.alloc (.cells (madeCells #[.int .i64 0] n) 3) = W1 := ⟨_, rfl⟩
  have hs1 : W1.heap.size = Wm.heap.size + 1 := by rw [← hW1]; simp
  have hb1 : Below Wm.heap.size Wm W1 := by rw [← hW1]; exact (Below.refl _ _).alloc (Nat.le_refl _) _
  have ho : W1.heap[Wm.heap.size]? = some (.cells (nums .i64 (List.replicate n 0)).toArray 3 (0, 0)) := by
    rw [← hW1, heap_alloc_new]
    congr 2
    apply Array.ext
    · simp [madeCells, nums]
    · intro i h1 h2
      simp [madeCells, nums, Nat.mod_one]
  rw [hW1]
  refine ⟨hb1.alloc (by omega) _, rfl, (Below.heap_alloc _ _ _ (by omega)).trans ho, ⟨_, ?_, Kd.Q_nil _ _ _ _ _⟩⟩
  rw [← hs1]
  exact heap_alloc_new _ _
theorem R_of_ints {W : World} {g base : Nat} {xs : List Int} (h : W.heap[g]? = some (.cells (nums .i64 xs).toArray 3 (0, 0))) (hb : base ≤ g) (hl : xs.length ≤ 1000000) : Kd.R (Kd.int .i64) 3 W base (fun _ => True) (.slice (some ⟨g, 0, none⟩) xs.length xs.length) xs :=
  Kd.R_of_own ⟨by simp [encs], .inr ⟨g, xs.length, _, rfl, hb, h, Nat.le_refl _, by unfold maxLen; omega, by simp [nums], by simp [encs, nums, List.take_of_length_le]⟩⟩ (fun _ _ => trivial)
theorem row_len (k node : Int) (l : List Int) : ∀ (c : Nat) (out q : List Int), (chairs_Tree.row k node l c out q).1.length = out.length ∧ (chairs_Tree.row k node l c out q).2.length ≤ q.length + l.length := by
  induction l with
  | nil => intro c out q; simp [chairs_Tree.row]
  | cons w l ih =>
    intro c out q
    simp only [chairs_Tree.row]
    split
    · have := ih (c + 1) (out.set c node) (q ++ [(c : Int) + 1])
      simp at this ⊢
      omega
    · have := ih (c + 1) out q
      simp at this ⊢
      omega
set_option maxRecDepth 100000 in
set_option maxHeartbeats 2000000 in
theorem tree_walk (k : Nat) (A0 : Option Addr) (c0 : Nat) (l0 : List Int) (w : World) (hr0 : Kd.C (Kd.int .i64) w A0 l0.length l0) (hc0 : l0.length ≤ c0) (h1 : chairs_same.f l0 = some 0) (r : List Int) (h2 : chairs_sit.f k (l0.length : Int) l0 = some (r, true)) (hl1 : 1 ≤ l0.length) (hl : l0.length ≤ 30)
    (res : List Int) (hgo : chairs_Tree.go l0 (l0.length + 2) 0 (List.replicate l0.length 0) [0] = some res) :
    Calls Try.prog 38 #[.slice A0 l0.length c0] w fun e w' => ∃ v0_ : Value, e = .returned (.tuple #[v0_, .int .i64 0]) ∧ Kd.R (Kd.int .i64) 3 w' w.heap.size (fun _ => True) v0_ res ∧ Below w.heap.size w w' := by
  have HR := Lib.hid hr0
  have HC := Lib.hid hc0
  have H1 := Lib.hid h1
  have H2 := Lib.hid h2
  have HG := Lib.hid hgo
  obtain ⟨n, hn⟩ : ∃ n, l0.length = n := ⟨_, rfl⟩
  have hcall2 := chairs_sit.calls k (l0.length : Int) A0 c0 l0 r true
  have hcall1 := chairs_same.calls A0 c0 l0 0
  rw [hn] at hcall1 hcall2 hl1 hl hgo ⊢
  have HG := Lib.hid hgo
  have HC1 := Lib.hid hcall1
  have HC2 := Lib.hid hcall2
  rw [hn] at hr0 hc0 h2
  have HR := Lib.hid hr0
  have HC := Lib.hid hc0
  have H2 := Lib.hid h2
  have HN := Lib.hid hn
  have hmk := @print_make Try.prog 22 3 .i64 8 Try.underlying22 info3q (by decide) n (by omega)
  clear hr0 hc0 h1 h2 hgo hn hcall1 hcall2
  go_enter Try.func38, Try.ntmps38
  go_wp2_with (first | (go_at_call 59; refine (HC1.out _ HR.out HC.out H1.out).mono ?_; rintro e wa ⟨rfl, hba⟩; have HBA := Lib.hid hba; clear hba) | (go_at_call 54; refine (HC2.out _ (Kd.C_below HR.out HBA.out) HC.out H2.out).mono ?_; rintro e wb ⟨v0, rfl, _, hbb⟩; have HBB := Lib.hid hbb; clear hbb) | (go_at_call 60; refine (put_walk (wb.heap.size + 1) 0 [] _ (TSt.start wb n (by omega)).q (by simp)).mono ?_; rintro e wc ⟨rfl, hqc, hbc⟩; have HTC := Lib.hid ((TSt.start wb n (by omega)).moved hbc hqc); clear hqc hbc))
  clear hmk
  go_loopw [9] (fun t wr => ∃ (j : Nat) (out q : List Int), j ≤ n + 1 ∧ t = .int .i64 (j : Int) ∧ out.length = n ∧ q.length ≤ 31 * j + 1 ∧ TSt wb (wb.heap.size + 1) out q wr ∧ Hid (chairs_Tree.go l0 (n + 2 - j) (j : Int) out q = some res)) (fun t _ => n + 2 - (intOf t).toNat)
  case atStart => exact ⟨0, _, _, by omega, rfl, by simp, by simp, HTC.out, HG⟩
  case round =>
    obtain ⟨j, out, q, hj, rfl, hol, hql, hT, hG⟩ := hrel
    have HT := Lib.hid hT
    have HOL := Lib.hid hol
    clear hT hol
    obtain ⟨wo, rfl⟩ : ∃ wo : World, wo = wr := ⟨_, rfl⟩
    cases q with
    | nil =>
      have hres : out = res := by
        have h := hG.out
        rw [show n + 2 - j = (n + 1 - j) + 1 by omega] at h
        simpa [chairs_Tree.go] using h
      subst hres
      go_wp2_with (go_at_call 61; refine (take_none _ _ HT.out.q).mono ?_; rintro e w' ⟨rfl, rfl⟩)
      go_ret2
      have hR := R_of_ints (base := w.heap.size) HT.out.out (by have := HBA.out.size; have := HBB.out.size; omega) (by rw [HOL.out]; omega)
      rw [HOL.out] at hR
      exact ⟨_, rfl, hR, (HBA.out.trans (HBB.out.mono HBA.out.size)).trans (HT.out.below.mono (by have := HBA.out.size; have := HBB.out.size; omega))⟩
    | cons node q =>
      have hjn : j ≤ n := by
        refine Nat.le_of_not_lt fun hlt => ?_
        have h := hG.out
        rw [show n + 2 - j = 0 + 1 by omega] at h
        simp [chairs_Tree.go] at h
      obtain ⟨outF, hoF⟩ : ∃ o, (chairs_Tree.row (j : Int) node l0 0 out q).1 = o := ⟨_, rfl⟩
      obtain ⟨qF, hqF⟩ : ∃ o, (chairs_Tree.row (j : Int) node l0 0 out q).2 = o := ⟨_, rfl⟩
      have hrow : chairs_Tree.row (j : Int) node (l0.drop 0) 0 out q = (outF, qF) := by rw [← hoF, ← hqF]; rfl
      have hg2 : chairs_Tree.go l0 (n + 2 - (j + 1)) ((j + 1 : Nat) : Int) outF qF = some res := by
        have h := hG.out
        rw [show n + 2 - j = (n + 2 - (j + 1)) + 1 by omega] at h
        simp only [chairs_Tree.go] at h
        rw [hoF, hqF] at h
        exact h
      have HG2 := Lib.hid hg2
      have HROW := Lib.hid hrow
      have hql2 : q.length ≤ 31 * j := by simpa using hql
      clear hoF hqF hg2 hrow hG hql
      go_wp2_with (go_at_call 61; refine (take_walk _ node q _ HT.out.q).mono ?_; rintro e w' ⟨rfl, hq', hb'⟩; have HT' := Lib.hid (HT.out.moved hb' hq'); clear hq' hb')
      go_loopw [43] (fun t w3 => ∃ (c : Nat) (out q : List Int), c ≤ n ∧ t = .int .i64 (c : Int) ∧ out.length = n ∧ q.length ≤ 31 * j + c ∧ TSt wb (wb.heap.size + 1) out q w3 ∧ Hid (chairs_Tree.row (j : Int) node (l0.drop c) c out q = (outF, qF))) (fun t _ => n - (intOf t).toNat)
      case atStart => exact ⟨0, _, _, by omega, rfl, HOL.out, by omega, HT'.out, HROW⟩
      case round =>
        obtain ⟨c, out2, q2, hc, rfl, hol2, hql3, hT2, hrow2⟩ := hrel
        have HT2 := Lib.hid hT2
        have HOL2 := Lib.hid hol2
        clear hT2 hol2 HROW
        obtain ⟨wp, rfl⟩ : ∃ wp : World, wp = wr := ⟨_, rfl⟩
        by_cases hlt : c < n
        · have d1 : decide ((c : Int) < (n : Int)) = true := decide_eq_true (by omega)
          have hcl : c < l0.length := by have := HN.out; omega
          obtain ⟨ad, e, hx⟩ := Kd.at_int (Kd.C_below (Kd.C_below (Kd.C_below HR.out HBA.out) HBB.out) HT2.out.below) (c : Int) (by omega) (by omega)
          subst e
          rw [Int.toNat_natCast] at hx
          obtain ⟨x, hxv⟩ : ∃ x, rd l0 (c : Int) = x := ⟨_, rfl⟩
          rw [hxv] at hx
          have hrow3 : (if x = (j : Int) then chairs_Tree.row (j : Int) node (l0.drop (c + 1)) (c + 1) (out2.set c node) (q2 ++ [(c : Int) + 1]) else chairs_Tree.row (j : Int) node (l0.drop (c + 1)) (c + 1) out2 q2) = (outF, qF) := by
            have h := hrow2.out
            rw [List.drop_eq_getElem_cons hcl] at h
            have e2 : l0[c] = x := by rw [← hxv]; simp [rd, List.getD_eq_getElem?_getD, hcl]
            rw [e2] at h
            simpa only [chairs_Tree.row] using h
          clear hxv hrow2
          by_cases hxj : x = (j : Int)
          · rw [if_pos hxj] at hrow3
            have d2 : (x == (j : Int)) = true := beq_iff_eq.2 hxj
            obtain ⟨u, hu⟩ := HT2.out.cell c (by rw [HOL2.out]; exact hlt)
            have hfu := HT2.out.frozen c
            have HROW3 := Lib.hid hrow3
            clear hrow3 hxj
            go_wp2_with (go_at_call 60; refine (put_walk (wb.heap.size + 1) ((c : Int) + 1) q2 _ (HT2.out.store c node).q (by omega)).mono ?_; rintro e w' ⟨rfl, hq', hb'⟩; have HT3 := Lib.hid ((HT2.out.store c node).moved hb' hq'); clear hq' hb')
            go_roundw
            case rel => exact ⟨c + 1, _, _, by omega, by go_num, by rw [List.length_set]; exact HOL2.out, by simp; omega, HT3.out, HROW3⟩
            case measure => simp [intOf]; omega
          · rw [if_neg hxj] at hrow3
            have d2 : (x == (j : Int)) = false := beq_eq_false_iff_ne.2 hxj
            have HROW3 := Lib.hid hrow3
            clear hrow3 hxj
            go_wp2
            go_roundw
            case rel => exact ⟨c + 1, _, _, by omega, by go_num, HOL2.out, by omega, HT2.out, HROW3⟩
            case measure => simp [intOf]; omega
        · obtain rfl : c = n := by omega
          have d1 : decide ((c : Int) < (c : Int)) = false := decide_eq_false (by omega)
          have h := hrow2.out
          rw [List.drop_of_length_le (by rw [HN.out]; exact Nat.le_refl _)] at h
          simp only [chairs_Tree.row, Prod.mk.injEq] at h
          obtain ⟨rfl, rfl⟩ := h
          clear hrow2
          go_wp2
          go_roundw
          case rel => exact ⟨j + 1, _, _, by omega, by go_num, HOL2.out, by omega, HT2.out, HG2⟩
          case measure => simp [intOf]; omega
set_option maxHeartbeats 400000 in
theorem tree_err1 (A0 : Option Addr) (c0 : Nat) (l0 : List Int) (w : World) (hr0 : Kd.C (Kd.int .i64) w A0 l0.length l0) (hc0 : l0.length ≤ c0) (e0 : Int) (h1 : chairs_same.f l0 = some e0) (he : e0 ≠ 0) :
    Calls Try.prog 38 #[.slice A0 l0.length c0] w fun e w' => e = .returned (.tuple #[.slice none 0 0, .int .i64 e0]) ∧ Below w.heap.size w w' := by
  have HR := Lib.hid hr0
  have HC := Lib.hid hc0
  have H1 := Lib.hid h1
  have d1 : (e0 != 0) = true := bne_iff_ne.2 he
  clear hr0 hc0 h1 he
  go_enter Try.func38, Try.ntmps38
  go_wp2_with (go_at_call 59; refine (chairs_same.calls A0 c0 l0 e0 _ HR.out HC.out H1.out).mono ?_; rintro e wa ⟨rfl, hba⟩; have HBA := Lib.hid hba; clear hba)
  go_ret2
  exact ⟨rfl, HBA.out⟩
set_option maxHeartbeats 400000 in
theorem tree_err2 (k : Nat) (A0 : Option Addr) (c0 : Nat) (l0 : List Int) (w : World) (hr0 : Kd.C (Kd.int .i64) w A0 l0.length l0) (hc0 : l0.length ≤ c0) (h1 : chairs_same.f l0 = some 0) (r : List Int) (h2 : chairs_sit.f k (l0.length : Int) l0 = some (r, false)) :
    Calls Try.prog 38 #[.slice A0 l0.length c0] w fun e w' => e = .returned (.tuple #[.slice none 0 0, .int .i64 10]) ∧ Below w.heap.size w w' := by
  have HR := Lib.hid hr0
  have HC := Lib.hid hc0
  have H1 := Lib.hid h1
  have H2 := Lib.hid h2
  clear hr0 hc0 h1 h2
  go_enter Try.func38, Try.ntmps38
  go_wp2_with (first | (go_at_call 59; refine (chairs_same.calls A0 c0 l0 0 _ HR.out HC.out H1.out).mono ?_; rintro e wa ⟨rfl, hba⟩; have HBA := Lib.hid hba; clear hba) | (go_at_call 54; refine (chairs_sit.calls k (l0.length : Int) A0 c0 l0 r false _ (Kd.C_below HR.out HBA.out) HC.out H2.out).mono ?_; rintro e wb ⟨v0, rfl, _, hbb⟩; have HBB := Lib.hid hbb; clear hbb))
  go_ret2
  exact ⟨rfl, HBA.out.trans (HBB.out.mono HBA.out.size)⟩
end Go.Proofs.Ytfopeenjpdaacaa.PC
