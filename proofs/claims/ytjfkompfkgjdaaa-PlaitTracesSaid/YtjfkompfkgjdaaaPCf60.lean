-- Printed by a program of this session (mkprint.sh, over the kit's print.py), with own proofs for the functions that the print does not take.
import Derived.Test.YtjfkompfkgjdaaaPCf59
import Derived.Test.YtjfkompfkgjdaaaPCx0
import Derived.Laws.RangeAny
import Derived.Laws.RangeString
namespace Go.Proofs.Ytjfkompfkgjdaaa.PC
open Go.RowKit Go.Proofs.YtjfkompfkgjdaaaW.PrintWords Go.Proofs.YtjfkompfkgjdaaaW.PrintLast Go.Proofs.YtjfkompfkgjdaaaW.PrintMore
attribute [local go_sem] max2_int min2_int max_two min_two max_three min_three max_four min_four   -- for this text's walks alone
set_option linter.unusedVariables false
set_option linter.unusedSimpArgs false

/-! ### plait_next: function 60 -/
/-- how many opening brackets -/
def plait_opens (s : ByteArray) : Int := ((s.data.toList.countP (fun c => c == 40) : Nat) : Int)
def plait_ascii (s : ByteArray) : Bool := s.data.toList.all (fun c => decide (c.toNat < 128))
theorem opens_snoc (s : ByteArray) (k : Nat) (h : k < s.size) : (s.data.toList.take (k + 1)).countP (fun c => c == 40) = (s.data.toList.take k).countP (fun c => c == 40) + if (s[k]'h).toNat = 40 then 1 else 0 := by
  have e : s.data.toList.take (k + 1) = s.data.toList.take k ++ [s[k]'h] := by
    rw [List.take_succ_eq_append_getElem (by simpa using h)]; rfl
  rw [e, List.countP_append]
  have e2 : ((s[k]'h) == (40 : UInt8)) = decide ((s[k]'h).toNat = 40) := by
    rw [Bool.eq_iff_iff, beq_iff_eq, decide_eq_true_eq, ← UInt8.toNat_inj]; rfl
  simp [List.countP_cons, e2]
theorem ascii_at {s : ByteArray} (h : plait_ascii s = true) (k : Nat) (hk : k < s.size) : (s[k]'hk).toNat < 128 := by
  have := List.all_eq_true.1 h (s[k]'hk) (by rw [show s[k]'hk = s.data.toList[k]'(by simpa using hk) from rfl]; exact List.getElem_mem _)
  simpa using this
def plait_next.l0 : Nat → ByteArray → Int → Int → Int → Int → List Int → List Int → Int → Int → Option (ByteArray)
  | 0, _, _, _, _, _, _, _, _, _ => none
  | k + 1, x0, x3, x6, x7, x8, x9, x10, x29, x30 => if x30 < x29 then (if 0 ≤ x30 then (if x30 < (x9.length : Int) then ((some (x9.set (x30 : Int).toNat x7 : List Int)).bind fun y192 => (if x30 < (x10.length : Int) then ((some (x10.set (x30 : Int).toNat x6 : List Int)).bind fun y193 => (if x30 < (x0.size : Int) then (if (bt x0 x30) = 40 then (if x7 > 0 then (plait_next.l0 k x0 x3 (wrap64 (x6 + 1)) (wrap64 (x7 + 1)) x30 y192 y193 x29 (wrap64 (x30 + 1))) else (plait_next.l0 k x0 x3 (wrap64 (x6 + 1)) (wrap64 (x7 + 1)) x8 y192 y193 x29 (wrap64 (x30 + 1)))) else (plait_next.l0 k x0 x3 x6 (wrap64 (x7 - 1)) x8 y192 y193 x29 (wrap64 (x30 + 1)))) else (none))) else (none))) else (none)) else (none)) else (if x8 < 0 then (some (⟨#[]⟩ : ByteArray)) else (if 0 ≤ x8 then (if x8 < (x10.length : Int) then (if x8 ≤ (x0.size : Int) then (if (x0.extract 0 (x8 : Int).toNat).size + 1 ≤ 9223372036854775807 then ((strings_Repeat.f (⟨#[40]⟩ : ByteArray) (wrap64 (x3 - (rd x10 x8)))).bind fun t195 => (if ((x0.extract 0 (x8 : Int).toNat) ++ (⟨#[41]⟩ : ByteArray)).size + t195.size ≤ 9223372036854775807 then (if x8 < (x9.length : Int) then ((strings_Repeat.f (⟨#[41]⟩ : ByteArray) (wrap64 ((wrap64 ((rd x9 x8) - 1)) + (wrap64 (x3 - (rd x10 x8)))))).bind fun t197 => (if (((x0.extract 0 (x8 : Int).toNat) ++ (⟨#[41]⟩ : ByteArray)) ++ t195).size + t197.size ≤ 9223372036854775807 then (some ((((x0.extract 0 (x8 : Int).toNat) ++ (⟨#[41]⟩ : ByteArray)) ++ t195) ++ t197)) else (none))) else (none)) else (none))) else (none)) else (none)) else (none)) else (none)))
def plait_next.f (k : Nat) (a0 : ByteArray) : Option (ByteArray) := if plait_ascii a0 = true then (if 0 ≤ (a0.size : Int) then (if ((a0.size : Int) : Int).toNat ≤ 35184372088832 then (plait_next.l0 k a0 (plait_opens a0) 0 0 (-1) (List.replicate ((a0.size : Int) : Int).toNat 0) (List.replicate ((a0.size : Int) : Int).toNat 0) (a0.size : Int) 0) else (none)) else (none)) else none
theorem plait_next.mono_l : ∀ k, (∀ y0 y1 y2 y3 y4 y5 y6 y7 y8, LeO (plait_next.l0 k y0 y1 y2 y3 y4 y5 y6 y7 y8) (plait_next.l0 (k + 1) y0 y1 y2 y3 y4 y5 y6 y7 y8))
  | 0 => fun _ _ _ _ _ _ _ _ _ r h => by simp [plait_next.l0] at h
  | k + 1 => by
    have ih0 := plait_next.mono_l k
    · intro y0 y1 y2 y3 y4 y5 y6 y7 y8
      unfold plait_next.l0
      repeat' first
      | (with_reducible exact ih0 _ _ _ _ _ _ _ _ _)
      | (with_reducible exact LeO.refl _)
      | (with_reducible exact LeO.none _)
      | (with_reducible refine LeO.ite ?_ ?_)
      | (with_reducible refine LeO.bind ?_ (fun _ => ?_))
      | exact ih0 _ _ _ _ _ _ _ _ _
      | exact LeO.none _
      | refine LeO.ite ?_ ?_
      | refine LeO.bind ?_ (fun _ => ?_)
theorem plait_next.mono : ∀ a0 k, LeO (plait_next.f k a0) (plait_next.f (k + 1) a0) := by
  intro a0 k
  have ih0 := plait_next.mono_l k
  unfold plait_next.f
  repeat' first
      | (with_reducible exact ih0 _ _ _ _ _ _ _ _ _)
      | (with_reducible exact LeO.refl _)
      | (with_reducible exact LeO.none _)
      | (with_reducible refine LeO.ite ?_ ?_)
      | (with_reducible refine LeO.bind ?_ (fun _ => ?_))
      | exact ih0 _ _ _ _ _ _ _ _ _
      | exact LeO.none _
      | refine LeO.ite ?_ ?_
      | refine LeO.bind ?_ (fun _ => ?_)
def plait_next.T25 : Bool × List (List Nat × List Nat) := (true, [([], []), ([], []), ([0, 1], [0, 1]), ([2], [2]), ([], []), ([4], [4]), ([3, 5], [3, 5]), ([], []), ([], []), ([7, 8], [7, 8]), ([9], [9]), ([10], [10]), ([], []), ([11, 12], [11, 12]), ([13, 5], [13]), ([6, 14], [6, 14]), ([15, 14, 0, 1, 2, 3, 4, 5, 6, 7, 8, 9, 10, 11, 12, 13, 14, 15], [15])])
def plait_next.B25 : List Nat := [0, 0, 3, 7, 0, 16, 63, 0, 0, 384, 896, 1920, 0, 8064, 16304, 32767, 65535]
theorem plait_next.tab25 : rtab .any (opsOf Try.f60 25) = plait_next.T25 := by kernel_rfl
theorem plait_next.bits25 : waitsOk plait_next.T25.2 plait_next.B25 = true := by kernel_rfl
set_option maxHeartbeats 8000000 in
set_option maxRecDepth 100000 in
theorem plait_next.calls (k : Nat) (a0 : ByteArray) (r : ByteArray) (w : World) (h : plait_next.f k a0 = some r) :
    Calls Try.prog 60 #[.string a0] w fun e w' => e = .returned (.string r) ∧ Below w.heap.size w w' := by
  have HB := Aside0.mk (Below.refl w.heap.size w)
  have hg : plait_ascii a0 = true := by
    by_cases g : plait_ascii a0 = true
    · exact g
    · unfold plait_next.f at h; rw [if_neg g] at h; cases h
  have HASC := Aside0.mk hg
  have H : (if 0 ≤ (a0.size : Int) then (if ((a0.size : Int) : Int).toNat ≤ 35184372088832 then (plait_next.l0 k a0 (plait_opens a0) 0 0 (-1) (List.replicate ((a0.size : Int) : Int).toNat 0) (List.replicate ((a0.size : Int) : Int).toNat 0) (a0.size : Int) 0) else (none)) else (none)) = some r := by unfold plait_next.f at h; rw [if_pos hg] at h; exact h
  clear hg
  clear h
  by_cases c2 : 0 ≤ (a0.size : Int)
  · rw [if_pos c2] at H
    have c2b0 := eq_true c2
    have c2b1 : decide (0 ≤ (a0.size : Int)) = true := decide_eq_true c2
    clear c2
    by_cases c3 : ((a0.size : Int) : Int).toNat ≤ 35184372088832
    · rw [if_pos c3] at H
      have c3b0 := eq_true c3
      have c3b1 : decide (((a0.size : Int) : Int).toNat ≤ 35184372088832) = true := decide_eq_true c3
      clear c3
      obtain ⟨y186, hy186⟩ : ∃ y_ : List Int, y_ = (List.replicate ((a0.size : Int) : Int).toNat 0) := ⟨_, rfl⟩
      replace H : (plait_next.l0 k a0 (plait_opens a0) 0 0 (-1) y186 (List.replicate ((a0.size : Int) : Int).toNat 0) (a0.size : Int) 0) = some r := by first | (rw [hy186]; with_reducible exact H) | (have H2_ := (Option.bind_some _ _).symm.trans H; rw [hy186]; with_reducible exact H2_) | (have H2_ := (Option.bind_some _ _).symm.trans H; with_reducible exact H2_) | with_reducible exact H | (rw [hy186]; exact H) | exact H
      have Ny186 := Aside0.mk hy186
      clear hy186
      obtain ⟨y189, hy189⟩ : ∃ y_ : List Int, y_ = (List.replicate ((a0.size : Int) : Int).toNat 0) := ⟨_, rfl⟩
      replace H : (plait_next.l0 k a0 (plait_opens a0) 0 0 (-1) y186 y189 (a0.size : Int) 0) = some r := by first | (rw [hy189]; with_reducible exact H) | (have H2_ := (Option.bind_some _ _).symm.trans H; rw [hy189]; with_reducible exact H2_) | (have H2_ := (Option.bind_some _ _).symm.trans H; with_reducible exact H2_) | with_reducible exact H | (rw [hy189]; exact H) | exact H
      have Ny189 := Aside0.mk hy189
      clear hy189
      have H' := Aside0.mk H
      clear H
      go_enter Try.func60, Try.ntmps60
      go_wp2
      go_loopw [3] (fun n w' => ∃ pos : Nat, pos ≤ a0.size ∧ w' = w.iter a0 pos ∧ n = .int .i64 (((a0.data.toList.take pos).countP (fun c => c == 40) : Nat) : Int)) (fun _ w' => a0.size - w'.iterPos w.heap.size)
      case atStart => exact ⟨0, Nat.zero_le _, rfl, by simp⟩
      case round =>
        obtain ⟨pos, hpos, rfl, rfl⟩ := hrel
        by_cases hp : pos < a0.size
        · have hsn := opens_snoc a0 pos hp
          have HP := Aside0.mk hp
          have hnx : ∀ ty, (Instr.next (.pointer (some ⟨w.heap.size, 0, none⟩)) true ty).run Try.prog (w.iter a0 pos) = _ := fun ty => run_next_ascii w a0 pos ty hp (ascii_at HASC.out pos hp)
          have hle : (a0.data.toList.take pos).countP (fun c => c == 40) ≤ 35184372088832 := Nat.le_trans List.countP_le_length (by have := of_eq_true c3b0; rw [List.length_take]; omega)
          obtain ⟨c_, hc_⟩ : ∃ c_, (a0.data.toList.take pos).countP (fun c => c == 40) = c_ := ⟨_, rfl⟩
          rw [hc_] at hsn hle ⊢
          by_cases hc : (a0[pos]'hp).toNat = 40
          · have b1 : (((a0[pos]'hp).toNat : Int) == 40) = true := beq_iff_eq.2 (by omega)
            rw [if_pos hc] at hsn
            have HSN := Aside0.mk hsn
            clear hsn hc hc_
            go_wp2
            go_roundw
            case rel => exact ⟨pos + 1, HP.out, rfl, by rw [HSN.out]; go_num⟩
            case measure => (simp [World.iterPos, World.iter_heap]; have := HP.out; omega)
          · have b1 : (((a0[pos]'hp).toNat : Int) == 40) = false := beq_eq_false_iff_ne.2 (by omega)
            rw [if_neg hc] at hsn
            have HSN := Aside0.mk hsn
            clear hsn hc hc_
            go_wp2
            go_roundw
            case rel => exact ⟨pos + 1, HP.out, rfl, by rw [HSN.out]; rfl⟩
            case measure => (simp [World.iterPos, World.iter_heap]; have := HP.out; omega)
        · obtain rfl : pos = a0.size := by omega
          have hnx : ∀ ty, (Instr.next (.pointer (some ⟨w.heap.size, 0, none⟩)) true ty).run Try.prog (w.iter a0 a0.size) = _ := fun ty => run_next_end w a0 a0.size ty hp
          have hop : (((a0.data.toList.take a0.size).countP (fun c => c == 40) : Nat) : Int) = plait_opens a0 := by unfold plait_opens; rw [List.take_of_length_le (by simp)]
          rw [hop]
          clear hop hp hpos
          have hb0 : Below w.heap.size w (w.iter a0 a0.size) := (Below.refl _ _).alloc (Nat.le_refl _) _
          clear HB
          have HB := Aside0.mk hb0
          obtain ⟨w1_, hw1_⟩ : ∃ w1_, w.iter a0 a0.size = w1_ := ⟨_, rfl⟩
          rw [hw1_] at hnx HB ⊢
          clear hw1_ hb0
          go_wp2_with (first | ((with_reducible refine gate_dst (N := 24) rfl ?_); refine Kd.R_make (Kd.int .i64) _ 3 rfl (N := 24) rfl 22 _ _ rfl (a0.size : Int) rfl rfl Try.underlying22 (.int .i64 0) 8 info3 rfl (by decide) (by omega) 0 (ok := fun _ => True) (okp := fun _ => True) rfl (fun _ hk => hk) trivial (of_decide_eq_true (by first | (with_reducible assumption) | assumption)) (Nat.le_trans (Nat.mul_le_mul_right _ (of_decide_eq_true (by first | (with_reducible assumption) | assumption) : (a0.size : Int).toNat ≤ 35184372088832)) (by omega)) (Below.refl _ _) (Nat.le_refl _) ?_; intro v187 w4 ho5 hb hg_ hnew_; clear hg_ hnew_; (first | rw [← Ny186.out] at ho5 | (simp only [Int.reduceToNat] at ho5; rw [← Ny186.out] at ho5)); have n0_ := Aside0.mk (Kd.R_lower ho5 (below_size (by repeat (first | (with_reducible first | exact HB.out | apply below_alloc | apply pw_below_drewN | apply below_drew1) | exact HB.out)))); have n1_ := Aside0.mk (below_step (by repeat (first | (with_reducible first | exact HB.out | apply below_alloc | apply pw_below_drewN | apply below_drew1) | exact HB.out)) hb); clear HB; have HO188 := n0_; have HB := n1_; clear n0_ n1_; clear hb ho5) | ((with_reducible refine gate_dst (N := 27) rfl ?_); refine Kd.R_make (Kd.int .i64) _ 3 rfl (N := 27) rfl 22 _ _ rfl (a0.size : Int) rfl rfl Try.underlying22 (.int .i64 0) 8 info3 rfl (by decide) (by omega) 0 (ok := fun _ => True) (okp := fun _ => True) rfl (fun _ hk => hk) trivial (of_decide_eq_true (by first | (with_reducible assumption) | assumption)) (Nat.le_trans (Nat.mul_le_mul_right _ (of_decide_eq_true (by first | (with_reducible assumption) | assumption) : (a0.size : Int).toNat ≤ 35184372088832)) (by omega)) (Below.refl _ _) (Nat.le_refl _) ?_; intro v190 w6 ho7 hb hg_ hnew_; clear hg_ hnew_; (first | rw [← Ny189.out] at ho7 | (simp only [Int.reduceToNat] at ho7; rw [← Ny189.out] at ho7)); have n0_ := Aside0.mk (Kd.R_elder' (by (with_reducible repeat (first | apply Kd.R_alloc | apply Kd.R_drewN | apply Kd.R_drew)); exact HO188.out) (Kd.R_base ho7) hb); have n1_ := Aside0.mk (Kd.R_lower (Kd.R_new' ho7 (Kd.R_lt (by (with_reducible repeat (first | apply Kd.R_alloc | apply Kd.R_drewN | apply Kd.R_drew)); exact HO188.out))) (below_size (by repeat (first | (with_reducible first | exact HB.out | apply below_alloc | apply pw_below_drewN | apply below_drew1) | exact HB.out)))); have n2_ := Aside0.mk (below_step (by repeat (first | (with_reducible first | exact HB.out | apply below_alloc | apply pw_below_drewN | apply below_drew1) | exact HB.out)) hb); clear HO188; clear HB; have HO188 := n0_; have HO191 := n1_; have HB := n2_; clear n0_ n1_ n2_; clear hb ho7))
          go_loopg [6, 7, 8, 30] k (fun kq v6 v7 v8 v30 w' => ∃ (x6_1 : Int) (x7_1 : Int) (x8_1 : Int) (x9_1 : List Int) (x10_1 : List Int) (x30_1 : Int), v6 = .int .i64 x6_1 ∧ v7 = .int .i64 x7_1 ∧ v8 = .int .i64 x8_1 ∧ v30 = .int .i64 x30_1 ∧ Aside0 (plait_next.l0 kq a0 (plait_opens a0) x6_1 x7_1 x8_1 x9_1 x10_1 (a0.size : Int) x30_1 = some r) ∧ Aside0 (kq ≤ k) ∧ Aside0 (Kd.R (Kd.int .i64) 3 w' w.heap.size (fun k_ => some k_ ≠ (v190 : Value).ownBlock) v187 x9_1) ∧ Aside0 (Kd.R (Kd.int .i64) 3 w' w.heap.size (fun k_ => some k_ ≠ (v187 : Value).ownBlock) v190 x10_1) ∧ Aside0 (Below w.heap.size w w'))
          case atStart => exact ⟨(0), (0), ((-1)), (y186), (y189), (0), (by first | rfl | (simp; done) | (simp [*]; done)), (by first | rfl | (simp; done) | (simp [*]; done)), (by first | rfl | (simp; done) | (simp [*]; done)), (by first | rfl | (simp; done) | (simp [*]; done)), H', ⟨Nat.le_refl _⟩, ⟨by (with_reducible repeat (first | apply Kd.R_alloc | apply Kd.R_drewN | apply Kd.R_drew)); exact Kd.R_mono HO188.out (fun _ hk => hk.2)⟩, ⟨by (with_reducible repeat (first | apply Kd.R_alloc | apply Kd.R_drewN | apply Kd.R_drew)); exact Kd.R_mono HO191.out (fun _ hk => hk.2)⟩, ⟨by repeat (first | (with_reducible first | exact HB.out | apply below_alloc | apply pw_below_drewN | apply below_drew1) | exact HB.out)⟩⟩
          case round =>
            clear H'
            try clear c2
            try clear c2b0
            try clear c2b1
            try clear p2
            try clear c3
            try clear c3b0
            try clear c3b1
            try clear c6
            obtain ⟨x6_1, x7_1, x8_1, x9_1, x10_1, x30_1, rfl, rfl, rfl, rfl, HA, HK1, HO_9, HO_10, HB⟩ := hrel
            cases gk with
            | zero => exact absurd HA.out (by simp [plait_next.l0])
            | succ k1 =>
              have H := HA.out
              clear HA
              simp only [plait_next.l0] at H
              by_cases c8 : x30_1 < (a0.size : Int)
              · rw [if_pos c8] at H
                have c8b0 : decide (x30_1 < (a0.size : Int)) = true := decide_eq_true c8
                clear c8
                by_cases c9 : 0 ≤ x30_1
                · rw [if_pos c9] at H
                  have c9b0 : decide (0 ≤ x30_1) = true := decide_eq_true c9
                  clear c9
                  by_cases c10 : x30_1 < (x9_1.length : Int)
                  · rw [if_pos c10] at H
                    have c10b0 : decide (x30_1 < (x9_1.length : Int)) = true := decide_eq_true c10
                    clear c10
                    obtain ⟨y192, hy192⟩ : ∃ y_ : List Int, y_ = (x9_1.set (x30_1 : Int).toNat x7_1) := ⟨_, rfl⟩
                    replace H : (if x30_1 < (x10_1.length : Int) then ((some (x10_1.set (x30_1 : Int).toNat x6_1 : List Int)).bind fun y193 => (if x30_1 < (a0.size : Int) then (if (bt a0 x30_1) = 40 then (if x7_1 > 0 then (plait_next.l0 k1 a0 (plait_opens a0) (wrap64 (x6_1 + 1)) (wrap64 (x7_1 + 1)) x30_1 y192 y193 (a0.size : Int) (wrap64 (x30_1 + 1))) else (plait_next.l0 k1 a0 (plait_opens a0) (wrap64 (x6_1 + 1)) (wrap64 (x7_1 + 1)) x8_1 y192 y193 (a0.size : Int) (wrap64 (x30_1 + 1)))) else (plait_next.l0 k1 a0 (plait_opens a0) x6_1 (wrap64 (x7_1 - 1)) x8_1 y192 y193 (a0.size : Int) (wrap64 (x30_1 + 1)))) else (none))) else (none)) = some r := by first | (rw [hy192]; with_reducible exact H) | (have H2_ := (Option.bind_some _ _).symm.trans H; rw [hy192]; with_reducible exact H2_) | (have H2_ := (Option.bind_some _ _).symm.trans H; with_reducible exact H2_) | with_reducible exact H | (rw [hy192]; exact H) | exact H
                    have Ny192 := Aside0.mk hy192
                    clear hy192
                    by_cases c12 : x30_1 < (x10_1.length : Int)
                    · rw [if_pos c12] at H
                      have c12b0 : decide (x30_1 < (x10_1.length : Int)) = true := decide_eq_true c12
                      clear c12
                      obtain ⟨y193, hy193⟩ : ∃ y_ : List Int, y_ = (x10_1.set (x30_1 : Int).toNat x6_1) := ⟨_, rfl⟩
                      replace H : (if x30_1 < (a0.size : Int) then (if (bt a0 x30_1) = 40 then (if x7_1 > 0 then (plait_next.l0 k1 a0 (plait_opens a0) (wrap64 (x6_1 + 1)) (wrap64 (x7_1 + 1)) x30_1 y192 y193 (a0.size : Int) (wrap64 (x30_1 + 1))) else (plait_next.l0 k1 a0 (plait_opens a0) (wrap64 (x6_1 + 1)) (wrap64 (x7_1 + 1)) x8_1 y192 y193 (a0.size : Int) (wrap64 (x30_1 + 1)))) else (plait_next.l0 k1 a0 (plait_opens a0) x6_1 (wrap64 (x7_1 - 1)) x8_1 y192 y193 (a0.size : Int) (wrap64 (x30_1 + 1)))) else (none)) = some r := by first | (rw [hy193]; with_reducible exact H) | (have H2_ := (Option.bind_some _ _).symm.trans H; rw [hy193]; with_reducible exact H2_) | (have H2_ := (Option.bind_some _ _).symm.trans H; with_reducible exact H2_) | with_reducible exact H | (rw [hy193]; exact H) | exact H
                      have Ny193 := Aside0.mk hy193
                      clear hy193
                      by_cases c14 : x30_1 < (a0.size : Int)
                      · rw [if_pos c14] at H
                        have c14b0 : decide (x30_1 < (a0.size : Int)) = true := decide_eq_true c14
                        clear c14
                        by_cases c16 : (bt a0 x30_1) = 40
                        · rw [if_pos c16] at H
                          have c16b0 : ((bt a0 x30_1) == 40) = true := beq_iff_eq.mpr c16
                          have c16b1 : ((bt a0 x30_1) != 40) = false := bne_eq_false_iff_eq.mpr c16
                          clear c16
                          by_cases c17 : x7_1 > 0
                          · rw [if_pos c17] at H
                            have c17b0 : decide (0 < x7_1) = true := decide_eq_true c17
                            clear c17
                            have H' := Aside0.mk H
                            clear H
                            have p11 : 0 ≤ (x30_1 : Int) := of_decide_eq_true (by first | (with_reducible assumption) | assumption)
                            have q11 : (x30_1 : Int) < ((x9_1.length : Int) : Int) := of_decide_eq_true (by first | (with_reducible assumption) | assumption)
                            obtain ⟨go11, co11, eo11, gb11, gl11, cl11, HG11⟩ := Kd.R_form HO_9.out (by omega)
                            (first | cases eo11 | (injection eo11 with ea_ en_ ec_; (first | subst ea_ | (injection ea_ with ea_; subst ea_)); subst ec_; clear en_))
                            have GB11 := Aside0.mk gb11
                            have GG11 := Aside0.mk HG11
                            clear gb11 gl11 HG11
                            obtain ⟨hx11_0, hf11_0⟩ := Kd.R_celln 0 HO_9.out (x30_1 : Int) p11 q11
                            replace p11 := eq_true p11
                            replace q11 := eq_true q11
                            have HP18 := Kd.R_putg HO_9.out (x30_1 : Int) x7_1
                            go_wp2_with (first | ((with_reducible refine gate_store (t := 3) (p := 39) rfl ?_); refine store_event (t := 3) (p := 39) (v := ?vo_w19) (w1 := (wr.setCell ⟨go11, (x30_1 : Int).toNat, none⟩ (.int .i64 x7_1))) ?hg ?ho ?hn ?hr ?_; (case ho => rfl); (case hg => rfl); (case hn => rfl); (case hr => first | (go_simp; done) | (go_simp; rfl)); intro w19 hw; have hg : wr.grownBy w19 (some go11) := (by rw [hw]; exact HP18.2); have hp_ : Kd.R (Kd.int .i64) 3 w19 w.heap.size (fun k_ => some k_ ≠ (v190 : Value).ownBlock) (.slice (some ⟨go11, 0, none⟩) x9_1.length co11) y192 := (by rw [hw, Ny192.out]; exact HP18.1); clear HP18; have n0_ := Aside0.mk (hp_); have n1_ := Aside0.mk (Kd.R_after (v := (.slice (some ⟨go11, 0, none⟩) x9_1.length co11)) (v1 := (.slice (some ⟨go11, 0, none⟩) x9_1.length co11)) (ok := (fun _ => True)) (by (with_reducible repeat (first | apply Kd.R_alloc | apply Kd.R_drewN | apply Kd.R_drew)); exact Kd.R_mono HO_10.out (fun _ hk => ⟨trivial, hk⟩)) hg (.inl rfl)); have n2_ := Aside0.mk ((by rw [hw]; exact below_set (HB.out) GB11.out : Below w.heap.size w w19)); clear HO_9; clear HO_10; clear HB; have HO_9 := n0_; have HO_10 := n1_; have HB := n2_; clear n0_ n1_ n2_; clear hg hw hp_; have p13 : 0 ≤ (x30_1 : Int) := of_decide_eq_true (by first | (with_reducible assumption) | assumption); have q13 : (x30_1 : Int) < ((x10_1.length : Int) : Int) := of_decide_eq_true (by first | (with_reducible assumption) | assumption); obtain ⟨go13, co13, eo13, gb13, gl13, cl13, HG13⟩ := Kd.R_form HO_10.out (by omega); (first | cases eo13 | (injection eo13 with ea_ en_ ec_; (first | subst ea_ | (injection ea_ with ea_; subst ea_)); subst ec_; clear en_)); have GB13 := Aside0.mk gb13; have GG13 := Aside0.mk HG13; clear gb13 gl13 HG13; obtain ⟨hx13_0, hf13_0⟩ := Kd.R_celln 0 HO_10.out (x30_1 : Int) p13 q13; replace p13 := eq_true p13; replace q13 := eq_true q13; have n_ := Aside0.mk (Kd.R_mono (ok' := (fun k_ => some k_ ≠ (.slice (some ⟨go11, 0, none⟩) x9_1.length co11 : Value).ownBlock)) HO_10.out (fun k_ hk => hk.2)); clear HO_10; have HO_10 := n_; clear n_; obtain ⟨hy20_, hz20_⟩ := Kd.R_celln 0 HO_10.out (x30_1 : Int) (of_decide_eq_true (by first | (with_reducible assumption) | assumption)) (of_decide_eq_true (by first | (with_reducible assumption) | assumption)); have HP20 := Kd.R_putg HO_10.out (x30_1 : Int) x6_1) | ((with_reducible refine gate_store (t := 3) (p := 40) rfl ?_); refine store_event (t := 3) (p := 40) (v := ?vo_w21) (w1 := (w19.setCell ⟨go13, (x30_1 : Int).toNat, none⟩ (.int .i64 x6_1))) ?hg ?ho ?hn ?hr ?_; (case ho => rfl); (case hg => rfl); (case hn => rfl); (case hr => first | (go_simp; done) | (go_simp; rfl)); intro w21 hw; have hg : w19.grownBy w21 (some go13) := (by rw [hw]; exact HP20.2); have hp_ : Kd.R (Kd.int .i64) 3 w21 w.heap.size (fun k_ => some k_ ≠ (.slice (some ⟨go11, 0, none⟩) x9_1.length co11 : Value).ownBlock) (.slice (some ⟨go13, 0, none⟩) x10_1.length co13) y193 := (by rw [hw, Ny193.out]; exact HP20.1); clear HP20; have n0_ := Aside0.mk (Kd.R_after (v := (.slice (some ⟨go13, 0, none⟩) x10_1.length co13)) (v1 := (.slice (some ⟨go13, 0, none⟩) x10_1.length co13)) (ok := (fun _ => True)) (by (with_reducible repeat (first | apply Kd.R_alloc | apply Kd.R_drewN | apply Kd.R_drew)); exact Kd.R_mono HO_9.out (fun _ hk => ⟨trivial, hk⟩)) hg (.inl rfl)); have n1_ := Aside0.mk (hp_); have n2_ := Aside0.mk ((by rw [hw]; exact below_set (HB.out) GB13.out : Below w.heap.size w w21)); clear HO_9; clear HO_10; clear HB; have HO_9 := n0_; have HO_10 := n1_; have HB := n2_; clear n0_ n1_ n2_; clear hg hw hp_; have p15 : 0 ≤ (x30_1 : Int) := of_decide_eq_true (by first | (with_reducible assumption) | assumption); have q15 : x30_1 < (a0.size : Int) := of_decide_eq_true (by first | (with_reducible assumption) | assumption); have hx15 := bt_at a0 x30_1; replace p15 := eq_true p15; replace q15 := eq_true q15))
                            go_roundg k1
                            case measure => have := HK1.out; omega
                            case rel => exact ⟨(wrap64 (x6_1 + 1)), (wrap64 (x7_1 + 1)), (x30_1), (y192), (y193), (wrap64 (x30_1 + 1)), (by first | rfl | (simp; done) | (simp [*]; done)), (by first | rfl | (simp; done) | (simp [*]; done)), (by first | rfl | (simp; done) | (simp [*]; done)), (by first | rfl | (simp; done) | (simp [*]; done)), H', ⟨by have := HK1.out; omega⟩, ⟨by (with_reducible repeat (first | apply Kd.R_alloc | apply Kd.R_drewN | apply Kd.R_drew)); exact Kd.R_mono HO_9.out (fun _ hk => hk.2)⟩, ⟨by (with_reducible repeat (first | apply Kd.R_alloc | apply Kd.R_drewN | apply Kd.R_drew)); exact HO_10.out⟩, ⟨by repeat (first | (with_reducible first | exact HB.out | apply below_alloc | apply pw_below_drewN | apply below_drew1) | exact HB.out)⟩⟩
                          · rw [if_neg c17] at H
                            have c17b0 : decide (0 < x7_1) = false := decide_eq_false c17
                            clear c17
                            have H' := Aside0.mk H
                            clear H
                            have p11 : 0 ≤ (x30_1 : Int) := of_decide_eq_true (by first | (with_reducible assumption) | assumption)
                            have q11 : (x30_1 : Int) < ((x9_1.length : Int) : Int) := of_decide_eq_true (by first | (with_reducible assumption) | assumption)
                            obtain ⟨go11, co11, eo11, gb11, gl11, cl11, HG11⟩ := Kd.R_form HO_9.out (by omega)
                            (first | cases eo11 | (injection eo11 with ea_ en_ ec_; (first | subst ea_ | (injection ea_ with ea_; subst ea_)); subst ec_; clear en_))
                            have GB11 := Aside0.mk gb11
                            have GG11 := Aside0.mk HG11
                            clear gb11 gl11 HG11
                            obtain ⟨hx11_0, hf11_0⟩ := Kd.R_celln 0 HO_9.out (x30_1 : Int) p11 q11
                            replace p11 := eq_true p11
                            replace q11 := eq_true q11
                            have HP22 := Kd.R_putg HO_9.out (x30_1 : Int) x7_1
                            go_wp2_with (first | ((with_reducible refine gate_store (t := 3) (p := 39) rfl ?_); refine store_event (t := 3) (p := 39) (v := ?vo_w23) (w1 := (wr.setCell ⟨go11, (x30_1 : Int).toNat, none⟩ (.int .i64 x7_1))) ?hg ?ho ?hn ?hr ?_; (case ho => rfl); (case hg => rfl); (case hn => rfl); (case hr => first | (go_simp; done) | (go_simp; rfl)); intro w23 hw; have hg : wr.grownBy w23 (some go11) := (by rw [hw]; exact HP22.2); have hp_ : Kd.R (Kd.int .i64) 3 w23 w.heap.size (fun k_ => some k_ ≠ (v190 : Value).ownBlock) (.slice (some ⟨go11, 0, none⟩) x9_1.length co11) y192 := (by rw [hw, Ny192.out]; exact HP22.1); clear HP22; have n0_ := Aside0.mk (hp_); have n1_ := Aside0.mk (Kd.R_after (v := (.slice (some ⟨go11, 0, none⟩) x9_1.length co11)) (v1 := (.slice (some ⟨go11, 0, none⟩) x9_1.length co11)) (ok := (fun _ => True)) (by (with_reducible repeat (first | apply Kd.R_alloc | apply Kd.R_drewN | apply Kd.R_drew)); exact Kd.R_mono HO_10.out (fun _ hk => ⟨trivial, hk⟩)) hg (.inl rfl)); have n2_ := Aside0.mk ((by rw [hw]; exact below_set (HB.out) GB11.out : Below w.heap.size w w23)); clear HO_9; clear HO_10; clear HB; have HO_9 := n0_; have HO_10 := n1_; have HB := n2_; clear n0_ n1_ n2_; clear hg hw hp_; have p13 : 0 ≤ (x30_1 : Int) := of_decide_eq_true (by first | (with_reducible assumption) | assumption); have q13 : (x30_1 : Int) < ((x10_1.length : Int) : Int) := of_decide_eq_true (by first | (with_reducible assumption) | assumption); obtain ⟨go13, co13, eo13, gb13, gl13, cl13, HG13⟩ := Kd.R_form HO_10.out (by omega); (first | cases eo13 | (injection eo13 with ea_ en_ ec_; (first | subst ea_ | (injection ea_ with ea_; subst ea_)); subst ec_; clear en_)); have GB13 := Aside0.mk gb13; have GG13 := Aside0.mk HG13; clear gb13 gl13 HG13; obtain ⟨hx13_0, hf13_0⟩ := Kd.R_celln 0 HO_10.out (x30_1 : Int) p13 q13; replace p13 := eq_true p13; replace q13 := eq_true q13; have n_ := Aside0.mk (Kd.R_mono (ok' := (fun k_ => some k_ ≠ (.slice (some ⟨go11, 0, none⟩) x9_1.length co11 : Value).ownBlock)) HO_10.out (fun k_ hk => hk.2)); clear HO_10; have HO_10 := n_; clear n_; obtain ⟨hy24_, hz24_⟩ := Kd.R_celln 0 HO_10.out (x30_1 : Int) (of_decide_eq_true (by first | (with_reducible assumption) | assumption)) (of_decide_eq_true (by first | (with_reducible assumption) | assumption)); have HP24 := Kd.R_putg HO_10.out (x30_1 : Int) x6_1) | ((with_reducible refine gate_store (t := 3) (p := 40) rfl ?_); refine store_event (t := 3) (p := 40) (v := ?vo_w25) (w1 := (w23.setCell ⟨go13, (x30_1 : Int).toNat, none⟩ (.int .i64 x6_1))) ?hg ?ho ?hn ?hr ?_; (case ho => rfl); (case hg => rfl); (case hn => rfl); (case hr => first | (go_simp; done) | (go_simp; rfl)); intro w25 hw; have hg : w23.grownBy w25 (some go13) := (by rw [hw]; exact HP24.2); have hp_ : Kd.R (Kd.int .i64) 3 w25 w.heap.size (fun k_ => some k_ ≠ (.slice (some ⟨go11, 0, none⟩) x9_1.length co11 : Value).ownBlock) (.slice (some ⟨go13, 0, none⟩) x10_1.length co13) y193 := (by rw [hw, Ny193.out]; exact HP24.1); clear HP24; have n0_ := Aside0.mk (Kd.R_after (v := (.slice (some ⟨go13, 0, none⟩) x10_1.length co13)) (v1 := (.slice (some ⟨go13, 0, none⟩) x10_1.length co13)) (ok := (fun _ => True)) (by (with_reducible repeat (first | apply Kd.R_alloc | apply Kd.R_drewN | apply Kd.R_drew)); exact Kd.R_mono HO_9.out (fun _ hk => ⟨trivial, hk⟩)) hg (.inl rfl)); have n1_ := Aside0.mk (hp_); have n2_ := Aside0.mk ((by rw [hw]; exact below_set (HB.out) GB13.out : Below w.heap.size w w25)); clear HO_9; clear HO_10; clear HB; have HO_9 := n0_; have HO_10 := n1_; have HB := n2_; clear n0_ n1_ n2_; clear hg hw hp_; have p15 : 0 ≤ (x30_1 : Int) := of_decide_eq_true (by first | (with_reducible assumption) | assumption); have q15 : x30_1 < (a0.size : Int) := of_decide_eq_true (by first | (with_reducible assumption) | assumption); have hx15 := bt_at a0 x30_1; replace p15 := eq_true p15; replace q15 := eq_true q15))
                            go_roundg k1
                            case measure => have := HK1.out; omega
                            case rel => exact ⟨(wrap64 (x6_1 + 1)), (wrap64 (x7_1 + 1)), (x8_1), (y192), (y193), (wrap64 (x30_1 + 1)), (by first | rfl | (simp; done) | (simp [*]; done)), (by first | rfl | (simp; done) | (simp [*]; done)), (by first | rfl | (simp; done) | (simp [*]; done)), (by first | rfl | (simp; done) | (simp [*]; done)), H', ⟨by have := HK1.out; omega⟩, ⟨by (with_reducible repeat (first | apply Kd.R_alloc | apply Kd.R_drewN | apply Kd.R_drew)); exact Kd.R_mono HO_9.out (fun _ hk => hk.2)⟩, ⟨by (with_reducible repeat (first | apply Kd.R_alloc | apply Kd.R_drewN | apply Kd.R_drew)); exact HO_10.out⟩, ⟨by repeat (first | (with_reducible first | exact HB.out | apply below_alloc | apply pw_below_drewN | apply below_drew1) | exact HB.out)⟩⟩
                        · rw [if_neg c16] at H
                          have c16b0 : ((bt a0 x30_1) == 40) = false := beq_eq_false_iff_ne.mpr c16
                          have c16b1 : ((bt a0 x30_1) != 40) = true := bne_iff_ne.mpr c16
                          have H' := Aside0.mk H
                          clear H
                          have p11 : 0 ≤ (x30_1 : Int) := of_decide_eq_true (by first | (with_reducible assumption) | assumption)
                          have q11 : (x30_1 : Int) < ((x9_1.length : Int) : Int) := of_decide_eq_true (by first | (with_reducible assumption) | assumption)
                          obtain ⟨go11, co11, eo11, gb11, gl11, cl11, HG11⟩ := Kd.R_form HO_9.out (by omega)
                          (first | cases eo11 | (injection eo11 with ea_ en_ ec_; (first | subst ea_ | (injection ea_ with ea_; subst ea_)); subst ec_; clear en_))
                          have GB11 := Aside0.mk gb11
                          have GG11 := Aside0.mk HG11
                          clear gb11 gl11 HG11
                          obtain ⟨hx11_0, hf11_0⟩ := Kd.R_celln 0 HO_9.out (x30_1 : Int) p11 q11
                          replace p11 := eq_true p11
                          replace q11 := eq_true q11
                          have HP26 := Kd.R_putg HO_9.out (x30_1 : Int) x7_1
                          go_wp2_with (first | ((with_reducible refine gate_store (t := 3) (p := 39) rfl ?_); refine store_event (t := 3) (p := 39) (v := ?vo_w27) (w1 := (wr.setCell ⟨go11, (x30_1 : Int).toNat, none⟩ (.int .i64 x7_1))) ?hg ?ho ?hn ?hr ?_; (case ho => rfl); (case hg => rfl); (case hn => rfl); (case hr => first | (go_simp; done) | (go_simp; rfl)); intro w27 hw; have hg : wr.grownBy w27 (some go11) := (by rw [hw]; exact HP26.2); have hp_ : Kd.R (Kd.int .i64) 3 w27 w.heap.size (fun k_ => some k_ ≠ (v190 : Value).ownBlock) (.slice (some ⟨go11, 0, none⟩) x9_1.length co11) y192 := (by rw [hw, Ny192.out]; exact HP26.1); clear HP26; have n0_ := Aside0.mk (hp_); have n1_ := Aside0.mk (Kd.R_after (v := (.slice (some ⟨go11, 0, none⟩) x9_1.length co11)) (v1 := (.slice (some ⟨go11, 0, none⟩) x9_1.length co11)) (ok := (fun _ => True)) (by (with_reducible repeat (first | apply Kd.R_alloc | apply Kd.R_drewN | apply Kd.R_drew)); exact Kd.R_mono HO_10.out (fun _ hk => ⟨trivial, hk⟩)) hg (.inl rfl)); have n2_ := Aside0.mk ((by rw [hw]; exact below_set (HB.out) GB11.out : Below w.heap.size w w27)); clear HO_9; clear HO_10; clear HB; have HO_9 := n0_; have HO_10 := n1_; have HB := n2_; clear n0_ n1_ n2_; clear hg hw hp_; have p13 : 0 ≤ (x30_1 : Int) := of_decide_eq_true (by first | (with_reducible assumption) | assumption); have q13 : (x30_1 : Int) < ((x10_1.length : Int) : Int) := of_decide_eq_true (by first | (with_reducible assumption) | assumption); obtain ⟨go13, co13, eo13, gb13, gl13, cl13, HG13⟩ := Kd.R_form HO_10.out (by omega); (first | cases eo13 | (injection eo13 with ea_ en_ ec_; (first | subst ea_ | (injection ea_ with ea_; subst ea_)); subst ec_; clear en_)); have GB13 := Aside0.mk gb13; have GG13 := Aside0.mk HG13; clear gb13 gl13 HG13; obtain ⟨hx13_0, hf13_0⟩ := Kd.R_celln 0 HO_10.out (x30_1 : Int) p13 q13; replace p13 := eq_true p13; replace q13 := eq_true q13; have n_ := Aside0.mk (Kd.R_mono (ok' := (fun k_ => some k_ ≠ (.slice (some ⟨go11, 0, none⟩) x9_1.length co11 : Value).ownBlock)) HO_10.out (fun k_ hk => hk.2)); clear HO_10; have HO_10 := n_; clear n_; obtain ⟨hy28_, hz28_⟩ := Kd.R_celln 0 HO_10.out (x30_1 : Int) (of_decide_eq_true (by first | (with_reducible assumption) | assumption)) (of_decide_eq_true (by first | (with_reducible assumption) | assumption)); have HP28 := Kd.R_putg HO_10.out (x30_1 : Int) x6_1) | ((with_reducible refine gate_store (t := 3) (p := 40) rfl ?_); refine store_event (t := 3) (p := 40) (v := ?vo_w29) (w1 := (w27.setCell ⟨go13, (x30_1 : Int).toNat, none⟩ (.int .i64 x6_1))) ?hg ?ho ?hn ?hr ?_; (case ho => rfl); (case hg => rfl); (case hn => rfl); (case hr => first | (go_simp; done) | (go_simp; rfl)); intro w29 hw; have hg : w27.grownBy w29 (some go13) := (by rw [hw]; exact HP28.2); have hp_ : Kd.R (Kd.int .i64) 3 w29 w.heap.size (fun k_ => some k_ ≠ (.slice (some ⟨go11, 0, none⟩) x9_1.length co11 : Value).ownBlock) (.slice (some ⟨go13, 0, none⟩) x10_1.length co13) y193 := (by rw [hw, Ny193.out]; exact HP28.1); clear HP28; have n0_ := Aside0.mk (Kd.R_after (v := (.slice (some ⟨go13, 0, none⟩) x10_1.length co13)) (v1 := (.slice (some ⟨go13, 0, none⟩) x10_1.length co13)) (ok := (fun _ => True)) (by (with_reducible repeat (first | apply Kd.R_alloc | apply Kd.R_drewN | apply Kd.R_drew)); exact Kd.R_mono HO_9.out (fun _ hk => ⟨trivial, hk⟩)) hg (.inl rfl)); have n1_ := Aside0.mk (hp_); have n2_ := Aside0.mk ((by rw [hw]; exact below_set (HB.out) GB13.out : Below w.heap.size w w29)); clear HO_9; clear HO_10; clear HB; have HO_9 := n0_; have HO_10 := n1_; have HB := n2_; clear n0_ n1_ n2_; clear hg hw hp_; have p15 : 0 ≤ (x30_1 : Int) := of_decide_eq_true (by first | (with_reducible assumption) | assumption); have q15 : x30_1 < (a0.size : Int) := of_decide_eq_true (by first | (with_reducible assumption) | assumption); have hx15 := bt_at a0 x30_1; replace p15 := eq_true p15; replace q15 := eq_true q15))
                          go_roundg k1
                          case measure => have := HK1.out; omega
                          case rel => exact ⟨(x6_1), (wrap64 (x7_1 - 1)), (x8_1), (y192), (y193), (wrap64 (x30_1 + 1)), (by first | rfl | (simp; done) | (simp [*]; done)), (by first | rfl | (simp; done) | (simp [*]; done)), (by first | rfl | (simp; done) | (simp [*]; done)), (by first | rfl | (simp; done) | (simp [*]; done)), H', ⟨by have := HK1.out; omega⟩, ⟨by (with_reducible repeat (first | apply Kd.R_alloc | apply Kd.R_drewN | apply Kd.R_drew)); exact Kd.R_mono HO_9.out (fun _ hk => hk.2)⟩, ⟨by (with_reducible repeat (first | apply Kd.R_alloc | apply Kd.R_drewN | apply Kd.R_drew)); exact HO_10.out⟩, ⟨by repeat (first | (with_reducible first | exact HB.out | apply below_alloc | apply pw_below_drewN | apply below_drew1) | exact HB.out)⟩⟩
                      · rw [if_neg c14] at H
                        exact absurd H (by simp)
                    · rw [if_neg c12] at H
                      exact absurd H (by simp)
                  · rw [if_neg c10] at H
                    exact absurd H (by simp)
                · rw [if_neg c9] at H
                  exact absurd H (by simp)
              · rw [if_neg c8] at H
                have c8b0 : decide (x30_1 < (a0.size : Int)) = false := decide_eq_false c8
                clear c8
                by_cases c30 : x8_1 < 0
                · rw [if_pos c30] at H
                  have c30b0 : decide (x8_1 < 0) = true := decide_eq_true c30
                  clear c30
                  obtain rfl := Option.some.inj H
                  go_wp2
                  go_ret
                  exact ⟨by first | rfl | (simp [errW_none, errW_some] <;> rfl) | (simp [*, errW_none, errW_some] <;> rfl), by repeat (first | (with_reducible first | exact HB.out | apply below_alloc | apply pw_below_drewN | apply below_drew1) | exact HB.out)⟩
                · rw [if_neg c30] at H
                  have c30b0 : decide (x8_1 < 0) = false := decide_eq_false c30
                  clear c30
                  by_cases c31 : 0 ≤ x8_1
                  · rw [if_pos c31] at H
                    have c31b0 : decide (0 ≤ x8_1) = true := decide_eq_true c31
                    clear c31
                    by_cases c32 : x8_1 < (x10_1.length : Int)
                    · rw [if_pos c32] at H
                      have c32b0 : decide (x8_1 < (x10_1.length : Int)) = true := decide_eq_true c32
                      clear c32
                      have c33b0 := eq_true (of_decide_eq_true (by first | (with_reducible assumption) | assumption) : 0 ≤ x8_1)
                      by_cases c34 : x8_1 ≤ (a0.size : Int)
                      · rw [if_pos c34] at H
                        have c34b0 := eq_true c34
                        have c34b1 : decide (x8_1 ≤ (a0.size : Int)) = true := decide_eq_true c34
                        clear c34
                        by_cases c35 : (a0.extract 0 (x8_1 : Int).toNat).size + 1 ≤ 9223372036854775807
                        · rw [if_pos c35] at H
                          have c35b0 := eq_true c35
                          have c35b1 : decide ((a0.extract 0 (x8_1 : Int).toNat).size + 1 ≤ 9223372036854775807) = true := decide_eq_true c35
                          try have c35b2 : (9223372036854775807 < (a0.extract 0 (x8_1 : Int).toNat).size + 1) = False := eq_false (Nat.not_lt.2 c35)
                          (try have c35b3 : (9223372036854775807 < x8_1.toNat + 1) = False := eq_false (by have h2_ := of_eq_true c35b0; rw [ByteArray.size_extract] at h2_; have h1_ : x8_1 ≤ (a0.size : Int) := of_decide_eq_true (by assumption); simp at h2_; omega))
                          replace H := Option.bind_eq_some_iff.mp H
                          obtain ⟨t195, A360, H⟩ := H
                          replace H : (if ((a0.extract 0 (x8_1 : Int).toNat) ++ (⟨#[41]⟩ : ByteArray)).size + t195.size ≤ 9223372036854775807 then (if x8_1 < (x9_1.length : Int) then ((strings_Repeat.f (⟨#[41]⟩ : ByteArray) (wrap64 ((wrap64 ((rd x9_1 x8_1) - 1)) + (wrap64 ((plait_opens a0) - (rd x10_1 x8_1)))))).bind fun t197 => (if (((a0.extract 0 (x8_1 : Int).toNat) ++ (⟨#[41]⟩ : ByteArray)) ++ t195).size + t197.size ≤ 9223372036854775807 then (some ((((a0.extract 0 (x8_1 : Int).toNat) ++ (⟨#[41]⟩ : ByteArray)) ++ t195) ++ t197)) else (none))) else (none)) else (none)) = some r := H
                          have A36 := Aside0.mk A360
                          clear A360
                          by_cases c37 : ((a0.extract 0 (x8_1 : Int).toNat) ++ (⟨#[41]⟩ : ByteArray)).size + t195.size ≤ 9223372036854775807
                          · rw [if_pos c37] at H
                            have c37b0 := eq_true c37
                            have c37b1 : decide (((a0.extract 0 (x8_1 : Int).toNat) ++ (⟨#[41]⟩ : ByteArray)).size + t195.size ≤ 9223372036854775807) = true := decide_eq_true c37
                            try have c37b2 : (9223372036854775807 < ((a0.extract 0 (x8_1 : Int).toNat) ++ (⟨#[41]⟩ : ByteArray)).size + t195.size) = False := eq_false (Nat.not_lt.2 c37)
                            (try have c37b3 : (9223372036854775807 < x8_1.toNat + 1 + t195.size) = False := eq_false (by have h2_ := of_eq_true c37b0; simp only [ByteArray.size_append, ByteArray.size_extract] at h2_; have h1_ : x8_1 ≤ (a0.size : Int) := of_decide_eq_true (by assumption); have h3_ : (⟨#[41]⟩ : ByteArray).size = 1 := rfl; omega))
                            by_cases c38 : x8_1 < (x9_1.length : Int)
                            · rw [if_pos c38] at H
                              have c38b0 : decide (x8_1 < (x9_1.length : Int)) = true := decide_eq_true c38
                              clear c38
                              replace H := Option.bind_eq_some_iff.mp H
                              obtain ⟨t197, A390, H⟩ := H
                              replace H : (if (((a0.extract 0 (x8_1 : Int).toNat) ++ (⟨#[41]⟩ : ByteArray)) ++ t195).size + t197.size ≤ 9223372036854775807 then (some ((((a0.extract 0 (x8_1 : Int).toNat) ++ (⟨#[41]⟩ : ByteArray)) ++ t195) ++ t197)) else (none)) = some r := H
                              have A39 := Aside0.mk A390
                              clear A390
                              by_cases c40 : (((a0.extract 0 (x8_1 : Int).toNat) ++ (⟨#[41]⟩ : ByteArray)) ++ t195).size + t197.size ≤ 9223372036854775807
                              · rw [if_pos c40] at H
                                have c40b0 := eq_true c40
                                have c40b1 : decide ((((a0.extract 0 (x8_1 : Int).toNat) ++ (⟨#[41]⟩ : ByteArray)) ++ t195).size + t197.size ≤ 9223372036854775807) = true := decide_eq_true c40
                                try have c40b2 : (9223372036854775807 < (((a0.extract 0 (x8_1 : Int).toNat) ++ (⟨#[41]⟩ : ByteArray)) ++ t195).size + t197.size) = False := eq_false (Nat.not_lt.2 c40)
                                (try have c40b3 : (9223372036854775807 < x8_1.toNat + 1 + t195.size + t197.size) = False := eq_false (by have h2_ := of_eq_true c40b0; simp only [ByteArray.size_append, ByteArray.size_extract] at h2_; have h1_ : x8_1 ≤ (a0.size : Int) := of_decide_eq_true (by assumption); have h3_ : (⟨#[41]⟩ : ByteArray).size = 1 := rfl; omega))
                                obtain rfl := Option.some.inj H
                                obtain ⟨Ao41, co41, eo41⟩ := Kd.R_slice HO_10.out
                                subst eo41
                                have p194 : 0 ≤ (x8_1 : Int) := of_decide_eq_true (by first | (with_reducible assumption) | assumption)
                                have q194 : x8_1 < (x10_1.length : Int) := of_decide_eq_true (by first | (with_reducible assumption) | assumption)
                                obtain ⟨ad194, e194, hx194_0⟩ := Kd.at_int (Kd.R_reads' HO_10.out).2.2 x8_1 p194 q194
                                cases e194
                                replace p194 := eq_true p194
                                replace q194 := eq_true q194
                                try go_wp2
                                have n0_ := Aside0.mk (Kd.R_drew HO_9.out)
                                have n1_ := Aside0.mk (Kd.R_drew HO_10.out)
                                have n2_ := Aside0.mk (below_drew1 HB.out)
                                clear HO_9
                                clear HO_10
                                clear HB
                                have HO_9 := n0_
                                have HO_10 := n1_
                                have HB := n2_
                                clear n0_ n1_ n2_
                                obtain ⟨Ao43, co43, eo43⟩ := Kd.R_slice HO_9.out
                                (first | subst eo43 | (injection eo43 with f1_ f2_ f3_; have f4_ := f1_.symm; have f5_ := f3_.symm; clear f1_ f2_ f3_; subst f4_; subst f5_))
                                have p196 : 0 ≤ (x8_1 : Int) := of_decide_eq_true (by first | (with_reducible assumption) | assumption)
                                have q196 : x8_1 < (x9_1.length : Int) := of_decide_eq_true (by first | (with_reducible assumption) | assumption)
                                obtain ⟨ad196, e196, hx196_0⟩ := Kd.at_int (Kd.R_reads' HO_9.out).2.2 x8_1 p196 q196
                                cases e196
                                replace p196 := eq_true p196
                                replace q196 := eq_true q196
                                refine start_ (n := 17) (S := fun w' => w'.cell? (ad196.add (x8_1).toNat) = some (.int .i64 (rd x9_1 x8_1))) (ds := []) #[false, false, false, false, false, false, false, false, false, false, false, false, false, false, false, false, false] (by kernel_rfl) rfl rfl (hx196_0) (fun hHeld => ?_); refine with_tabW plait_next.tab25 plait_next.bits25 (fun HT_ HW_ => ?_)
                                generalize wr.drew = w42 at HO_9 HO_10 HB hx196_0 hHeld ⊢
                                refine pure_ (i := 0) (N := some 63) (v := ?_) (a' := ?_) #[true, false, false, false, false, false, false, false, false, false, false, false, false, false, false, false, false] rfl rfl (any_of HT_.out (by kernel_rfl)) (fun _ _ _ h => h) (Or.inl ⟨by rfl, ?_⟩) ?_ ?_
                                rotate_left
                                · intro w'
                                  go_simp
                                  with_reducible rfl
                                rotate_left
                                · simp only [Act.put, List.setIfInBounds_toArray, List.set_cons_zero, List.set_cons_succ, i64_w, i32_w]
                                  rfl
                                refine pure_ (i := 1) (N := some 64) (v := ?_) (a' := ?_) #[true, true, false, false, false, false, false, false, false, false, false, false, false, false, false, false, false] rfl rfl (any_of HT_.out (by kernel_rfl)) (fun _ _ _ h => h) (Or.inl ⟨by rfl, ?_⟩) ?_ ?_
                                rotate_left
                                · intro w'
                                  go_simp
                                  with_reducible rfl
                                rotate_left
                                · simp only [Act.put, List.setIfInBounds_toArray, List.set_cons_zero, List.set_cons_succ, i64_w, i32_w]
                                  rfl
                                refine pure_ (i := 2) (N := some 65) (v := ?_) (a' := ?_) #[true, true, true, false, false, false, false, false, false, false, false, false, false, false, false, false, false] rfl rfl (any_of HT_.out (by kernel_rfl)) (fun _ _ _ h => h) (Or.inl ⟨by rfl, ?_⟩) ?_ ?_
                                rotate_left
                                · intro w'
                                  go_simp
                                  with_reducible rfl
                                rotate_left
                                · simp only [Act.put, List.setIfInBounds_toArray, List.set_cons_zero, List.set_cons_succ, i64_w, i32_w]
                                  rfl
                                refine pure_ (i := 3) (N := some 66) (v := ?_) (a' := ?_) #[true, true, true, true, false, false, false, false, false, false, false, false, false, false, false, false, false] rfl rfl (any_of HT_.out (by kernel_rfl)) (fun _ _ _ h => h) (Or.inl ⟨by rfl, ?_⟩) ?_ ?_
                                rotate_left
                                · intro w'
                                  go_simp
                                  with_reducible rfl
                                rotate_left
                                · simp only [Act.put, List.setIfInBounds_toArray, List.set_cons_zero, List.set_cons_succ, i64_w, i32_w]
                                  rfl
                                refine pure_ (i := 4) (N := some 67) (v := ?_) (a' := ?_) #[true, true, true, true, true, false, false, false, false, false, false, false, false, false, false, false, false] rfl rfl (any_of HT_.out (by kernel_rfl)) (fun _ _ _ h => h) (Or.inl ⟨by rfl, ?_⟩) ?_ ?_
                                rotate_left
                                · intro w'
                                  go_simp
                                  with_reducible rfl
                                rotate_left
                                · simp only [Act.put, List.setIfInBounds_toArray, List.set_cons_zero, List.set_cons_succ, i64_w, i32_w]
                                  rfl
                                refine pure_ (i := 7) (N := some 70) (v := ?_) (a' := ?_) #[true, true, true, true, true, false, false, true, false, false, false, false, false, false, false, false, false] rfl rfl (any_of HT_.out (by kernel_rfl)) (fun _ _ _ h => h) (Or.inl ⟨by rfl, ?_⟩) ?_ ?_
                                rotate_left
                                · intro w'
                                  go_simp
                                  with_reducible rfl
                                rotate_left
                                · simp only [Act.put, List.setIfInBounds_toArray, List.set_cons_zero, List.set_cons_succ, i64_w, i32_w]
                                  rfl
                                refine pure_ (i := 8) (N := some 71) (v := ?_) (a' := ?_) #[true, true, true, true, true, false, false, true, true, false, false, false, false, false, false, false, false] rfl rfl (any_of HT_.out (by kernel_rfl)) (fun _ _ _ h => h) (Or.inl ⟨by rfl, ?_⟩) ?_ ?_
                                rotate_left
                                · intro w'
                                  go_simp
                                  with_reducible rfl
                                rotate_left
                                · simp only [Act.put, List.setIfInBounds_toArray, List.set_cons_zero, List.set_cons_succ, i64_w, i32_w]
                                  rfl
                                refine pure_ (i := 9) (N := some 72) (v := ?_) (a' := ?_) #[true, true, true, true, true, false, false, true, true, true, false, false, false, false, false, false, false] rfl rfl (any_of HT_.out (by kernel_rfl)) (fun _ _ _ h => h) (Or.inl ⟨by rfl, ?_⟩) ?_ ?_
                                rotate_left
                                · intro w'
                                  go_simp
                                  with_reducible rfl
                                rotate_left
                                · simp only [Act.put, List.setIfInBounds_toArray, List.set_cons_zero, List.set_cons_succ, i64_w, i32_w]
                                  rfl
                                refine pure_ (i := 12) (N := some 75) (v := ?_) (a' := ?_) #[true, true, true, true, true, false, false, true, true, true, false, false, true, false, false, false, false] rfl rfl (any_of HT_.out (by kernel_rfl)) (fun _ _ _ h => h) (Or.inl ⟨by rfl, ?_⟩) ?_ ?_
                                rotate_left
                                · intro w'
                                  go_simp
                                  with_reducible rfl
                                rotate_left
                                · simp only [Act.put, List.setIfInBounds_toArray, List.set_cons_zero, List.set_cons_succ, i64_w, i32_w]
                                  rfl
                                refine take_ (i := 10) (N := some 73) (v := ?_) (a' := ?_) #[true, true, true, true, true, false, false, true, true, true, true, false, true, false, false, false, false] rfl rfl (take_ofW HT_.out HW_.out (by kernel_rfl)) (fun _ _ _ h => h) (Or.inl ⟨by rfl, ?_⟩) hHeld ?_ ?_
                                rotate_left
                                · intro w' s0
                                  go_simp
                                  with_reducible rfl
                                rotate_left
                                · simp only [Act.put, List.setIfInBounds_toArray, List.set_cons_zero, List.set_cons_succ, i64_w, i32_w]
                                  rfl
                                refine pure_ (i := 11) (N := some 74) (v := ?_) (a' := ?_) #[true, true, true, true, true, false, false, true, true, true, true, true, true, false, false, false, false] rfl rfl (any_of HT_.out (by kernel_rfl)) (fun _ _ _ h => h) (Or.inl ⟨by rfl, ?_⟩) ?_ ?_
                                rotate_left
                                · intro w'
                                  go_simp
                                  with_reducible rfl
                                rotate_left
                                · simp only [Act.put, List.setIfInBounds_toArray, List.set_cons_zero, List.set_cons_succ, i64_w, i32_w]
                                  rfl
                                refine pure_ (i := 13) (N := some 76) (v := ?_) (a' := ?_) #[true, true, true, true, true, false, false, true, true, true, true, true, true, true, false, false, false] rfl rfl (any_of HT_.out (by kernel_rfl)) (fun _ _ _ h => h) (Or.inl ⟨by rfl, ?_⟩) ?_ ?_
                                rotate_left
                                · intro w'
                                  go_simp
                                  with_reducible rfl
                                rotate_left
                                · simp only [Act.put, List.setIfInBounds_toArray, List.set_cons_zero, List.set_cons_succ, i64_w, i32_w]
                                  rfl
                                refine one_ (i := 5) (N := some 68) #[true, true, true, true, true, true, false, true, true, true, true, true, true, true, false, false, false] rfl rfl (one_of HT_.out (by kernel_rfl)) (by decide) (fun K hK => ?_)
                                refine goes_ Try.func59 (by kernel_rfl) rfl #[.string (⟨#[40]⟩ : ByteArray), .int .i64 (wrap64 ((plait_opens a0) - (rd x10_1 x8_1)))] (by rfl) rfl rfl (by (try simp only [List.map_toArray, List.map_cons, List.map_nil]); first | done | rfl | (simp only [List.length_drop, List.length_take]; rfl)) ?_
                                with_reducible refine (strings_Repeat.calls (⟨#[40]⟩ : ByteArray) (wrap64 ((plait_opens a0) - (rd x10_1 x8_1))) t195 _ A36.out).mono ?_
                                rintro e w44 ⟨rfl, hb⟩
                                have HS0_ := (hb.cell (World.block_lt_of_cell? _ _ (hHeld))).trans (hHeld)
                                refine ⟨_, rfl, ?_⟩
                                have n0_ := Aside0.mk (Kd.R_below (by (with_reducible repeat (first | apply Kd.R_alloc | apply Kd.R_drewN | apply Kd.R_drew)); exact HO_9.out) hb)
                                have n1_ := Aside0.mk (Kd.R_below (by (with_reducible repeat (first | apply Kd.R_alloc | apply Kd.R_drewN | apply Kd.R_drew)); exact HO_10.out) hb)
                                have n2_ := Aside0.mk (below_step (by repeat (first | (with_reducible first | exact HB.out | apply below_alloc | apply pw_below_drewN | apply below_drew1) | exact HB.out)) hb)
                                clear HO_9
                                clear HO_10
                                clear HB
                                have HO_9 := n0_
                                have HO_10 := n1_
                                have HB := n2_
                                clear n0_ n1_ n2_
                                (try clear hb)
                                (try clear hb2)
                                (try clear hk)
                                (try clear hi)
                                refine hK.out _ _ (HS0_) (fun hHeld => ?_)
                                clear hK K
                                refine norm_ (a' := ?_) ?_ ?_
                                rotate_left
                                · show Act.put _ (some 68) _ = _
                                  simp only [Act.put, List.setIfInBounds_toArray, List.set_cons_zero, List.set_cons_succ, i64_w, i32_w]
                                  rfl
                                refine pure_ (i := 6) (N := some 69) (v := ?_) (a' := ?_) #[true, true, true, true, true, true, true, true, true, true, true, true, true, true, false, false, false] rfl rfl (any_of HT_.out (by kernel_rfl)) (fun _ _ _ h => h) (Or.inl ⟨by rfl, ?_⟩) ?_ ?_
                                rotate_left
                                · intro w'
                                  go_simp
                                  with_reducible rfl
                                rotate_left
                                · simp only [Act.put, List.setIfInBounds_toArray, List.set_cons_zero, List.set_cons_succ, i64_w, i32_w]
                                  rfl
                                refine one_ (i := 14) (N := some 77) #[true, true, true, true, true, true, true, true, true, true, true, true, true, true, true, false, false] rfl rfl (one_of HT_.out (by kernel_rfl)) (by decide) (fun K hK => ?_)
                                refine goes_ Try.func59 (by kernel_rfl) rfl #[.string (⟨#[41]⟩ : ByteArray), .int .i64 (wrap64 ((wrap64 ((rd x9_1 x8_1) - 1)) + (wrap64 ((plait_opens a0) - (rd x10_1 x8_1)))))] (by rfl) rfl rfl (by (try simp only [List.map_toArray, List.map_cons, List.map_nil]); first | done | rfl | (simp only [List.length_drop, List.length_take]; rfl)) ?_
                                with_reducible refine (strings_Repeat.calls (⟨#[41]⟩ : ByteArray) (wrap64 ((wrap64 ((rd x9_1 x8_1) - 1)) + (wrap64 ((plait_opens a0) - (rd x10_1 x8_1))))) t197 _ A39.out).mono ?_
                                rintro e w45 ⟨rfl, hb⟩
                                have HS0_ := (hb.cell (World.block_lt_of_cell? _ _ (hHeld))).trans (hHeld)
                                refine ⟨_, rfl, ?_⟩
                                have n0_ := Aside0.mk (Kd.R_below (by (with_reducible repeat (first | apply Kd.R_alloc | apply Kd.R_drewN | apply Kd.R_drew)); exact HO_9.out) hb)
                                have n1_ := Aside0.mk (Kd.R_below (by (with_reducible repeat (first | apply Kd.R_alloc | apply Kd.R_drewN | apply Kd.R_drew)); exact HO_10.out) hb)
                                have n2_ := Aside0.mk (below_step (by repeat (first | (with_reducible first | exact HB.out | apply below_alloc | apply pw_below_drewN | apply below_drew1) | exact HB.out)) hb)
                                clear HO_9
                                clear HO_10
                                clear HB
                                have HO_9 := n0_
                                have HO_10 := n1_
                                have HB := n2_
                                clear n0_ n1_ n2_
                                (try clear hb)
                                (try clear hb2)
                                (try clear hk)
                                (try clear hi)
                                refine hK.out _ _ (HS0_) (fun hHeld => ?_)
                                clear hK K
                                refine norm_ (a' := ?_) ?_ ?_
                                rotate_left
                                · show Act.put _ (some 77) _ = _
                                  simp only [Act.put, List.setIfInBounds_toArray, List.set_cons_zero, List.set_cons_succ, i64_w, i32_w]
                                  rfl
                                refine pure_ (i := 15) (N := some 78) (v := ?_) (a' := ?_) #[true, true, true, true, true, true, true, true, true, true, true, true, true, true, true, true, false] rfl rfl (any_of HT_.out (by kernel_rfl)) (fun _ _ _ h => h) (Or.inl ⟨by rfl, ?_⟩) ?_ ?_
                                rotate_left
                                · intro w'
                                  go_simp
                                  with_reducible rfl
                                rotate_left
                                · simp only [Act.put, List.setIfInBounds_toArray, List.set_cons_zero, List.set_cons_succ, i64_w, i32_w]
                                  rfl
                                refine pure_ (i := 16) (N := some 2) (v := ?_) (a' := ?_) #[true, true, true, true, true, true, true, true, true, true, true, true, true, true, true, true, true] rfl rfl (any_of HT_.out (by kernel_rfl)) (fun _ _ _ h => h) (Or.inl ⟨by rfl, ?_⟩) ?_ ?_
                                rotate_left
                                · intro w'
                                  go_simp
                                  with_reducible rfl
                                rotate_left
                                · simp only [Act.put, List.setIfInBounds_toArray, List.set_cons_zero, List.set_cons_succ, i64_w, i32_w]
                                  rfl
                                refine done_ (done_of HT_.out (by kernel_rfl)) ?_
                                try go_wp2
                                go_ret
                                exact ⟨by first | rfl | (simp [errW_none, errW_some] <;> rfl) | (simp [*, errW_none, errW_some] <;> rfl), by repeat (first | (with_reducible first | exact HB.out | apply below_alloc | apply pw_below_drewN | apply below_drew1) | exact HB.out)⟩
                              · rw [if_neg c40] at H
                                exact absurd H (by simp)
                            · rw [if_neg c38] at H
                              exact absurd H (by simp)
                          · rw [if_neg c37] at H
                            exact absurd H (by simp)
                        · rw [if_neg c35] at H
                          exact absurd H (by simp)
                      · rw [if_neg c34] at H
                        exact absurd H (by simp)
                    · rw [if_neg c32] at H
                      exact absurd H (by simp)
                  · rw [if_neg c31] at H
                    exact absurd H (by simp)
    · rw [if_neg c3] at H
      exact absurd H (by simp)
  · rw [if_neg c2] at H
    exact absurd H (by simp)

end Go.Proofs.Ytjfkompfkgjdaaa.PC
