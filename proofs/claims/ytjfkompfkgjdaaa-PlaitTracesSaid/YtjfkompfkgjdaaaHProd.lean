/- The product of two diagrams: the walk. -/
import Derived.Test.YtjfkompfkgjdaaaHWay
import Derived.Deep.RegionHeld3
import Derived.IntWalk
import Derived.Deep.QuietTactic
import Derived.BigQuiet
import Derived.Test.YtjfkompfkgjdaaaPCg2
namespace Go.Proofs.Ytjfkompfkgjdaaa.PC
open Go.RowKit Go.Proofs.YtjfkompfkgjdaaaW.PrintWords Go.Proofs.YtjfkompfkgjdaaaW.PrintLast Go.Proofs.YtjfkompfkgjdaaaW.PrintMore
theorem size_same (A0 : Option Addr) (c0 len n : Nat) (w : World) (hl : len = 2 * n) (hn : n ≤ 1000) : Calls Try.prog 72 #[.slice A0 len c0] w fun e w' => e = .returned (.int .i64 (n : Int)) ∧ w = w' := by
  subst hl
  have h1 : ((2 * n : Nat) : Int) / 2 = (n : Int) := by omega
  go_enter Try.func72, Try.ntmps72
  go_wp2
  go_ret
  exact ⟨by first | rfl | (congr 2), rfl⟩
/-- the state of the walk: what lay below is as it was; the variables; the diagram that is made -/
structure PR (w0 : World) (sd so : Value) (n : Nat) (T : List Bool) (out : List Int) (W : World) : Prop where
  below : Below w0.heap.size w0 W
  q : PQ w0.heap.size (w0.heap.size + 1) (w0.heap.size + 1 + 1) (w0.heap.size + 1 + 1 + 1 + 1 + 1) (w0.heap.size + 1 + 1 + 1 + 1) sd so n T W
  fout : W.heap[w0.heap.size + 1 + 1 + 1]? = some (.cells (nums .i64 out).toArray 3 (0, 0))
  flen : out.length = 2 * n
theorem PR.only {w0 W W' : World} {sd so : Value} {n : Nat} {T T' : List Bool} {out : List Int} (h : PR w0 sd so n T out W) (k : Only (w0.heap.size + 1 + 1 + 1 + 1) W W') (hq : PQ w0.heap.size (w0.heap.size + 1) (w0.heap.size + 1 + 1) (w0.heap.size + 1 + 1 + 1 + 1 + 1) (w0.heap.size + 1 + 1 + 1 + 1) sd so n T' W') : PR w0 sd so n T' out W' :=
  ⟨h.below.trans (k.below (by omega)), hq, (k.block _ (by omega)).trans h.fout, h.flen⟩
theorem PR.put {w0 W : World} {sd so : Value} {n : Nat} {T : List Bool} {out : List Int} (h : PR w0 sd so n T out W) (i : Nat) (x : Int) : PR w0 sd so n T (out.set i x) (W.setCell ⟨w0.heap.size + 1 + 1 + 1, i, none⟩ (.int .i64 x)) := by
  refine ⟨h.below.trans ((Only.set W _ i _).below (by omega)), h.q.only (Only.set W _ i _) (by omega) (by omega) (by omega) (by omega) (by omega), ?_, by rw [List.length_set]; exact h.flen⟩
  rw [heap_set h.fout]
  simp [nums, List.map_set]
theorem PR.cell {w0 W : World} {sd so : Value} {n : Nat} {T : List Bool} {out : List Int} (h : PR w0 sd so n T out W) (i : Nat) (hi : i < 2 * n) : (∃ u, W.cell? ⟨w0.heap.size + 1 + 1 + 1, i, none⟩ = some u) ∧ W.frozen? ⟨w0.heap.size + 1 + 1 + 1, i, none⟩ = false := by
  have := h.flen
  have hi' : i < out.length := by omega
  exact ⟨⟨.int .i64 (out[i]), by simp [World.cell?, h.fout, nums, hi']⟩, by simp [World.frozen?, h.fout]⟩
theorem PQ.drew {Bd Bo Bn Bs S : Nat} {sd so : Value} {n : Nat} {T : List Bool} {W : World} (h : PQ Bd Bo Bn Bs S sd so n T W) : PQ Bd Bo Bn Bs S sd so n T W.drew := ⟨h.fd, h.fo, h.fn, h.fs, h.row, h.len⟩
theorem PR.drew {w0 W : World} {sd so : Value} {n : Nat} {T : List Bool} {out : List Int} (h : PR w0 sd so n T out W) : PR w0 sd so n T out W.drew := ⟨h.below.drew, h.q.drew, h.fout, h.flen⟩
theorem PR.drewN {w0 W : World} {sd so : Value} {n : Nat} {T : List Bool} {out : List Int} (h : PR w0 sd so n T out W) (k : Nat) : PR w0 sd so n T out (W.drewN k) := ⟨⟨h.below.os, h.below.tape, h.below.output, h.below.size, h.below.block⟩, ⟨h.q.fd, h.q.fo, h.q.fn, h.q.fs, h.q.row, h.q.len⟩, h.fout, h.flen⟩
theorem PR.see {w0 W : World} {sd so : Value} {n : Nat} {T : List Bool} {out : List Int} (h : PR w0 sd so n T out W) (i : Nat) : PR w0 sd so n (T.set i true) out (W.setCell ⟨w0.heap.size + 1 + 1 + 1 + 1, i, none⟩ (.bool true)) := h.only (Only.set _ _ _ _) (h.q.mark i)
theorem made_int (M : Nat) : madeCells #[Value.int .i64 0] M = (nums .i64 (List.replicate M 0)).toArray := by
  apply Array.ext
  · simp [madeCells, nums]
  · intro i h1 h2
    simp [madeCells, nums, Nat.mod_one]
theorem made_bool (M : Nat) : madeCells #[Value.bool false] M = ((List.replicate M false).map Value.bool).toArray := by
  apply Array.ext
  · simp [madeCells]
  · intro i h1 h2
    simp [madeCells, Nat.mod_one]
theorem PR.start (w : World) (sd so : Value) (n : Nat) : PR w sd so n (List.replicate n false) (List.replicate (2 * n) 0) ((((((w.alloc (.cells #[sd] 65)).alloc (.cells #[so] 65)).alloc (.cells #[.int .i64 (n : Int)] 3)).alloc (.cells (madeCells #[.int .i64 0] (2 * n)) 3)).alloc (.cells (madeCells #[.bool false] n) 4)).alloc (.cells #[.slice (some ⟨w.heap.size + 1 + 1 + 1 + 1, 0, none⟩) n n] 69)) := by
  refine ⟨((((((Below.refl _ _).alloc (Nat.le_refl _) _).alloc (by simp) _).alloc (by simp; omega) _).alloc (by simp; omega) _).alloc (by simp; omega) _).alloc (by simp; omega) _, ⟨?_, ?_, ?_, ?_, ?_, by simp⟩, ?_, by simp⟩
  all_goals simp only [World.alloc, Array.getElem?_push, Array.size_push, made_int, made_bool]
  · rw [if_neg (by omega), if_neg (by omega), if_neg (by omega), if_neg (by omega), if_neg (by omega), if_pos trivial]
  · rw [if_neg (by omega), if_neg (by omega), if_neg (by omega), if_neg (by omega), if_pos trivial]
  · rw [if_neg (by omega), if_neg (by omega), if_neg (by omega), if_pos trivial]
  · rw [if_pos trivial]
  · rw [if_neg (by omega), if_pos trivial]
  · rw [if_neg (by omega), if_neg (by omega), if_pos trivial]
theorem R_of_ints {W : World} {g base : Nat} {xs : List Int} (h : W.heap[g]? = some (.cells (nums .i64 xs).toArray 3 (0, 0))) (hb : base ≤ g) (hl : xs.length ≤ 1000000) : Kd.R (Kd.int .i64) 3 W base (fun _ => True) (.slice (some ⟨g, 0, none⟩) xs.length xs.length) xs :=
  Kd.R_of_own ⟨by simp [encs], .inr ⟨g, xs.length, _, rfl, hb, h, Nat.le_refl _, by unfold maxLen; omega, by simp [nums], by simp [encs, nums, List.take_of_length_le]⟩⟩ (fun _ _ => trivial)
set_option maxHeartbeats 4000000 in
theorem product_walk (A0 : Option Addr) (c0 : Nat) (l0 : List Int) (A1 : Option Addr) (c1 : Nat) (l1 : List Int) (n len : Nat) (w : World) (hr0 : Kd.C (Kd.int .i64) w A0 len l0) (hr1 : Kd.C (Kd.int .i64) w A1 len l1)
    (hl0 : l0.length = len) (hl1 : l1.length = len) (hlen : len = 2 * n) (hn : n ≤ 500) (out : List Int) (T : List Bool) (many : Nat)
    (h1 : plait_ways l0 l1 n n 0 (List.replicate len 0) (List.replicate n false) = some (out, T)) (h2 : plait_loops l0 l1 n n 0 0 T = some many) :
    Calls Try.prog 66 #[.slice A0 len c0, .slice A1 len c1] w fun e w' => e = .returned (.tuple #[.slice (some ⟨w.heap.size + 1 + 1 + 1, 0, none⟩) (2 * n) (2 * n), .int .i64 (many : Int)]) ∧ ∃ T', PR w (.slice A0 len c0) (.slice A1 len c1) n T' out w' := by
  have HR0 := Lib.hid hr0
  have HR1 := Lib.hid hr1
  have HL0 := Lib.hid hl0
  have HL1 := Lib.hid hl1
  have HLN := Lib.hid hlen
  have H1 := Lib.hid h1
  have H2 := Lib.hid h2
  have hsz := size_same A0 c0 len n
  have HSZ := Lib.hid hsz
  have hmk1 := @print_make_of Try.prog 65 3 (.int .i64 0) 8 Try.underlying65 info3 rfl (by decide) (2 * n) (by omega)
  have hmk2 := @print_make_of Try.prog 69 4 (.bool false) 1 Try.underlying69 info4 rfl (by decide) n (by omega)
  have e2n : ((2 * n : Nat) : Int) = 2 * (n : Int) := by omega
  rw [e2n] at hmk1
  clear e2n
  clear hr0 hr1 hl0 hl1 hlen h1 h2 hsz
  go_enter Try.func66, Try.ntmps66
  go_wp2_with (first | (go_at_call 72; refine (HSZ.out _ HLN.out (by omega)).mono ?_; rintro e w' ⟨rfl, rfl⟩))
  go_loopw [24] (fun t w' => ∃ (j : Nat) (out1 : List Int) (T1 : List Bool), j ≤ n ∧ t = .int .i64 (j : Int) ∧ Hid (plait_ways l0 l1 n (n - j) j out1 T1 = some (out, T)) ∧ Hid (PR w (.slice A0 len c0) (.slice A1 len c1) n T1 out1 w')) (fun t _ => n - (intOf t).toNat)
  case atStart => exact ⟨0, _, _, Nat.zero_le _, rfl, by rw [Nat.sub_zero]; exact H1, by rw [HLN.out]; exact PR.start w _ _ n⟩
  case round =>
    obtain ⟨j, out1, T1, hj, rfl, HA, HP⟩ := hrel
    obtain ⟨wo, rfl⟩ : ∃ wo : World, wo = wr := ⟨_, rfl⟩
    have hcn := cell_one HP.out.q.fn
    by_cases hlt : j < n
    · have d1 : decide ((j : Int) < (n : Int)) = true := decide_eq_true (by omega)
      have h := HA.out
      rw [show n - j = (n - (j + 1)) + 1 by omega] at h
      simp only [plait_ways] at h
      obtain ⟨⟨q1, T2⟩, ha, h⟩ := Option.bind_eq_some_iff.1 h
      obtain ⟨⟨q2, T3⟩, hb, h⟩ := Option.bind_eq_some_iff.1 h
      have HH := Lib.hid h
      have HW1 := Lib.hid ha
      rw [show (((n + j : Nat)) : Int) = (n : Int) + (j : Int) by omega] at hb
      have HW2 := Lib.hid hb
      clear ha hb h HA
      obtain ⟨⟨u1, hu1⟩, hf1⟩ := HP.out.cell j (by omega)
      have hjj : (j : Int) < ((2 * n : Nat) : Int) := by omega
      go_wp2_with (first | (go_at_call 86; refine (way_walk (2 * n + 2) A0 c0 l0 A1 c1 l1 n len w.heap.size _ _ _ _ w _ HR0.out HR1.out HL0.out HL1.out HLN.out (by omega) HP.out.below (by omega) true (j : Int) T1 T2 q1 HP.out.q HW1.out).mono ?_; rintro e w' ⟨rfl, hq', ho'⟩; have HP2 := Lib.hid (HP.out.only ho' hq'); obtain ⟨⟨u2, hu2⟩, hf2⟩ := HP2.out.cell j (by omega); have HP3 := Lib.hid (HP2.out.put j q1); have hcn3 := cell_one HP3.out.q.fn; clear hq' ho' hu1 hf1))
      have e1 : IntKind.i64.wrap ((n : Int) + (j : Int)) = (n : Int) + (j : Int) := IntWalk.i64_in _ (by omega)
      have e2 : 0 ≤ (n : Int) + (j : Int) := by omega
      have e3 : ((n : Int) + (j : Int)).toNat = n + j := by omega
      have e4 : (n : Int) + (j : Int) < ((2 * n : Nat) : Int) := by omega
      have e5 : (n : Int) + (j : Int) < 2 * (n : Int) := by omega
      have HE : Hid (w.heap.size ≤ w.heap.size + 1 + 1 + 1 + 1 ∧ n ≤ 1000 ∧ n + j < 2 * n) := ⟨by omega, by omega, by omega⟩
      clear hjj hcn
      go_region_held3 (fun W => W.cell? ⟨w.heap.size + 1 + 1, 0, none⟩ = some (.int .i64 (n : Int)))
        (first | exact hcn3 | exact hcn4 | exact hcn5)
        (first | (go_at_call 86; refine (way_walk (2 * n + 2) A0 c0 l0 A1 c1 l1 n len w.heap.size _ _ _ _ w _ HR0.out HR1.out HL0.out HL1.out HLN.out HE.out.2.1 HP3.out.drew.below HE.out.1 false ((n : Int) + (j : Int)) T2 T3 q2 HP3.out.drew.q HW2.out).mono ?_; rintro e w4 ⟨rfl, hq', ho'⟩; have HP4 := Lib.hid (HP3.out.drew.only ho' hq'); obtain ⟨⟨u4, hu4⟩, hf4⟩ := HP4.out.cell (n + j) HE.out.2.2; have hcn4 := cell_one HP4.out.q.fn; have HP5 := Lib.hid (HP4.out.put (n + j) q2); have hcn5 := cell_one HP5.out.q.fn; clear hq' ho'))
      clear e1 e2 e3 e4 e5
      go_wp2
      go_roundw
      case rel => exact ⟨j + 1, _, _, by omega, by go_num, HH, HP5⟩
      case measure => simp [intOf]; omega
    · obtain rfl : j = n := by omega
      have d1 : decide ((j : Int) < (j : Int)) = false := decide_eq_false (by omega)
      have h := HA.out
      rw [Nat.sub_self] at h
      simp only [plait_ways] at h
      have h := Option.some.inj h
      obtain ⟨rfl, rfl⟩ := Prod.mk.inj h
      clear h HA
      go_wp2
      go_loopw [11, 45] (fun u t w' => ∃ (i many1 : Nat) (T2 : List Bool), i ≤ j ∧ u = .int .i64 (many1 : Int) ∧ many1 ≤ i ∧ t = .int .i64 (i : Int) ∧ Hid (plait_loops l0 l1 j (j - i) i many1 T2 = some many) ∧ Hid (PR w (.slice A0 len c0) (.slice A1 len c1) j T2 out1 w')) (fun _ t _ => j - (intOf t).toNat)
      case atStart => exact ⟨0, 0, _, Nat.zero_le _, rfl, Nat.le_refl _, rfl, by rw [Nat.sub_zero]; exact H2, HP⟩
      case round =>
        obtain ⟨i, many1, T2, hi, rfl, hmi, rfl, HA, HP2⟩ := hrel
        obtain ⟨wo2, rfl⟩ : ∃ wo2 : World, wo2 = wr := ⟨_, rfl⟩
        clear hcn
        have hcs := cell_one HP2.out.q.fs
        by_cases hlt2 : i < j
        · have d2 : decide ((i : Int) < (j : Int)) = true := decide_eq_true (by omega)
          obtain ⟨hs1, hs2⟩ := HP2.out.q.seen i hlt2
          have h := HA.out
          rw [show j - i = (j - (i + 1)) + 1 by omega] at h
          simp only [plait_loops] at h
          cases hT : T2.getD i false with
          | true =>
            rw [hT] at h hs1
            simp only [if_true] at h
            have HH := Lib.hid h
            clear h HA hT
            go_wp2
            go_roundw
            case rel => exact ⟨i + 1, many1, _, by omega, rfl, by omega, by go_num, HH, HP2⟩
            case measure => simp [intOf]; omega
          | false =>
            rw [hT] at h hs1
            simp only [Bool.false_eq_true, if_false] at h
            obtain ⟨T', hr, h⟩ := Option.bind_eq_some_iff.1 h
            have HH := Lib.hid h
            have HRN := Lib.hid hr
            clear h HA hT hr
            go_wp2
            go_loopg [13] (j + 1) (fun kq v w' => ∃ (a : Int) (T3 : List Bool), v = .int .i64 a ∧ Hid (plait_round l0 l1 j kq a T3 = some T') ∧ Hid (kq ≤ j + 1) ∧ Hid (PR w (.slice A0 len c0) (.slice A1 len c1) j T3 out1 w'))
            case atStart => exact ⟨_, _, rfl, HRN, Nat.le_refl _, HP2⟩
            case round =>
              obtain ⟨a, T3, rfl, HA, HK, HP3⟩ := hrel
              clear hs1 hs2 hcs
              cases gk with
              | zero => exact absurd HA.out (by simp [plait_round])
              | succ k1 =>
                obtain ⟨wo3, rfl⟩ : ∃ wo3 : World, wo3 = wr := ⟨_, rfl⟩
                have h := HA.out
                clear HA
                simp only [plait_round] at h
                by_cases c1_ : 0 ≤ a ∧ a < (j : Int)
                · rw [if_pos c1_] at h
                  obtain ⟨p0, p1⟩ := c1_
                  have hcs := cell_one HP3.out.q.fs
                  obtain ⟨hs1, hs2⟩ := HP3.out.q.seen a.toNat (by omega)
                  cases hT : T3.getD a.toNat false with
                  | true =>
                    rw [hT] at h hs1
                    simp only [if_true] at h
                    have h := Option.some.inj h
                    subst h
                    clear hT
                    go_wp2
                    go_roundw
                    case rel => exact ⟨i + 1, many1 + 1, _, by omega, by go_num, by omega, by go_num, HH, HP3⟩
                    case measure => simp [intOf]; omega
                  | false =>
                    rw [hT] at h hs1
                    simp only [Bool.false_eq_true, if_false] at h
                    clear hT
                    by_cases c2_ : 0 ≤ rd l1 a ∧ rd l1 a < (j : Int)
                    · rw [if_pos c2_] at h
                      have hP4 := HP3.out.see a.toNat
                      have hP5 := hP4.see (rd l1 a).toNat
                      have hal : a < (len : Int) := by have := HLN.out; omega
                      obtain ⟨a1, e1, hx1⟩ := Kd.at_int (Kd.C_below HR1.out hP4.below) a p0 hal
                      obtain ⟨a0, e0, hx0⟩ := Kd.at_int (Kd.C_below HR0.out hP5.below) (rd l1 a + (j : Int)) (by omega) (by have := HLN.out; omega)
                      obtain ⟨hs3, hs4⟩ := hP4.q.seen (rd l1 a).toNat (by omega)
                      have hco := cell_one hP4.q.fo
                      have hcs4 := cell_one hP4.q.fs
                      have hcd := cell_one hP5.q.fd
                      have hcn5 := cell_one hP5.q.fn
                      obtain ⟨x, hx⟩ : ∃ x, rd l0 (rd l1 a + (j : Int)) = x := ⟨_, rfl⟩
                      rw [hx] at hx0
                      obtain ⟨y, hy⟩ : ∃ y, rd l1 a = y := ⟨_, rfl⟩
                      rw [hy] at hx1 hx0 hs3 hs4 hcd hcn5 c2_
                      obtain ⟨y0, y1⟩ := c2_
                      rw [hx, hy] at h
                      rw [hy] at hP5
                      have HH2 := Lib.hid h
                      have HP5 := Lib.hid hP5
                      have HX := Lib.hid hx
                      have HY := Lib.hid hy
                      subst e0 e1
                      have f1 : IntKind.i64.wrap (y + (j : Int)) = y + (j : Int) := IntWalk.i64_in _ (by omega)
                      have f2 : 0 ≤ y + (j : Int) := by omega
                      have f3 : y + (j : Int) < (len : Int) := by have := HLN.out; omega
                      have f4 : y < (len : Int) := by omega
                      clear h hP4 hP5 hx hy
                      go_wp2
                      go_quiet (fail)
                      clear f1 f2 f3 f4
                      go_wp2
                      go_roundg k1
                      case measure => have := HK.out; omega
                      case rel => exact ⟨_, _, rfl, HH2, Lib.hid (by have := HK.out; omega), Lib.hid (HP5.out.drewN _)⟩
                    · rw [if_neg c2_] at h
                      cases h
                · rw [if_neg c1_] at h
                  cases h
        · obtain rfl : i = j := by omega
          have d2 : decide ((i : Int) < (i : Int)) = false := decide_eq_false (by omega)
          have h := HA.out
          rw [Nat.sub_self] at h
          simp only [plait_loops] at h
          have h := Option.some.inj h
          subst h
          clear HA
          go_wp2
          go_ret2
          exact ⟨rfl, _, HP2.out⟩
end Go.Proofs.Ytjfkompfkgjdaaa.PC
