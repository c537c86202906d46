/- word: the walk. -/
import Derived.Test.YtjfkompfkgjdaaaHShort
import Derived.WalkSpells
namespace Go.Proofs.Ytjfkompfkgjdaaa.PC
open Go.RowKit Go.Proofs.YtjfkompfkgjdaaaW.PrintWords Go.Proofs.YtjfkompfkgjdaaaW.PrintLast Go.Proofs.YtjfkompfkgjdaaaW.PrintMore
/-- the diagram at hand (one that came in, or one of the call's own) and the word up to now -/
structure WS (w0 : World) (v3 : Value) (A : Option Addr) (c : Nat) (dl outl : List Int) (W : World) : Prop where
  below : Below w0.heap.size w0 W
  cap : dl.length ≤ c
  row : Kd.R (Kd.int .i64) 3 W w0.heap.size (fun _ => True) v3 outl
  d : Kd.C (Kd.int .i64) w0 A dl.length dl ∨ Kd.R (Kd.int .i64) 3 W w0.heap.size (fun k => some k ≠ v3.ownBlock) (.slice A dl.length c) dl
theorem WS.read {w0 : World} {v3 : Value} {A : Option Addr} {c : Nat} {dl outl : List Int} {W : World} (h : WS w0 v3 A c dl outl W) : Kd.C (Kd.int .i64) W A dl.length dl := by
  rcases h.d with g | g
  · exact Kd.C_below g h.below
  · exact (Kd.R_reads' g).2.2
theorem WS.later {w0 : World} {v3 : Value} {A : Option Addr} {c : Nat} {dl outl : List Int} {W W' : World} (h : WS w0 v3 A c dl outl W) (hb : Below W.heap.size W W') : WS w0 v3 A c dl outl W' :=
  ⟨h.below.trans (hb.mono h.below.size), h.cap, Kd.R_below h.row hb, h.d.imp id fun g => Kd.R_below g hb⟩
/-- the next diagram: what shorter has handed back -/
theorem WS.next {w0 : World} {v3 v1 : Value} {A : Option Addr} {c : Nat} {dl outl : List Int} {W W' w1 : World} {x : Int} {o : List Int} {G cap : Nat} (h : WS w0 v3 A c dl outl W) (hb : Below W.heap.size W W') (hR : Kd.R (Kd.int .i64) 3 W' W.heap.size (fun _ => True) (.slice (some ⟨G, 0, none⟩) o.length cap) o) (hcap : o.length ≤ cap)
    (hrow : Kd.R (Kd.int .i64) 3 w1 w0.heap.size (fun _ => True) v1 (outl ++ [x])) (hb1 : Below w0.heap.size w0 w1) (hg : W'.grownBy w1 v3.ownBlock) (hat : v1.ownBlock = v3.ownBlock ∨ ∃ b, v1.ownBlock = some b ∧ W'.heap.size ≤ b) : WS w0 v1 (some ⟨G, 0, none⟩) cap o (outl ++ [x]) w1 := by
  have hlt := Kd.R_lt h.row
  have hs := h.below.size
  have h1 : ∀ k, W.heap.size ≤ k → some k ≠ v3.ownBlock := fun k hk e => by have := hlt k e.symm; omega
  refine ⟨hb1, hcap, hrow, .inr ?_⟩
  have hR2 := Kd.R_mono (Kd.R_bound hR) (ok' := fun k => W.heap.size ≤ k ∧ k < W'.heap.size) (fun k hk => ⟨hk.2.1, hk.2.2.1⟩)
  have hR3 := Kd.R_grown hR2 hg (fun k hk => h1 k hk.1)
  refine Kd.R_lower (Kd.R_mono hR3 (fun k hk => ?_)) hs
  rcases hat with e | ⟨b, e, hb2⟩
  · rw [e]; exact h1 k hk.1
  · rw [e]; intro e2; have := Option.some.inj e2; have := hk.2; omega
set_option maxHeartbeats 4000000 in
set_option maxRecDepth 100000 in
theorem word_walk (k : Nat) (A0 : Option Addr) (c0 : Nat) (l0 : List Int) (w : World) (hr0 : Kd.C (Kd.int .i64) w A0 l0.length l0) (hc0 : l0.length ≤ c0) (r : List Int) (h : plait_wordGo k 1000 l0 [] = some r) :
    Calls Try.prog 55 #[.slice A0 l0.length c0] w fun e w' => ∃ v0_ : Value, e = .returned v0_ ∧ Kd.R (Kd.int .i64) 3 w' w.heap.size (fun _ => True) v0_ r ∧ Below w.heap.size w w' := by
  have HR := Lib.hid hr0
  have HC := Lib.hid hc0
  have H := Lib.hid h
  have hnn := fun (W : World) => run_neq_slice_nil_any (P := Try.prog) W 65 3 none 0 0 0 0 Try.underlying65
  have hns := fun (W : World) (a : Addr) (n c : Nat) => run_neq_slice_nil_any (P := Try.prog) W 65 3 (some a) n c 0 0 Try.underlying65
  simp only [Option.isNone_none, Option.isNone_some, Bool.not_true, Bool.not_false] at hnn hns
  clear hr0 hc0 h
  go_enter Try.func55, Try.ntmps55
  go_wp2
  go_loopg [0, 3] 1000 (fun kq v0 v3 W => ∃ (A : Option Addr) (c : Nat) (dl outl : List Int), v0 = .slice A dl.length c ∧ Hid (plait_wordGo k kq dl outl = some r) ∧ Hid (kq ≤ 1000 ∧ outl.length + kq ≤ 1000) ∧ Hid (WS w v3 A c dl outl W))
  case atStart => exact ⟨A0, c0, l0, [], rfl, H, ⟨Nat.le_refl _, by simp⟩, ⟨Below.refl _ _, HC.out, Kd.R_nil _ _ _ _ _, .inl HR.out⟩⟩
  case round =>
    obtain ⟨A, c, dl, outl, rfl, HA, HK, HS⟩ := hrel
    clear H
    cases gk with
    | zero => exact absurd HA.out (by simp [plait_wordGo])
    | succ k1 =>
      obtain ⟨wo, rfl⟩ : ∃ wo : World, wo = wr := ⟨_, rfl⟩
      have h := HA.out
      clear HA
      simp only [plait_wordGo] at h
      by_cases c1 : dl.length = 2 * (dl.length / 2) ∧ dl.length ≤ 1000 ∧ 0 < dl.length
      · rw [if_pos c1] at h
        obtain ⟨g1, g2, g3⟩ := c1
        obtain ⟨hh, h1, h⟩ := Option.bind_eq_some_iff.1 h
        have hcl := plait_diagram_height.calls k A c dl hh
        obtain ⟨n, hn⟩ : ∃ n, dl.length / 2 = n := ⟨_, rfl⟩
        obtain ⟨len, hlen⟩ : ∃ len, dl.length = len := ⟨_, rfl⟩
        have hrd := HS.out.read
        have hcp := HS.out.cap
        rw [hn, hlen] at g1
        rw [hlen] at g2 g3 hcl hrd hcp
        rw [hn] at h
        have hn5 : n ≤ 500 := by omega
        have hn1 : 1 ≤ n := by omega
        have HLN := Lib.hid hlen
        have HG := Lib.hid g1
        clear hn g1
        by_cases hz : hh > 0
        · rw [if_pos hz] at h
          have d1 : decide (0 < hh) = true := decide_eq_true hz
          obtain ⟨R, h2, h⟩ := Option.bind_eq_some_iff.1 h
          have HN := Lib.hid h
          have HP := Lib.hid h2
          have hsz := size_same A c len n
          have HSZ := Lib.hid hsz
          clear h h2 hz hsz
          rw [HLN.out]
          clear hlen
          go_wp2_with fail
          refine (hcl _ hrd hcp h1).mono ?_
          rintro e w2 ⟨rfl, ⟨nd, hw2⟩⟩
          have HS2 := Lib.hid (HS.out.later (W' := w2) (by rw [hw2]; exact pw_below_drewN (Below.refl _ _) _))
          clear hcl hrd h1 hw2 HS
          go_wp2_with (first | (go_at_call 72; refine (HSZ.out _ HG.out (by omega)).mono ?_; rintro e w' ⟨rfl, rfl⟩))
          go_loopw [0, 3, 12] (fun s0 s3 t W => ∃ i : Nat, i ≤ n - 1 ∧ s0 = .slice A len c ∧ s3 = u3 ∧ t = .int .i64 (i : Int) ∧ Hid (plait_pick k dl (n - 1 - i) i = some R) ∧ Hid (WS w u3 A c dl outl W)) (fun _ _ t _ => n - (intOf t).toNat)
          case atStart => exact ⟨0, Nat.zero_le _, rfl, rfl, rfl, HP, HS2⟩
          case round =>
            obtain ⟨i, hi, rfl, rfl, rfl, HP2, HS3⟩ := hrel
            obtain ⟨wp, rfl⟩ : ∃ wp : World, wp = wr := ⟨_, rfl⟩
            clear HP HS2
            by_cases hlt : i < n - 1
            · have d2 : decide ((i : Int) < (n : Int) - 1) = true := decide_eq_true (by omega)
              have h := HP2.out
              rw [show n - 1 - i = (n - 1 - (i + 1)) + 1 by omega] at h
              simp only [plait_pick] at h
              obtain ⟨o, h3, h⟩ := Option.bind_eq_some_iff.1 h
              have hcl := shorter_any k A c dl (i : Int) o
              have hrd := HS3.out.read
              rw [HLN.out] at hcl hrd
              have HH := Lib.hid h
              clear h HP2
              go_wp2_with fail
              refine (hcl _ hrd hcp h3).mono ?_
              rintro e w3 ⟨v5, rfl, hH, hb3⟩
              clear hcl hrd h3
              rcases hH with ⟨ho, rfl⟩ | ⟨ho, hR3⟩
              · have h := HH.out
                rw [if_pos ho] at h
                have HP3 := Lib.hid h
                have HS4 := Lib.hid (HS3.out.later hb3)
                clear h HH HS3 hb3
                go_wp2
                go_roundw
                case rel => exact ⟨i + 1, by omega, rfl, rfl, by go_num, HP3, HS4⟩
                case measure => simp [intOf] <;> omega
              · have h := HH.out
                rw [if_neg ho] at h
                have h := Option.some.inj h
                subst h
                have hol : 0 < o.length := List.length_pos_iff.2 ho
                obtain ⟨G, cap, rfl, _, _, _⟩ := Kd.R_form hR3 hol
                have hcap := (Kd.R_reads' hR3).2.1
                have h := HN.out
                rw [if_pos (show (some (i, o)).isSome = true from rfl)] at h
                simp only [Option.getD_some] at h
                have HN2 := Lib.hid h
                have HR3 := Lib.hid hR3
                have HB3 := Lib.hid hb3
                have HCAP := Lib.hid hcap
                have HS4 := Lib.hid (HS3.out.later hb3)
                have hns2 := fun (W : World) => hns W ⟨G, 0, none⟩ o.length cap
                clear h hR3 hb3 hcap HH HN ho hol
                go_wp2_with (first | ((with_reducible refine gate_builtin (b := .append) (xs := #[.tmp 20, .tmp 22]) rfl ?_); at_builtin; refine Kd.R_append (Kd.int .i64) (w0 := w) w.heap.size rfl (.tmp 20) (.tmp 22) 22 3 (.int .i64 0) 8 rfl Try.underlying22 info3 rfl (by decide) (by omega) u3 outl (i : Int) [.int .i64 (i : Int)] (fun _ => True) (fun _ => False) rfl rfl rfl (fun _ hk => hk.elim) (fun _ _ => trivial) HS4.out.row HS4.out.below HS4.out.below.size (by have := HK.out; omega) ?_; intro v1 w4 ho4 hb4 hg4 hat4; have HS5 := Lib.hid (HS3.out.next HB3.out HR3.out HCAP.out ho4 hb4 hg4 hat4); clear ho4 hb4 hg4 hat4))
                go_roundg k1
                case measure => have := HK.out; omega
                case rel => exact ⟨_, _, _, _, rfl, HN2, Lib.hid ⟨by have := HK.out; omega, by have := HK.out; simp; omega⟩, HS5⟩
            · obtain rfl : i = n - 1 := by omega
              have h := HP2.out
              rw [Nat.sub_self] at h
              simp only [plait_pick] at h
              have h := Option.some.inj h
              subst h
              have h := HN.out
              simp at h
        · rw [if_neg hz] at h
          have d1 : decide (0 < hh) = false := decide_eq_false hz
          have h := Option.some.inj h
          subst h
          clear hz
          rw [HLN.out]
          clear hlen
          go_wp2_with fail
          refine (hcl _ hrd hcp h1).mono ?_
          rintro e w2 ⟨rfl, ⟨nd, hw2⟩⟩
          have HS2 := Lib.hid (HS.out.later (W' := w2) (by rw [hw2]; exact pw_below_drewN (Below.refl _ _) _))
          clear hcl hrd h1 hw2 HS
          go_wp2
          go_ret
          exact ⟨_, rfl, HS2.out.row, HS2.out.below⟩
      · rw [if_neg c1] at h
        cases h
end Go.Proofs.Ytjfkompfkgjdaaa.PC
