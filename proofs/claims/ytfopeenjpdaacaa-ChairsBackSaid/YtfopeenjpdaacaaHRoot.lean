/- rooted: the errors of parents: every way up ends at the root. -/
import Derived.Test.YtfopeenjpdaacaaHCont
import Derived.Test.YtfopeenjpdaacaaMTree
import Derived.Shelf.Abstract
namespace Go.Proofs.Ytfopeenjpdaacaa.PC
open Go.RowKit Go.Proofs.YtfopeenjpdaacaaW.PrintWords Go.Proofs.YtfopeenjpdaacaaW.PrintLast Go.Proofs.YtfopeenjpdaacaaW.PrintMore
theorem rooted_lit (n : Int) (B : Nat) (w : World) (hcell : w.cell? ⟨B, 0, none⟩ = some (.int .i64 n)) :
    Lit 76 (.pointer (some ⟨B, 0, none⟩)) (fun x => decide (x < 0 ∨ n < x)) w := by
  intro nd x b hb
  have hc : (w.drewN nd).cell? ⟨B, 0, none⟩ = some (.int .i64 n) := hcell
  clear hcell
  replace hb : decide (x < 0 ∨ n < x) = b := hb
  subst hb
  by_cases h1 : x < 0
  · have d1 : decide (x < 0) = true := decide_eq_true h1
    have d2 : decide (x < 0 ∨ n < x) = true := decide_eq_true (Or.inl h1)
    rw [d2]
    clear d2
    go_enter Try.func76, Try.ntmps76
    go_wp2
    go_ret
    exact ⟨rfl, Drawn0.refl _⟩
  · have d1 : decide (x < 0) = false := decide_eq_false h1
    obtain ⟨b, hb⟩ : ∃ b, decide (n < x) = b := ⟨_, rfl⟩
    have d2 : decide (x < 0 ∨ n < x) = b := by rw [← hb]; simp [h1]
    rw [d2]
    go_enter Try.func76, Try.ntmps76
    go_wp2
    go_ret
    exact ⟨rfl, Drawn0.refl _⟩
/-- does the way up from a node end after so many steps at most? -/
def chairs_rooted.climb (t : List Int) : Nat → Int → Bool
  | 0, at_ => at_ == 0
  | n + 1, at_ => if at_ = 0 then true else chairs_rooted.climb t n (rd t (at_ - 1))
theorem climb_step (t : List Int) (n : Nat) (a : Int) (h : a ≠ 0) : chairs_rooted.climb t (n + 1) a = chairs_rooted.climb t n (rd t (a - 1)) := by
  simp [chairs_rooted.climb, h]
theorem climb_root (t : List Int) (n : Nat) : chairs_rooted.climb t n 0 = true := by cases n <;> simp [chairs_rooted.climb]
/-- all nodes from i on -/
def rootsFrom (t : List Int) (i d : Nat) : Bool := (List.range d).all fun j => chairs_rooted.climb t t.length (((i + j : Nat) : Int) + 1)
theorem rootsFrom_zero (t : List Int) (i : Nat) : rootsFrom t i 0 = true := rfl
theorem rootsFrom_succ (t : List Int) (i d : Nat) : rootsFrom t i (d + 1) = (chairs_rooted.climb t t.length ((i : Int) + 1) && rootsFrom t (i + 1) d) := by
  unfold rootsFrom
  rw [List.range_succ_eq_map, List.all_cons, List.all_map]
  congr 1
  refine congrArg (List.all (List.range d)) (funext fun j => ?_)
  simp only [Function.comp]
  congr 1
  omega
set_option maxHeartbeats 1000000 in
theorem rooted_late (A0 : Option Addr) (c0 : Nat) (l0 : List Int) (w : World) (hr0 : Kd.C (Kd.int .i64) w A0 l0.length l0) (h1 : 0 < l0.length) (h2 : l0.length ≤ 30) (hall : l0.any (fun x => decide (x < 0 ∨ (l0.length : Int) < x)) = false) (res : Bool) (hres : rootsFrom l0 0 l0.length = res) :
    Calls Try.prog 62 #[.slice A0 l0.length c0] w fun e w' => e = .returned (.int .i64 (if res = true then 0 else 2)) ∧ Below w.heap.size w w' := by
  have HR := Lib.hid hr0
  clear hr0
  have HRES := Lib.hid hres
  clear hres
  have hbd : ∀ i : Nat, i < l0.length → 0 ≤ rd l0 (i : Int) ∧ rd l0 (i : Int) ≤ (l0.length : Int) := fun i hi => by
    have h := List.any_eq_false.1 hall (rd l0 (i : Int)) (by simp [rd, List.getD_eq_getElem?_getD, hi])
    simp at h
    omega
  have HBD := Lib.hid hbd
  have HA := Lib.hid hall
  clear hall hbd
  have d1 : ((l0.length : Int) == 0) = false := beq_eq_false_iff_ne.2 (by omega)
  have d2 : decide (30 < (l0.length : Int)) = false := decide_eq_false (by omega)
  go_enter Try.func62, Try.ntmps62
  have hcell : (w.alloc (.cells #[.int .i64 (l0.length : Int)] 3)).cell? ⟨w.heap.size, 0, none⟩ = some (.int .i64 (l0.length : Int)) := by
    rw [World.cell?_alloc_at _ _ _ _ rfl]; rfl
  have HC := Lib.hid hcell
  clear hcell
  go_wp2_with (go_at_call 66; refine (ContainsFunc_walk 76 _ (fun x => decide (x < 0 ∨ (l0.length : Int) < x)) (Go.Proofs.enters_of Try.func76 (by kernel_rfl) rfl) A0 c0 l0 _ (rooted_lit (l0.length : Int) w.heap.size _ HC.out) (Kd.C_alloc HR.out _) (by omega) false HA.out).mono ?_; rintro e w' ⟨rfl, ⟨nd, rfl⟩⟩)
  obtain ⟨n, hn⟩ : ∃ n, l0.length = n := ⟨_, rfl⟩
  obtain ⟨W1, hW1⟩ : ∃ W1, (w.alloc (.cells #[.int .i64 (l0.length : Int)] 3)).drewN nd = W1 := ⟨_, rfl⟩
  have hC1 : W1.cell? ⟨w.heap.size, 0, none⟩ = some (.int .i64 (l0.length : Int)) := by rw [← hW1]; exact HC.out
  have hB1 : Below w.heap.size w W1 := by rw [← hW1]; exact pw_below_drewN ((Below.refl _ w).alloc (Nat.le_refl _) _) _
  have hR1 := Kd.C_below HR.out hB1
  rw [hW1]
  rw [hn] at hC1 hR1 h1 h2 ⊢
  have HB1 := Lib.hid hB1
  have HR1 := Lib.hid hR1
  have HN := Lib.hid hn
  clear hW1 hn d1 d2 hB1 hR1 HC
  go_loop [20] (fun t => ∃ i : Nat, i ≤ n ∧ t = .int .i64 (i : Int) ∧ Hid (rootsFrom l0 i (n - i) = res)) (fun t => n - (intOf t).toNat)
  case atStart => exact ⟨0, by omega, rfl, Lib.hid (by rw [← HRES.out, HN.out]; rfl)⟩
  case round =>
    obtain ⟨i, hi, rfl, hroot⟩ := hrel
    by_cases hlt : i < n
    · have d1 : decide ((i : Int) < (n : Int)) = true := decide_eq_true (by omega)
      have hr2 : (chairs_rooted.climb l0 n ((i : Int) + 1) && rootsFrom l0 (i + 1) (n - (i + 1))) = res := by
        have h := hroot.out
        rw [show n - i = (n - (i + 1)) + 1 by omega, rootsFrom_succ, HN.out] at h
        exact h
      have HR2 := Lib.hid hr2
      clear hr2 hroot
      go_wp2
      go_loop [5, 6] (fun st a => ∃ (s : Nat) (x : Int), s ≤ n ∧ st = .int .i64 (s : Int) ∧ a = .int .i64 x ∧ 0 ≤ x ∧ x ≤ (n : Int) ∧ Hid (chairs_rooted.climb l0 (n - s) x = chairs_rooted.climb l0 n ((i : Int) + 1))) (fun st _ => n + 1 - (intOf st).toNat)
      case atStart => exact ⟨0, (i : Int) + 1, by omega, rfl, rfl, by omega, by omega, Lib.hid rfl⟩
      case round =>
        obtain ⟨s, x, hs, rfl, rfl, hx0, hx1, hcl⟩ := hrel
        by_cases hz : x = 0
        · subst hz
          have h := hcl.out
          rw [climb_root] at h
          have h2 := HR2.out
          rw [← h, Bool.true_and] at h2
          have HR3 := Lib.hid h2
          clear h h2 hcl HR2
          go_wp2
          go_round
          case rel => exact ⟨i + 1, by omega, by go_num, HR3⟩
          case measure => simp [intOf]; omega
        · have dz : (x != 0) = true := bne_iff_ne.2 hz
          have dz2 : (x == 0) = false := beq_eq_false_iff_ne.2 hz
          by_cases hsn : s < n
          · have d3 : decide ((n : Int) < (s : Int) + 1) = false := decide_eq_false (by omega)
            obtain ⟨y, hy⟩ : ∃ y : Nat, x - 1 = (y : Int) := ⟨(x - 1).toNat, by omega⟩
            have hyn : y < n := by omega
            obtain ⟨ad, e, hcx⟩ := Kd.at_int HR1.out (y : Int) (by omega) (by omega)
            subst e
            rw [Int.toNat_natCast] at hcx
            obtain ⟨z, hz2⟩ : ∃ z, rd l0 (y : Int) = z := ⟨_, rfl⟩
            rw [hz2] at hcx
            have hzb := HBD.out y (by have := HN.out; omega)
            rw [hz2, HN.out] at hzb
            obtain ⟨hz3, hz4⟩ := hzb
            have hc2 : chairs_rooted.climb l0 (n - (s + 1)) z = chairs_rooted.climb l0 n ((i : Int) + 1) := by
              rw [← hcl.out, show n - s = (n - (s + 1)) + 1 by omega, climb_step l0 _ x hz, hy, hz2]
            have HC2 := Lib.hid hc2
            have hy0 : (0 : Int) ≤ (y : Int) := Int.natCast_nonneg _
            have hyn2 : (y : Int) < (n : Int) := by omega
            clear hc2 hcl hz2 hz
            go_wp2
            go_round
            case rel => exact ⟨s + 1, z, by omega, by go_num, rfl, hz3, hz4, HC2⟩
            case measure => simp [intOf]; omega
          · obtain rfl : s = n := by omega
            have d3 : decide ((s : Int) < (s : Int) + 1) = true := decide_eq_true (by omega)
            have h := hcl.out
            rw [Nat.sub_self] at h
            have hf : res = false := by
              rw [← HR2.out, ← h]
              simp [chairs_rooted.climb, hz]
            subst hf
            clear h hcl
            go_wp2
            go_ret
            exact ⟨rfl, HB1.out⟩
    · obtain rfl : i = n := by omega
      have d1 : decide ((i : Int) < (i : Int)) = false := decide_eq_false (by omega)
      have h := hroot.out
      rw [Nat.sub_self, rootsFrom_zero] at h
      subst h
      clear hroot
      go_wp2
      go_ret
      exact ⟨rfl, HB1.out⟩
set_option maxHeartbeats 400000 in
theorem rooted_early (A0 : Option Addr) (c0 : Nat) (l0 : List Int) (w : World) (h : l0.length = 0 ∨ l0.length > 30) :
    Calls Try.prog 62 #[.slice A0 l0.length c0] w fun e w' => e = .returned (.int .i64 3) ∧ Below w.heap.size w w' := by
  by_cases h0 : l0.length = 0
  · have d1 : ((l0.length : Int) == 0) = true := beq_iff_eq.2 (by omega)
    obtain ⟨n, hn⟩ : ∃ n, l0.length = n := ⟨_, rfl⟩
    rw [hn] at d1 ⊢
    clear hn h h0
    go_enter Try.func62, Try.ntmps62
    go_wp2
    go_ret
    exact ⟨rfl, (Below.refl _ w).alloc (Nat.le_refl _) _⟩
  · have d1 : ((l0.length : Int) == 0) = false := beq_eq_false_iff_ne.2 (by omega)
    have d2 : decide (30 < (l0.length : Int)) = true := decide_eq_true (by omega)
    obtain ⟨n, hn⟩ : ∃ n, l0.length = n := ⟨_, rfl⟩
    rw [hn] at d1 d2 ⊢
    clear hn h h0
    go_enter Try.func62, Try.ntmps62
    go_wp2
    go_ret
    exact ⟨rfl, (Below.refl _ w).alloc (Nat.le_refl _) _⟩
set_option maxHeartbeats 400000 in
theorem rooted_bad (A0 : Option Addr) (c0 : Nat) (l0 : List Int) (w : World) (hr0 : Kd.C (Kd.int .i64) w A0 l0.length l0) (h1 : 0 < l0.length) (h2 : l0.length ≤ 30) (hall : l0.any (fun x => decide (x < 0 ∨ (l0.length : Int) < x)) = true) :
    Calls Try.prog 62 #[.slice A0 l0.length c0] w fun e w' => e = .returned (.int .i64 2) ∧ Below w.heap.size w w' := by
  have HR := Lib.hid hr0
  clear hr0
  have HA := Lib.hid hall
  clear hall
  have d1 : ((l0.length : Int) == 0) = false := beq_eq_false_iff_ne.2 (by omega)
  have d2 : decide (30 < (l0.length : Int)) = false := decide_eq_false (by omega)
  go_enter Try.func62, Try.ntmps62
  have hcell : (w.alloc (.cells #[.int .i64 (l0.length : Int)] 3)).cell? ⟨w.heap.size, 0, none⟩ = some (.int .i64 (l0.length : Int)) := by
    rw [World.cell?_alloc_at _ _ _ _ rfl]; rfl
  have HC := Lib.hid hcell
  clear hcell
  go_wp2_with (go_at_call 66; refine (ContainsFunc_walk 76 _ (fun x => decide (x < 0 ∨ (l0.length : Int) < x)) (Go.Proofs.enters_of Try.func76 (by kernel_rfl) rfl) A0 c0 l0 _ (rooted_lit (l0.length : Int) w.heap.size _ HC.out) (Kd.C_alloc HR.out _) (by omega) true HA.out).mono ?_; rintro e w' ⟨rfl, ⟨nd, rfl⟩⟩)
  go_ret
  exact ⟨rfl, pw_below_drewN ((Below.refl _ w).alloc (Nat.le_refl _) _) _⟩
end Go.Proofs.Ytfopeenjpdaacaa.PC
