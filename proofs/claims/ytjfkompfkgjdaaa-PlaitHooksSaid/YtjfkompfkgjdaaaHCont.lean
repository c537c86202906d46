/- slices.ContainsFunc over a slice of ints, with a closure over one boxed variable: a contract for every such closure. -/
import Derived.Outline
import Derived.Lib.Hide
import Derived.Test.YtjfkompfkgjdaaaPCx0
namespace Go.Proofs.Ytjfkompfkgjdaaa.PC
open Go.RowKit Go.Proofs.YtjfkompfkgjdaaaW.PrintWords Go.Proofs.YtjfkompfkgjdaaaW.PrintLast Go.Proofs.YtjfkompfkgjdaaaW.PrintMore
/-- what a closure over one boxed variable tells -/
def Lit (f : Nat) (v : Value) (p : Int → Bool) (w : World) : Prop := ∀ (nd : Nat) (x : Int) (b : Bool), p x = b → Calls Try.prog f #[.int .i64 x, v] (w.drewN nd) fun e w' => e = .returned (.bool b) ∧ Drawn0 (w.drewN nd) w'
set_option maxHeartbeats 400000 in
theorem IndexFunc_walk (f : Nat) (v : Value) (p : Int → Bool) (hent : ∀ args w, (callFunc f args).run Try.prog w = .ok (.enter f args) w) (A0 : Option Addr) (c0 : Nat) (l0 : List Int) (w : World) (hlit : Lit f v p w) (hr0 : Kd.C (Kd.int .i64) w A0 l0.length l0) (hl : l0.length ≤ 1000000) (b0 : Bool) (hb0 : l0.any p = b0) :
    Calls Try.prog 95 #[.slice A0 l0.length c0, .func (.func f) #[] #[v]] w fun e w' => (∃ r : Int, e = .returned (.int .i64 r) ∧ decide (0 ≤ r) = b0) ∧ Drawn0 w w' := by
  have HB0 := Lib.hid hb0
  clear hb0
  obtain ⟨n, hn⟩ : ∃ n, l0.length = n := ⟨_, rfl⟩
  rw [hn] at hr0 hl ⊢
  have HR := Lib.hid hr0
  have HN := Lib.hid hn
  have HL := Lib.hid hlit
  clear hr0 hn hlit
  go_enter Try.func95, Try.ntmps95
  go_wp2
  go_loopw [8] (fun i wr => ∃ q nd : Nat, q ≤ n ∧ i = .int .i64 (q : Int) ∧ wr = w.drewN nd ∧ Hid ((l0.take q).any p = false)) (fun i _ => n - (intOf i).toNat)
  case atStart => exact ⟨0, 0, Nat.zero_le _, rfl, rfl, Lib.hid rfl⟩
  case round =>
    obtain ⟨q, nd, hq, rfl, rfl, hno⟩ := hrel
    by_cases hlt : q < n
    · have d1 : decide ((q : Int) < (n : Int)) = true := decide_eq_true (by omega)
      obtain ⟨ad, e, hx⟩ := Kd.at_int HR.out (q : Int) (by omega) (by omega)
      subst e
      rw [Int.toNat_natCast] at hx
      obtain ⟨x, hxv⟩ : ∃ x, rd l0 (q : Int) = x := ⟨_, rfl⟩
      rw [hxv] at hx
      have HX := Lib.hid hxv
      clear hxv
      have hl0 : q < l0.length := by have := HN.out; omega
      have ht : (l0.take (q + 1)).any p = p x := by
        have e1 : l0.take (q + 1) = l0.take q ++ [rd l0 (q : Int)] := by
          rw [List.take_succ_eq_append_getElem hl0]; simp [rd, List.getD_eq_getElem?_getD, hl0]
        rw [e1, List.any_append, hno.out, HX.out]; simp
      obtain ⟨b, hb⟩ : ∃ b, p x = b := ⟨_, rfl⟩
      rw [hb] at ht
      have HT := Lib.hid ht
      have HB := Lib.hid hb
      clear ht hb
      cases b with
      | true =>
        go_wp2
        refine (HL.out nd x _ HB.out).mono ?_
        rintro e w' ⟨rfl, ⟨nd2, rfl⟩⟩
        go_wp2
        go_ret
        refine ⟨⟨_, rfl, ?_⟩, ⟨⟨nd + nd2, rfl⟩⟩⟩
        have h3 := HT.out
        rw [← HB0.out, decide_eq_true (by omega)]
        symm
        rw [List.any_eq_true] at h3 ⊢
        obtain ⟨y, hy, h4⟩ := h3
        exact ⟨y, List.mem_of_mem_take hy, h4⟩
      | false =>
        go_wp2
        refine (HL.out nd x _ HB.out).mono ?_
        rintro e w' ⟨rfl, ⟨nd2, rfl⟩⟩
        go_wp2
        go_round
        case rel => exact ⟨q + 1, nd + nd2, by omega, by go_num, by simp, HT⟩
        case measure => simp [intOf]; omega
    · obtain rfl : q = n := by omega
      have d1 : decide ((q : Int) < (q : Int)) = false := decide_eq_false (by omega)
      go_wp2
      go_ret
      have h3 := hno.out
      rw [List.take_of_length_le (by have := HN.out; omega)] at h3
      exact ⟨⟨-1, rfl, by rw [← HB0.out, h3]; rfl⟩, Drawn0.step (Drawn0.refl _) nd⟩
set_option maxHeartbeats 400000 in
theorem ContainsFunc_walk (f : Nat) (v : Value) (p : Int → Bool) (hent : ∀ args w, (callFunc f args).run Try.prog w = .ok (.enter f args) w) (A0 : Option Addr) (c0 : Nat) (l0 : List Int) (w : World) (hlit : Lit f v p w) (hr0 : Kd.C (Kd.int .i64) w A0 l0.length l0) (hl : l0.length ≤ 1000000) (b : Bool) (hb : l0.any p = b) :
    Calls Try.prog 87 #[.slice A0 l0.length c0, .func (.func f) #[] #[v]] w fun e w' => e = .returned (.bool b) ∧ Drawn0 w w' := by
  have HR := Lib.hid hr0
  have HB := Lib.hid hb
  have HL := Lib.hid hlit
  clear hr0 hb hlit
  go_enter Try.func87, Try.ntmps87
  go_wp2_with (go_at_call 95; refine (IndexFunc_walk f v p hent A0 c0 l0 _ HL.out HR.out hl b HB.out).mono ?_; rintro e w' ⟨⟨r, rfl, hr⟩, ⟨nd, rfl⟩⟩)
  go_ret
  exact ⟨rfl, ⟨⟨_, rfl⟩⟩⟩
end Go.Proofs.Ytjfkompfkgjdaaa.PC
