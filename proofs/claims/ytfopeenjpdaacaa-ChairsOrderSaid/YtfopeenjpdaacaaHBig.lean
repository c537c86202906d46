/- Numbers of the program's big package that have one digit at most: contracts of trim, of, plus, times and the methods over them. -/
import Derived.Outline
import Derived.Lib.Hide
import Derived.StillTailTactics
import Derived.Laws.Bits64b
import Derived.Test.YtfopeenjpdaacaaPCx0
import Derived.Test.YtfopeenjpdaacaaPCf74
namespace Go.Proofs.Ytfopeenjpdaacaa.PC
open Go.RowKit Go.Proofs.YtfopeenjpdaacaaW.PrintWords Go.Proofs.YtfopeenjpdaacaaW.PrintLast Go.Proofs.YtfopeenjpdaacaaW.PrintMore
/-- digits without zeros at the end: how many are left -/
def tl (xs : List Int) : Nat → Nat
  | 0 => 0
  | n + 1 => if xs.getD n 0 = 0 then tl xs n else n + 1
theorem tl_le (xs : List Int) (n : Nat) : tl xs n ≤ n := by
  induction n with
  | zero => simp [tl]
  | succ n ih => simp only [tl]; split <;> omega
set_option maxHeartbeats 400000 in
theorem trim_walk (g n c : Nat) (xs : List Int) (w : World) (hx : ∀ j, j < n → w.cell? ⟨g, j, none⟩ = some (.int .u32 (xs.getD j 0))) (_hn : n ≤ 1000) (hc : n ≤ c) (hcm : c ≤ 1000000) :
    Calls Try.prog 84 #[.slice (some ⟨g, 0, none⟩) n c] w fun e w' => e = .returned (.slice (some ⟨g, 0, none⟩) (tl xs n) c) ∧ w = w' := by
  have HX := Lib.hid hx
  clear hx
  obtain ⟨r, hr⟩ : ∃ r, tl xs n = r := ⟨_, rfl⟩
  rw [hr]
  have HR := Lib.hid hr
  clear hr
  go_enter Try.func84, Try.ntmps84
  go_wp2
  go_loop [3] (fun i => ∃ k : Nat, k ≤ n ∧ i = .int .i64 (k : Int) ∧ Hid (tl xs k = r)) (fun i => (intOf i).toNat)
  case atStart => exact ⟨n, Nat.le_refl _, rfl, HR⟩
  case round =>
    obtain ⟨k, hk, rfl, hkr⟩ := hrel
    rcases Nat.eq_zero_or_pos k with h0 | h0
    · subst h0
      have e : 0 = r := hkr.out
      subst e
      go_wp2
      go_ret
      exact ⟨rfl, rfl⟩
    · obtain ⟨m, rfl⟩ : ∃ m, k = m + 1 := ⟨k - 1, by omega⟩
      have d1 : decide ((0 : Int) < ((m + 1 : Nat) : Int)) = true := decide_eq_true (by omega)
      have e1 : (((m + 1 : Nat) : Int) - 1) = (m : Int) := by omega
      have hcell := HX.out m (by omega)
      obtain ⟨x, hxv⟩ : ∃ x, xs.getD m 0 = x := ⟨_, rfl⟩
      rw [hxv] at hcell
      have HXV := Lib.hid hxv
      clear hxv
      have hk2 := hkr.out
      simp only [tl] at hk2
      rw [HXV.out] at hk2
      by_cases hz : x = 0
      · subst hz
        rw [if_pos rfl] at hk2
        have HK := Lib.hid hk2
        clear hk2
        have d2 : ((0 : Int) == 0) = true := rfl
        go_wp2
        go_round
        case rel => exact ⟨m, by omega, by go_num, HK⟩
        case measure => simp [intOf] <;> omega
      · rw [if_neg hz] at hk2
        have d2 : (x == 0) = false := beq_eq_false_iff_ne.2 hz
        subst hk2
        go_wp2
        go_ret
        exact ⟨rfl, rfl⟩
/-- the digits of a number below 2^32 -/
def Dig (W : World) (s : Value) (v : Nat) : Prop :=
  (v = 0 ∧ ∃ A c, s = .slice A 0 c ∧ c ≤ 1000000) ∨ (0 < v ∧ v < 4294967296 ∧ ∃ g c cells, s = .slice (some ⟨g, 0, none⟩) 1 c ∧ 1 ≤ c ∧ c ≤ 1000000 ∧ W.heap[g]? = some (.cells cells 92 (0, 0)) ∧ W.cell? ⟨g, 0, none⟩ = some (.int .u32 (v : Int)))
theorem cell_same {W W' : World} {p : Addr} (h : W'.heap[p.block]? = W.heap[p.block]?) : W'.cell? p = W.cell? p := by
  simp only [World.cell?, h]
theorem Dig.same {W W' : World} {s : Value} {v : Nat} (h : Dig W s v) (hk : ∀ (g : Nat) (cells : Array Value), W.heap[g]? = some (.cells cells 92 (0, 0)) → W'.heap[g]? = W.heap[g]?) : Dig W' s v := by
  rcases h with h | ⟨h1, h2, g, c, cells, h3, h4, h5, h6, h7⟩
  · exact .inl h
  · have e := hk g cells h6
    exact .inr ⟨h1, h2, g, c, cells, h3, h4, h5, e.trans h6, (cell_same (p := ⟨g, 0, none⟩) e).trans h7⟩
theorem Dig.below {W W' : World} {s : Value} {v : Nat} (h : Dig W s v) (hb : Below W.heap.size W W') : Dig W' s v :=
  h.same fun g _ hg => hb.block g (Array.getElem?_eq_some_iff.1 hg).1
theorem Dig.of_new {W : World} {g c : Nat} {cells : Array Value} (h : W.heap[g]? = some (.cells cells 92 (0, 0))) (hc : c ≤ 1000000) (h1 : 1 ≤ c) {v : Nat} (hv : v < 4294967296) (h0 : cells[0]? = some (.int .u32 (v : Int))) :
    Dig W (.slice (some ⟨g, 0, none⟩) (if v = 0 then 0 else 1) c) v := by
  split
  · rename_i e; exact .inl ⟨e, _, _, rfl, hc⟩
  · refine .inr ⟨by omega, hv, g, c, cells, rfl, h1, hc, h, ?_⟩
    simp [World.cell?, h, h0]
theorem tl_one (v : Nat) (xs : List Int) (h0 : xs.getD 0 0 = (v : Int)) (n : Nat) (hn : ∀ j, 1 ≤ j → j < n + 1 → xs.getD j 0 = 0) : tl xs (n + 1) = if v = 0 then 0 else 1 := by
  induction n with
  | zero =>
    simp only [tl]
    rw [h0]
    by_cases e : v = 0
    · rw [if_pos (by omega), if_pos e]
    · rw [if_neg (by omega), if_neg e]
  | succ n ih =>
    rw [tl, if_pos (hn (n + 1) (by omega) (by omega))]
    exact ih (fun j h1 h2 => hn j h1 (by omega))
theorem two_cells (v : Nat) (w : World) : ∀ j, j < 2 → (w.alloc (.cells #[.int .u32 (v : Int), .int .u32 0] 92)).cell? ⟨w.heap.size, j, none⟩ = some (.int .u32 ([(v : Int), 0].getD j 0)) := by
  intro j hj
  rw [World.cell?_alloc_at _ _ _ _ rfl]
  match j, hj with
  | 0, _ => rfl
  | 1, _ => rfl
set_option maxHeartbeats 400000 in
theorem of_walk (v : Nat) (hv : v < 4294967296) (w : World) :
    Calls Try.prog 78 #[.int .u64 (v : Int)] w fun e w' => ∃ s, e = .returned s ∧ Dig w' s v ∧ Below w.heap.size w w' := by
  have e1 : (v : Int) / 4294967296 = 0 := by omega
  have h0 := heap_alloc_new w (.cells #[.int .u32 (v : Int), .int .u32 0] 92)
  have HN := Lib.hid h0
  clear h0
  have hcells : ∀ j, j < 2 → (w.alloc (.cells #[.int .u32 (v : Int), .int .u32 0] 92)).cell? ⟨w.heap.size, j, none⟩ = some (.int .u32 ([(v : Int), 0].getD j 0)) := by
    intro j hj
    rw [World.cell?_alloc_at _ _ _ _ rfl]
    match j, hj with
    | 0, _ => rfl
    | 1, _ => rfl
  have HC := Lib.hid hcells
  clear hcells
  go_enter Try.func78, Try.ntmps78
  go_wp2_with (go_at_call 84; refine (trim_walk w.heap.size 2 2 [(v : Int), 0] _ HC.out (by omega) (by omega) (by omega)).mono ?_; rintro e w' ⟨rfl, rfl⟩)
  go_ret
  refine ⟨_, rfl, ?_, (Below.refl _ w).alloc (Nat.le_refl _) _⟩
  rw [tl_one v _ rfl 1 (fun j h1 h2 => by rw [show j = 1 by omega]; rfl)]
  exact Dig.of_new HN.out (by omega) (by omega) hv rfl
theorem mk92 (m : Nat) (hm : m ≤ 1000) (t : Value) (ht : t = .int .i64 (m : Int)) : ∀ W : World, (Instr.makeSlice 80 t t).run Try.prog W = .ok (.slice (some ⟨W.heap.size, 0, none⟩) m m) (W.alloc (.cells (madeCells #[.int .u32 0] m) 92)) := by
  subst ht
  exact print_make 80 92 .u32 4 Try.underlying80 (by kernel_rfl) (by omega) m (by omega)
theorem mk92_2 : ∀ W : World, (Instr.makeSlice 80 (.int .i64 2) (.int .i64 2)).run Try.prog W = .ok (.slice (some ⟨W.heap.size, 0, none⟩) 2 2) (W.alloc (.cells #[.int .u32 0, .int .u32 0] 92)) := by
  have h := mk92 2 (by omega) (.int .i64 2) rfl
  rwa [show madeCells #[Value.int .u32 0] 2 = #[.int .u32 0, .int .u32 0] by simp [madeCells, Array.ext_iff]; intro i h1 h2; rcases i with _ | _ | i <;> simp at h1 ⊢; omega] at h
theorem mk92_1 : ∀ W : World, (Instr.makeSlice 80 (.int .i64 1) (.int .i64 1)).run Try.prog W = .ok (.slice (some ⟨W.heap.size, 0, none⟩) 1 1) (W.alloc (.cells #[.int .u32 0] 92)) := by
  have h := mk92 1 (by omega) (.int .i64 1) rfl
  rwa [show madeCells #[Value.int .u32 0] 1 = #[.int .u32 0] by simp [madeCells, Array.ext_iff]] at h
set_option maxHeartbeats 400000 in
set_option maxRecDepth 100000 in
theorem plus11 (ga ca gb cb x y : Nat) (w : World) (hx : w.cell? ⟨ga, 0, none⟩ = some (.int .u32 (x : Int))) (hy : w.cell? ⟨gb, 0, none⟩ = some (.int .u32 (y : Int))) (hs : x + y < 4294967296) :
    Calls Try.prog 81 #[.slice (some ⟨ga, 0, none⟩) 1 ca, .slice (some ⟨gb, 0, none⟩) 1 cb] w fun e w' => ∃ s, e = .returned s ∧ Dig w' s (x + y) ∧ Below w.heap.size w w' := by
  have hmk := mk92_2
  have h0 := heap_alloc_new w (.cells #[.int .u32 ((x + y : Nat) : Int), .int .u32 0] 92)
  have HN := Lib.hid h0
  clear h0
  have h0 := two_cells (x + y) w
  have HC := Lib.hid h0
  clear h0
  have ga1 := World.block_lt_of_cell? w _ hx
  have gb1 := World.block_lt_of_cell? w _ hy
  simp only at ga1 gb1
  have hs2 : ((x : Int) + (y : Int)) / 4294967296 = 0 := by omega
  go_enter Try.func81, Try.ntmps81
  go_wp2
  refine wp_loop_rounds 2 ?_
  rw [rounds_succ]
  go_wp2
  rw [rounds_succ]
  go_wp2_with (go_at_call 84; refine (trim_walk w.heap.size 2 2 [((x + y : Nat) : Int), 0] _ HC.out (by omega) (by omega) (by omega)).mono ?_; rintro e w' ⟨rfl, rfl⟩)
  go_ret
  refine ⟨_, rfl, ?_, (Below.refl _ w).alloc (Nat.le_refl _) _⟩
  rw [tl_one (x + y) _ rfl 1 (fun j h1 h2 => by rw [show j = 1 by omega]; rfl)]
  exact Dig.of_new HN.out (by omega) (by omega) hs rfl
set_option maxHeartbeats 400000 in
set_option maxRecDepth 100000 in
theorem plus10 (ga ca : Nat) (B : Option Addr) (cb x : Nat) (w : World) (hx : w.cell? ⟨ga, 0, none⟩ = some (.int .u32 (x : Int))) (hs : x < 4294967296) :
    Calls Try.prog 81 #[.slice (some ⟨ga, 0, none⟩) 1 ca, .slice B 0 cb] w fun e w' => ∃ s, e = .returned s ∧ Dig w' s x ∧ Below w.heap.size w w' := by
  have hmk := mk92_2
  have h0 := heap_alloc_new w (.cells #[.int .u32 (x : Int), .int .u32 0] 92)
  have HN := Lib.hid h0
  clear h0
  have h0 := two_cells x w
  have HC := Lib.hid h0
  clear h0
  have ga1 := World.block_lt_of_cell? w _ hx
  simp only at ga1
  have hs2 : (x : Int) / 4294967296 = 0 := by omega
  go_enter Try.func81, Try.ntmps81
  go_wp2
  refine wp_loop_rounds 2 ?_
  rw [rounds_succ]
  go_wp2
  rw [rounds_succ]
  go_wp2_with (go_at_call 84; refine (trim_walk w.heap.size 2 2 [(x : Int), 0] _ HC.out (by omega) (by omega) (by omega)).mono ?_; rintro e w' ⟨rfl, rfl⟩)
  go_ret
  refine ⟨_, rfl, ?_, (Below.refl _ w).alloc (Nat.le_refl _) _⟩
  rw [tl_one x _ rfl 1 (fun j h1 h2 => by rw [show j = 1 by omega]; rfl)]
  exact Dig.of_new HN.out (by omega) (by omega) hs rfl
set_option maxHeartbeats 400000 in
set_option maxRecDepth 100000 in
theorem plus01 (ga ca : Nat) (B : Option Addr) (cb x : Nat) (w : World) (hx : w.cell? ⟨ga, 0, none⟩ = some (.int .u32 (x : Int))) (hs : x < 4294967296) :
    Calls Try.prog 81 #[.slice B 0 cb, .slice (some ⟨ga, 0, none⟩) 1 ca] w fun e w' => ∃ s, e = .returned s ∧ Dig w' s x ∧ Below w.heap.size w w' := by
  have hmk := mk92_2
  have h0 := heap_alloc_new w (.cells #[.int .u32 (x : Int), .int .u32 0] 92)
  have HN := Lib.hid h0
  clear h0
  have h0 := two_cells x w
  have HC := Lib.hid h0
  clear h0
  have ga1 := World.block_lt_of_cell? w _ hx
  simp only at ga1
  have hs2 : (x : Int) / 4294967296 = 0 := by omega
  go_enter Try.func81, Try.ntmps81
  go_wp2
  refine wp_loop_rounds 2 ?_
  rw [rounds_succ]
  go_wp2
  rw [rounds_succ]
  go_wp2_with (go_at_call 84; refine (trim_walk w.heap.size 2 2 [(x : Int), 0] _ HC.out (by omega) (by omega) (by omega)).mono ?_; rintro e w' ⟨rfl, rfl⟩)
  go_ret
  refine ⟨_, rfl, ?_, (Below.refl _ w).alloc (Nat.le_refl _) _⟩
  rw [tl_one x _ rfl 1 (fun j h1 h2 => by rw [show j = 1 by omega]; rfl)]
  exact Dig.of_new HN.out (by omega) (by omega) hs rfl
set_option maxHeartbeats 400000 in
set_option maxRecDepth 100000 in
theorem plus00 (A : Option Addr) (ca : Nat) (B : Option Addr) (cb : Nat) (w : World) :
    Calls Try.prog 81 #[.slice A 0 ca, .slice B 0 cb] w fun e w' => ∃ s, e = .returned s ∧ Dig w' s 0 ∧ Below w.heap.size w w' := by
  have hmk := mk92_1
  have h0 : ∀ j, j < 1 → (w.alloc (.cells #[.int .u32 0] 92)).cell? ⟨w.heap.size, j, none⟩ = some (.int .u32 (([0] : List Int).getD j 0)) := by
    intro j hj
    rw [World.cell?_alloc_at _ _ _ _ rfl]
    match j, hj with
    | 0, _ => rfl
  have HC := Lib.hid h0
  clear h0
  go_enter Try.func81, Try.ntmps81
  go_wp2
  refine wp_loop_rounds 1 ?_
  rw [rounds_succ]
  go_wp2_with (go_at_call 84; refine (trim_walk w.heap.size 1 1 [0] _ HC.out (by omega) (by omega) (by omega)).mono ?_; rintro e w' ⟨rfl, rfl⟩)
  go_ret
  refine ⟨_, rfl, .inl ⟨rfl, _, 1, rfl, by omega⟩, (Below.refl _ w).alloc (Nat.le_refl _) _⟩
theorem plus_walk {w : World} {s t : Value} {x y : Nat} (h : Dig w s x) (k : Dig w t y) (hs : x + y < 4294967296) :
    Calls Try.prog 81 #[s, t] w fun e w' => ∃ s, e = .returned s ∧ Dig w' s (x + y) ∧ Below w.heap.size w w' := by
  rcases h with ⟨rfl, A, c, rfl, _⟩ | ⟨h1, h2, g, c, cells, rfl, h4, h5, h6, h7⟩
  · rcases k with ⟨rfl, B, d, rfl, _⟩ | ⟨k1, k2, g, d, cells, rfl, k4, k5, k6, k7⟩
    · exact plus00 A c B d w
    · rw [Nat.zero_add]; exact plus01 g d A c y w k7 k2
  · rcases k with ⟨rfl, B, d, rfl, _⟩ | ⟨k1, k2, g', d, cells, rfl, k4, k5, k6, k7⟩
    · exact plus10 g c B d x w h7 h2
    · exact plus11 g c g' d x y w h7 k7 hs
set_option maxHeartbeats 400000 in
theorem small1 (g c x : Nat) (w : World) (hx : w.cell? ⟨g, 0, none⟩ = some (.int .u32 (x : Int))) (x1 : x < 4294967296) :
    Calls Try.prog 74 #[.slice (some ⟨g, 0, none⟩) 1 c] w fun e w' => e = .returned (.tuple #[.int .u64 (x : Int), .bool true]) ∧ w = w' := by
  go_enter Try.func74, Try.ntmps74
  go_wp2
  go_ret2
  exact ⟨rfl, rfl⟩
set_option maxHeartbeats 400000 in
theorem small0 (A : Option Addr) (c : Nat) (w : World) :
    Calls Try.prog 74 #[.slice A 0 c] w fun e w' => e = .returned (.tuple #[.int .u64 0, .bool true]) ∧ w = w' := by
  go_enter Try.func74, Try.ntmps74
  go_wp2
  go_ret2
  exact ⟨rfl, rfl⟩
theorem maskS (a : Nat) (ha : a < 4294967296) : bits .and .u64 (a : Int) 4294967295 = (a : Int) := by
  have h := bits_and_u64_nat a 4294967295 (by omega) (by omega)
  have e : a &&& 4294967295 = a % 4294967296 := Nat.and_two_pow_sub_one_eq_mod a 32
  rw [e, Nat.mod_eq_of_lt ha] at h
  exact h
theorem wrapS (a : Int) (h0 : 0 ≤ a) (ha : a < 4294967296) : IntKind.u64.wrap a = a := by rw [IntKind.wrap_u64]; omega
set_option maxHeartbeats 400000 in
set_option maxRecDepth 100000 in
theorem mul64 (x y : Nat) (w : World) (x1 : x < 4294967296) (y1 : y < 4294967296) (hs : x * y < 4294967296) :
    Calls Try.prog 85 #[.int .u64 (x : Int), .int .u64 (y : Int)] w fun e w' => e = .returned (.tuple #[.int .u64 0, .int .u64 ((x * y : Nat) : Int)]) ∧ w = w' := by
  have e0 : ((x * y : Nat) : Int) = (x : Int) * (y : Int) := Int.natCast_mul x y
  obtain ⟨z, hz⟩ : ∃ z : Int, (x : Int) * (y : Int) = z := ⟨_, rfl⟩
  have e1 : (x : Int) / 4294967296 = 0 := by omega
  have e2 : (y : Int) / 4294967296 = 0 := by omega
  have e3 : z / 4294967296 = 0 := by omega
  have e4 : IntKind.u64.wrap z = z := wrapS z (by omega) (by omega)
  have e5 := maskS x x1
  have e6 := maskS y y1
  have e7 : bits .and .u64 0 4294967295 = 0 := maskS 0 (by omega)
  have e8 : IntKind.u64.wrap 0 = 0 := wrapS 0 (by omega) (by omega)
  rw [e0, hz]
  clear e0 hs
  go_enter Try.func85, Try.ntmps85
  go_wp2
  go_ret2
  exact ⟨rfl, rfl⟩
theorem four_cells (v : Nat) (w : World) : ∀ j, j < 4 → (w.alloc (.cells #[.int .u32 (v : Int), .int .u32 0, .int .u32 0, .int .u32 0] 92)).cell? ⟨w.heap.size, j, none⟩ = some (.int .u32 ([(v : Int), 0, 0, 0].getD j 0)) := by
  intro j hj
  rw [World.cell?_alloc_at _ _ _ _ rfl]
  match j, hj with
  | 0, _ => rfl
  | 1, _ => rfl
  | 2, _ => rfl
  | 3, _ => rfl
/-- a number and the value that the walk of 'small' reads off its digits -/
theorem small_walk {w : World} {s : Value} {x : Nat} (h : Dig w s x) : Calls Try.prog 74 #[s] w fun e w' => e = .returned (.tuple #[.int .u64 (x : Int), .bool true]) ∧ w = w' := by
  rcases h with ⟨rfl, A, c, rfl, _⟩ | ⟨h1, h2, g, c, cells, rfl, h4, h5, h6, h7⟩
  · exact small0 A c w
  · exact small1 g c x w h7 h2
theorem Dig.lt {w : World} {s : Value} {x : Nat} (h : Dig w s x) : x < 4294967296 := by
  rcases h with ⟨rfl, _⟩ | ⟨_, h2, _⟩
  · omega
  · exact h2
set_option maxHeartbeats 400000 in
set_option maxRecDepth 100000 in
theorem times_walk {w : World} {s t : Value} {x y : Nat} (h : Dig w s x) (k : Dig w t y) (hs : x * y < 4294967296) :
    Calls Try.prog 80 #[s, t] w fun e w' => ∃ s, e = .returned s ∧ Dig w' s (x * y) ∧ Below w.heap.size w w' := by
  have x1 := h.lt
  have y1 := k.lt
  obtain ⟨z, hz⟩ : ∃ z, x * y = z := ⟨_, rfl⟩
  have HM := mul64 x y w x1 y1 hs
  rw [hz] at HM hs ⊢
  clear hz
  have HS := Lib.hid h
  have HT := Lib.hid k
  clear h k
  have e1 : (z : Int) / 4294967296 = 0 := by omega
  have h0 := heap_alloc_new w (.cells #[.int .u32 (z : Int), .int .u32 0, .int .u32 0, .int .u32 0] 92)
  have HN := Lib.hid h0
  clear h0
  have h0 := four_cells z w
  have HC := Lib.hid h0
  clear h0
  go_enter Try.func80, Try.ntmps80
  go_wp2_with (first | (go_at_call 74; with_reducible refine (small_walk HS.out).mono ?_; rintro e w' ⟨rfl, rfl⟩) | (go_at_call 74; with_reducible refine (small_walk HT.out).mono ?_; rintro e w' ⟨rfl, rfl⟩) | (go_at_call 85; refine HM.mono ?_; rintro e w' ⟨rfl, rfl⟩) | (go_at_call 84; refine (trim_walk w.heap.size 4 4 [(z : Int), 0, 0, 0] _ HC.out (by omega) (by omega) (by omega)).mono ?_; rintro e w' ⟨rfl, rfl⟩))
  go_ret
  refine ⟨_, rfl, ?_, (Below.refl _ w).alloc (Nat.le_refl _) _⟩
  rw [tl_one z _ rfl 3 (fun j h1 h2 => by have : j = 1 ∨ j = 2 ∨ j = 3 := by omega
                                          rcases this with rfl | rfl | rfl <;> rfl)]
  exact Dig.of_new HN.out (by omega) (by omega) hs rfl
end Go.Proofs.Ytfopeenjpdaacaa.PC
