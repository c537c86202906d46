/- Spread: the last row that the iterator hands out. -/
import Derived.Test.YtfopeenjpdaacaaHIter
import Derived.Stop.RegionWithIn
import Derived.OwnWalkIn
namespace Go.Proofs.Ytfopeenjpdaacaa.PC
open Go.RowKit Go.Proofs.YtfopeenjpdaacaaW.PrintWords Go.Proofs.YtfopeenjpdaacaaW.PrintLast Go.Proofs.YtfopeenjpdaacaaW.PrintMore
attribute [local go_sem] Oper.semAt_some
/-- what is in the caller's variable when k rows are over -/
def rowI : Nat → List Int
  | 0 => []
  | k + 1 => (chairs_Spread.row (chairs_Spread.known k) (k + 1)).map fun x : Nat => (x : Int)
/-- what the caller holds between the rounds -/
structure CSt (n₀ Bo Bs : Nat) (w : World) (xs : List Int) (W : World) : Prop where
  own : ∃ v, Boxed W Bo 22 v ∧ W.ownsRow (Bs + 1) 3 1 v xs.length (nums .i64 xs)
  below : Below n₀ w W
theorem CSt.stable {n₀ Bo Bs B0 : Nat} {w : World} {xs : List Int} (hB : n₀ ≤ B0) (hw : n₀ ≤ w.heap.size) : Stable B0 (CSt n₀ Bo Bs w xs) := by
  rintro A B ⟨⟨v, hv, ho⟩, hb⟩ ⟨row, hg, hr⟩
  have keep : ∀ (k : Nat) (cells : Array Value) (t : Nat), A.heap[k]? = some (.cells cells t (0, 0)) → t ≠ 65 → t ≠ 66 → t ≠ 82 → B.heap[k]? = A.heap[k]? := fun k cells t hk h1 h2 h3 => by
    refine hg.block k (block_lt' hk) fun e => ?_
    obtain ⟨_, cells', t', hx, ht⟩ := hr k e.symm
    rw [hk] at hx
    injection hx with hx
    injection hx with _ h4
    subst h4
    rcases ht with ht | ht | ht
    · exact h1 ht
    · exact h2 ht
    · exact h3 ht
  refine ⟨⟨v, (keep _ _ _ hv (by decide) (by decide) (by decide)).trans hv, own_move ho fun k hk => ?_⟩, ?_⟩
  · obtain ⟨cells, hc⟩ := own_typed ho k hk
    exact keep k cells 3 hc (by decide) (by decide) (by decide)
  · refine ⟨hg.os.trans hb.os, hg.tape.trans hb.tape, hg.output.trans hb.output, Nat.le_trans hb.size hg.size, fun k hk => (hg.block k (by have := hb.size; omega) fun e => ?_).trans (hb.block k hk)⟩
    have := (hr k e.symm).1
    omega
theorem CSt.put {n₀ Bo Bs l : Nat} {w W : World} {xs : List Int} {o o' : Obj} (h : CSt n₀ Bo Bs w xs W) (hn : n₀ ≤ l) (hl : W.heap[l]? = some o) (hc : o.isCells = false) : CSt n₀ Bo Bs w xs (W.putObj l o') := by
  obtain ⟨⟨v, hv, ho⟩, hb⟩ := h
  have keep : ∀ (k : Nat) (cells : Array Value) (t : Nat), W.heap[k]? = some (.cells cells t (0, 0)) → (W.putObj l o').heap[k]? = W.heap[k]? := fun k cells t hk => World.putObj_heap_other (by
    rintro rfl
    rw [hk] at hl
    cases hl
    cases hc)
  refine ⟨⟨v, (keep _ _ _ hv).trans hv, own_move ho fun k hk => ?_⟩, ?_⟩
  · obtain ⟨cells, hx⟩ := own_typed ho k hk
    exact keep k cells 3 hx
  · have hg := grownBy_putObj' W l o'
    exact ⟨hg.os.trans hb.os, hg.tape.trans hb.tape, hg.output.trans hb.output, Nat.le_trans hb.size hg.size, fun k hk => (World.putObj_heap_other (by omega)).trans (hb.block k hk)⟩
/-- the state when j numbers of the row are over -/
structure RI (n₀ : Nat) (w : World) (B : Nat) (F : List Nat) (W : World) (j : Nat) (wr : World) : Prop where
  own : ∃ v, Boxed wr n₀ 22 v ∧ wr.ownsRow (n₀ + 2) 3 1 v ((F.take j).map fun x : Nat => (x : Int)).length (nums .i64 ((F.take j).map fun x : Nat => (x : Int)))
  below : Below n₀ w wr
  kp : KpM (n₀ + 1) W wr
  kf : KeepsFrom B W wr
theorem RI.keeps {n₀ B j : Nat} {w W wr : World} {F : List Nat} (h : RI n₀ w B F W j wr) : Keep65 W wr := fun r cells t hr ht => h.kp.same r cells t hr (.inr ht)
theorem info3' : (Try.prog.info? 3).map (fun i => (i.zero, i.size, i.bytes)) = some (some (.int .i64 0), 1, 8) := by kernel_rfl
theorem take_snoc (F : List Nat) (j : Nat) (hj : j < F.length) : (F.take (j + 1)).map (fun x : Nat => (x : Int)) = (F.take j).map (fun x : Nat => (x : Int)) ++ [((F.getD j 0 : Nat) : Int)] := by
  rw [List.take_succ_eq_append_getElem hj, List.map_append]
  simp [List.getD_eq_getElem?_getD, hj]
/-- a step of the caller's: it writes its own variable, or its own row -/
theorem RI.step {n₀ B j : Nat} {w W wr w2 w1 : World} {F : List Nat} {vj v1 : Value} {xs ys : List Int} (h : RI n₀ w B F W j wr) (hv : Boxed wr n₀ 22 vj) (ho : wr.ownsRow (n₀ + 2) 3 1 vj xs.length (nums .i64 xs)) (h2 : Below wr.heap.size wr w2) (hg : w2.grownBy w1 vj.ownBlock)
    (ho1 : w1.ownsRow (n₀ + 2) 3 1 v1 ys.length (nums .i64 ys)) (hy : ys = (F.take (j + 1)).map (fun x : Nat => (x : Int))) (hn : n₀ + 1 < wr.heap.size) : RI n₀ w B F W (j + 1) (w1.setCell ⟨n₀, 0, none⟩ v1) := by
  have ho2 := pw_own_below ho h2
  have hz := h2.size
  -- blocks that are no own row stay
  have keep1 : ∀ k, k < w2.heap.size → vj.ownBlock ≠ some k → w1.heap[k]? = w2.heap[k]? := fun k hk hne => hg.block k hk (fun e => hne e.symm)
  have hv2 : w2.heap[n₀]? = some (.cells #[vj] 22 (0, 0)) := (h2.block n₀ (by omega)).trans hv
  have hne : vj.ownBlock ≠ some n₀ := fun e => by have := own_base ho n₀ e; omega
  have hv1 : w1.heap[n₀]? = some (.cells #[vj] 22 (0, 0)) := (keep1 n₀ (by omega) hne).trans hv2
  have keep2 : ∀ k, k ≠ n₀ → (w1.setCell ⟨n₀, 0, none⟩ v1).heap[k]? = w1.heap[k]? := fun k hk => Below.heap_setCell w1 _ v1 k hk
  have hsz : (w1.setCell ⟨n₀, 0, none⟩ v1).heap.size = w1.heap.size := by simp
  have keepT : ∀ (r : Nat) (cells : Array Value) (t : Nat), wr.heap[r]? = some (.cells cells t (0, 0)) → t ≠ 3 → t ≠ 22 → (w1.setCell ⟨n₀, 0, none⟩ v1).heap[r]? = wr.heap[r]? := fun r cells t hr h3 h22 => by
    have hlt := block_lt' hr
    have e1 : r ≠ n₀ := by
      rintro rfl
      have hv' : wr.heap[r]? = some (.cells #[vj] 22 (0, 0)) := hv
      rw [hr] at hv'
      injection hv' with hv'
      injection hv' with _ h4
      exact h22 h4
    have e2 : vj.ownBlock ≠ some r := fun e => by
      obtain ⟨cells', hc⟩ := own_typed ho r e
      rw [hr] at hc
      injection hc with hc
      injection hc with _ h4
      exact h3 h4
    exact ((keep2 r e1).trans (keep1 r (by omega) e2)).trans (h2.block r hlt)
  have keepO : ∀ (r : Nat) (o : Obj), wr.heap[r]? = some o → o.isCells = false → (w1.setCell ⟨n₀, 0, none⟩ v1).heap[r]? = some o := fun r o hr hc => by
    have hlt := block_lt' hr
    have e1 : r ≠ n₀ := by
      rintro rfl
      rw [show wr.heap[r]? = _ from hv] at hr
      cases hr
      cases hc
    have e2 : vj.ownBlock ≠ some r := fun e => by
      obtain ⟨cells', hx⟩ := own_typed ho r e
      rw [hr] at hx
      cases hx
      cases hc
    exact (((keep2 r e1).trans (keep1 r (by omega) e2)).trans (h2.block r hlt)).trans hr
  refine ⟨⟨v1, heap_set hv1 v1, ?_⟩, ?_, ⟨?_, ?_, ?_⟩, ⟨?_, ?_⟩⟩
  · rw [← hy]
    refine own_move ho1 fun k hk => keep2 k (fun e => ?_)
    have := own_base ho1 k hk
    omega
  · have hb := h.below
    refine ⟨by show w1.os = w.os; exact (hg.os.trans h2.os).trans hb.os, by show w1.tape = w.tape; exact (hg.tape.trans h2.tape).trans hb.tape, by show w1.output = w.output; exact (hg.output.trans h2.output).trans hb.output, by rw [hsz]; exact Nat.le_trans (Nat.le_trans hb.size h2.size) hg.size, fun k hk => ?_⟩
    exact (((keep2 k (by omega)).trans (keep1 k (by omega) (fun e => by have := own_base ho k e; omega))).trans (h2.block k (by omega))).trans (hb.block k hk)
  · rw [hsz]; exact Nat.le_trans (Nat.le_trans h.kp.size h2.size) hg.size
  · exact (((keep2 _ (by omega)).trans (keep1 _ (by omega) (fun e => by have := own_base ho _ e; omega))).trans (h2.block _ hn)).trans h.kp.box
  · intro r cells t hr ht
    have h1 := h.kp.same r cells t hr ht
    refine (keepT r cells t (h1.trans hr) ?_ ?_).trans h1
    · rintro rfl; rcases ht with ht | ht | ht | ht <;> cases ht
    · rintro rfl; rcases ht with ht | ht | ht | ht <;> cases ht
  · rw [hsz]; exact Nat.le_trans (Nat.le_trans h.kf.size h2.size) hg.size
  · intro k o hB hk hc
    exact keepO k o (h.kf.same k o hB hk hc) hc
theorem RI.start {n₀ B : Nat} {w W : World} {F : List Nat} {v0 : Value} (hv : Boxed W n₀ 22 v0) (hb : Below n₀ w W) : RI n₀ w B F W 0 (W.setCell ⟨n₀, 0, none⟩ (.slice none 0 0)) := by
  have hv' : W.heap[n₀]? = some (.cells #[v0] 22 (0, 0)) := hv
  have keep2 : ∀ k, k ≠ n₀ → (W.setCell ⟨n₀, 0, none⟩ (.slice none 0 0)).heap[k]? = W.heap[k]? := fun k hk => Below.heap_setCell W _ _ k hk
  refine ⟨⟨_, heap_set hv' _, own_nil _ _ _ _⟩, hb.setCell (p := ⟨n₀, 0, none⟩) (Nat.le_refl _) _, ⟨by simp, keep2 _ (by omega), fun r cells t hr ht => keep2 r ?_⟩, ⟨by simp, fun k o _ hk hc => (keep2 k ?_).trans hk⟩⟩
  · rintro rfl
    rw [hr] at hv'
    injection hv' with hv'
    injection hv' with _ h4
    subst h4
    rcases ht with ht | ht | ht | ht <;> cases ht
  · rintro rfl
    rw [hv'] at hk
    cases hk
    cases hc
/-- an append at its place in a region that draws its order -/
theorem append_in {F : Fence} {n : Nat} {P : Program} {ops : Array Oper} {o : Oper} {a : Act} {w w1 : World} {K : Act → World → Prop} {Q : Exit → Act → World → Prop} {X : Prop} (hw : Region.wanted o (yielded ops a.tmps) = true) (s x : Operand) (t : TypeId)
    (ho : o.op = .call { callee := .builtin .append, args := #[s, x], argTypes := #[t, t] }) {v y v1 : Value} (hs : a.eval s = v) (hx : a.eval x = y) (hr : (Builtin.append_ #[t, t] o.type #[v, y]).run P w = .ok v1 w1) (hk : K (a.put o.dst v1) w1) :
    if Region.wanted o (yielded ops a.tmps) = true then Oper.wpIn F n P o a w K Q else X := by
  rw [if_pos hw]
  unfold Oper.wpIn
  refine ⟨by simp [Oper.about, ho, resolve, Target.leads, Sem.run_pure], ?_⟩
  rw [Oper.semAt_plain F _ _ (by rw [ho]; intro c hc'; cases hc')]
  simp [execOp, ho, resolve, invoke, builtin, hs, hx, hr, Result.andThen]
  exact hk
theorem moves_make (F : Fence) (m : Nat) (h5 : F.fn 56) (hro : F.round = none) (n : Int) (w : World) :
    CallsIn F m Try.prog 56 #[.int .i64 n] w fun e w' => e = .returned (.func (.func 69) #[] #[.pointer (some ⟨w.heap.size, 0, none⟩)]) ∧ w' = w.alloc (.cells #[.int .i64 n] 3) := by
  refine callsIn_of_wp Try.func56 rfl h5 ?_ hro
  simp only [Try.ntmps56, List.size_toArray, List.length_cons, List.length_nil, Nat.reduceAdd, Nat.reduceSub, Array.replicate_succ, Array.replicate_zero, List.push_toArray, List.append_toArray, List.nil_append, List.cons_append]
  gi_wp2
  go_ret
  exact ⟨rfl, rfl⟩
set_option maxRecDepth 1000000 in
set_option maxHeartbeats 4000000 in
theorem spread_walk (n : Nat) (hn1 : 1 ≤ n) (hn : n ≤ 10) (w : World) :
    Calls Try.prog 24 #[.int .i64 (n : Int)] w fun e w' => ∃ v0_ : Value, e = .returned (.tuple #[v0_, .int .i64 0]) ∧ Kd.R (Kd.int .i64) 3 w' w.heap.size (fun _ => True) v0_ (rowI n) ∧ Below w.heap.size w w' := by
  have d1 : decide ((n : Int) < 1) = false := decide_eq_false (by omega)
  have d2 : decide ((10 : Int) < (n : Int)) = false := decide_eq_false (by omega)
  refine (callsIn_wide (n := 5)).1 ?_
  refine callsIn_of_wp_marks Try.func24 rfl trivial ?_ rfl
  simp only [Try.ntmps24, List.size_toArray, List.length_cons, List.length_nil, Nat.reduceAdd, Nat.reduceSub, Array.replicate_succ, Array.replicate_zero, List.push_toArray, List.append_toArray, List.nil_append, List.cons_append]
  gi_wp2_with (refine ⟨trivial, ?_⟩; gi_at_call 56; refine (moves_make Fence.wide (5 - 1) trivial rfl _ _).mono ?_; rintro e w' ⟨rfl, rfl⟩)
  obtain ⟨n₀, hn₀⟩ : ∃ n₀, w.heap.size = n₀ := ⟨_, rfl⟩
  obtain ⟨W1, hW1⟩ : ∃ W1, (w.alloc (.cells #[.slice none 0 0] 22)).alloc (.cells #[.int .i64 (n : Int)] 3) = W1 := ⟨_, rfl⟩
  have hb1 : Below n₀ w W1 := by rw [← hW1, ← hn₀]; exact ((Below.refl _ w).alloc (Nat.le_refl _) _).alloc (by simp) _
  have hs1 : W1.heap.size = n₀ + 2 := by rw [← hW1, ← hn₀]; simp
  have hBo : Boxed W1 n₀ 22 (.slice none 0 0) := by rw [← hW1, ← hn₀]; exact (Boxed.new w 22 _).alloc _
  have hBs : W1.heap[n₀ + 1]? = some (.cells #[.int .i64 (n : Int)] 3 (0, 0)) := by
    rw [← hW1, ← hn₀]
    have := heap_alloc_new (w.alloc (.cells #[.slice none 0 0] 22)) (.cells #[.int .i64 (n : Int)] 3)
    rwa [World.size_alloc] at this
  have h0 : CSt n₀ n₀ (n₀ + 1) w (rowI 0) W1 := ⟨⟨_, hBo, own_nil _ _ _ _⟩, hb1⟩
  rw [hW1]
  simp only [hn₀]
  refine range_rows (n₀ + 1) n hn rfl rfl hBs (fun k => CSt n₀ n₀ (n₀ + 1) w (rowI k)) (fun k => CSt.stable (by omega) (by omega)) (fun k W l o o' hl ho hc h => h.put (by omega) ho hc) h0 (fun v => { tmps := #[.int .i64 (n : Int), undef, .slice none 0 0, .int .i64 0, .pointer (some ⟨n₀, 0, none⟩), v, undef, undef, .int .i64 (n : Int), .bool false, .bool false, .int .i64 (n : Int), .bool false, .bool false, .int .i64 (n : Int), .func (.func 69) #[] #[.pointer (some ⟨n₀ + 1, 0, none⟩)], v, undef, undef, undef, undef, undef, undef, undef, undef, undef, undef, undef, undef, undef], defers := [] }) ?assign ?body ?done
  case assign =>
    intro l v W K hK
    gi_wp2
    exact hK
  case body =>
    intro l k v W hI hsW hk hrow
    obtain ⟨q, ps, rfl, hnr⟩ := hrow
    obtain ⟨⟨v0, hv, ho⟩, hb⟩ := hI
    obtain ⟨F, hF⟩ : ∃ F, chairs_Spread.row (chairs_Spread.known k) (k + 1) = F := ⟨_, rfl⟩
    rw [hF] at hnr ⊢
    obtain ⟨m, hm⟩ : ∃ m, F.length = m := ⟨_, rfl⟩
    rw [hm]
    have hvc := hv.cell
    have hvf := hv.frozen
    have HNR := Lib.hid hnr
    have HV := Lib.hid hv
    have HB := Lib.hid hb
    have HF := Lib.hid hF
    have HM := Lib.hid hm
    have hmb : m ≤ 46 := by rw [← HM.out, ← HF.out]; exact MSpread.row_len (by omega)
    clear hnr hv ho hb hF hm
    have hR0 : RI n₀ w W1.heap.size F W 0 (W.setCell ⟨n₀, 0, none⟩ (.slice none 0 0)) := RI.start HV.out HB.out
    have HR0 := Lib.hid hR0
    clear hR0
    gi_wp2
    gi_loopw [19] (fun t wr => ∃ j : Nat, j ≤ m ∧ t = .int .i64 (j : Int) ∧ RI n₀ w W1.heap.size F W j wr) (fun t _ => m - (intOf t).toNat)
    case atStart => exact ⟨0, by omega, rfl, HR0.out⟩
    case round =>
      obtain ⟨j, hj, rfl, hR⟩ := hrel
      have HR := Lib.hid hR
      clear hR
      by_cases hlt : j < m
      · have d3 : decide ((j : Int) < (m : Int)) = true := decide_eq_true (by omega)
        obtain ⟨vj, hvj, hoj⟩ := HR.out.own
        have hNr := HNR.out.keep HR.out.keeps
        have hcj := hNr.row.cell j (by rw [hNr.len, HM.out]; exact hlt)
        have hnj := hNr.num j (by rw [HM.out]; exact hlt)
        obtain ⟨x, hx⟩ : ∃ x, F.getD j 0 = x := ⟨_, rfl⟩
        obtain ⟨p, hp⟩ : ∃ p, ps.getD j 0 = p := ⟨_, rfl⟩
        rw [hp] at hcj
        rw [hx, hp] at hnj
        have hcell := hvj.cell
        have hfro := hvj.frozen
        have HVJ := Lib.hid hvj
        have HOJ := Lib.hid hoj
        have HNJ := Lib.hid hnj
        have HX := Lib.hid hx
        have hq : n₀ < wr.heap.size := by
          have h := hvj
          exact block_lt' h
        have hq1 : n₀ + 1 < wr.heap.size := by have := HR.out.kp.size; omega
        have hca : ∀ nd : Nat, ((wr.drewN nd).alloc (.cells #[.int .i64 (x : Int)] 3)).cell? ⟨n₀, 0, none⟩ = some vj := fun nd => by
          rw [World.cell?_alloc_past _ _ _ (show n₀ < (wr.drewN nd).heap.size from hq)]
          exact hcell
        have HCA := Lib.hid hca
        clear hca
        have hint : CallsIn (Fence.wide.inRound l) 2 Try.prog 57 #[.pointer (some ⟨p, 0, none⟩)] wr.drew fun e w' => e = .returned (.int .i64 (x : Int)) ∧ ∃ nd2 : Nat, w' = wr.drew.drewN nd2 := by
          have h := callsIn_wide (n := 2) |>.2 (Int64_walk p x wr.drew (hnj.below ((Below.refl _ _).drew)))
          exact CallsIn.mono h fun e w' ⟨h1, ⟨h2⟩⟩ => ⟨h1, h2⟩
        have HINT := Lib.hid hint
        clear hvj hoj hNr hnj hx hp hint
        gi_wp2
        have happ : ∀ nd2 : Nat, ∃ A1 n1 c1 w1, (Builtin.append_ #[22, 22] 22 #[vj, .slice (some ⟨wr.heap.size, 0, none⟩) 1 1]).run Try.prog ((wr.drewN nd2).alloc (.cells #[.int .i64 (x : Int)] 3)) = .ok (.slice A1 n1 c1) w1 ∧ w1.cell? ⟨n₀, 0, none⟩ = some vj ∧ w1.frozen? ⟨n₀, 0, none⟩ = false ∧ RI n₀ w W1.heap.size F W (j + 1) (w1.setCell ⟨n₀, 0, none⟩ (.slice A1 n1 c1)) := by
          intro nd2
          have hb2 : Below wr.heap.size wr (wr.drewN nd2) := pw_below_drewN (Below.refl _ _) _
          have hb3 : Below wr.heap.size wr ((wr.drewN nd2).alloc (.cells #[.int .i64 (x : Int)] 3)) := hb2.alloc hb2.size _
          have ho3 := pw_own_below HOJ.out hb3
          obtain ⟨i0, hi0, hzz⟩ := Option.map_eq_some_iff.1 info3'
          simp only [Prod.mk.injEq] at hzz
          obtain ⟨hz0, hz1, hz2⟩ := hzz
          have hjl : ((F.take j).map fun x : Nat => (x : Int)).length ≤ 46 := by rw [List.length_map, List.length_take]; omega
          obtain ⟨v1, w1, hr, h2, h3, _, h5⟩ := run_append_own_at (P := Try.prog) ((wr.drewN nd2).alloc (.cells #[.int .i64 (x : Int)] 3)) (n₀ + 2) 22 22 3 i0 (.int .i64 0) 1 8 Try.underlying22 hi0 hz0 hz1 hz2 rfl (by omega) vj _ _ ho3 ⟨wr.heap.size, 0, none⟩ 1 1 [.int .i64 (x : Int)] rfl
            (World.news_of_block (cs := #[.int .i64 (x : Int)]) (t := 3) (fr := (0, 0)) (heap_alloc_new (wr.drewN nd2) _)) (by simp [Value.oneCell']) (by simp only [maxLen]; omega) (by omega) (by have := HR.out.below.size; have := hb3.size; omega)
          have hv2 : ((wr.drewN nd2).alloc (.cells #[.int .i64 (x : Int)] 3)).heap[n₀]? = some (.cells #[vj] 22 (0, 0)) := (hb3.block n₀ hq).trans HVJ.out
          have hne : vj.ownBlock ≠ some n₀ := fun e => by have := own_base HOJ.out n₀ e; omega
          have hv1 := (h3.block n₀ (block_lt' hv2) (fun e => hne e.symm)).trans hv2
          have hsn := take_snoc F j (by rw [HM.out]; exact hlt)
          rw [HX.out] at hsn
          obtain ⟨A1, c1, e1⟩ := own_slice h2
          subst e1
          refine ⟨_, _, _, w1, hr, by simp [World.cell?, hv1], by simp [World.frozen?, hv1], ?_⟩
          refine RI.step HR.out HVJ.out HOJ.out hb3 h3 (ys := (F.take j).map (fun x : Nat => (x : Int)) ++ [(x : Int)]) ?_ hsn.symm hq1
          have e1 : nums .i64 ((F.take j).map (fun x : Nat => (x : Int))) ++ [.int .i64 (x : Int)] = nums .i64 ((F.take j).map (fun x : Nat => (x : Int)) ++ [(x : Int)]) := by simp [nums]
          rw [e1] at h2
          rw [List.length_append]
          exact h2
        have HAPP := Lib.hid happ
        clear happ
        refine wpIn_region_any (by kernel_rfl) ?_
        change wpAnyIn _ _ _ _ _ _ _ _ _ wr.drew
        refine wpAnyIn_ready (rs := [0, 1]) (by kernel_rfl) (by simp) ?_
        refine AllReadyIn.cons rfl (fun K hK => ?_) (AllReadyIn.cons rfl (fun K hK => ?_) AllReadyIn.nil)
        · go_simp
          refine hK _ _ ?_
          clear hK K
          refine wpAnyIn_ready (rs := [1]) (by kernel_rfl) (by simp) ?_
          refine AllReadyIn.cons rfl (fun K hK => ?_) AllReadyIn.nil
          go_simp
          refine hK _ _ ?_
          clear hK K
          refine wpAnyIn_ready (rs := [2]) (by kernel_rfl) (by simp) ?_
          refine AllReadyIn.cons rfl (fun K hK => ?_) AllReadyIn.nil
          go_simp
          refine ⟨trivial, ?_⟩
          refine HINT.out.mono ?_
          rintro e w' ⟨rfl, nd2, rfl⟩
          have hcA := HCA.out (1 + nd2)
          go_simp
          refine hK _ _ ?_
          clear hK K
          refine wpAnyIn_ready (rs := [3]) (by kernel_rfl) (by simp) ?_
          refine AllReadyIn.cons rfl (fun K hK => ?_) AllReadyIn.nil
          go_simp
          refine hK _ _ ?_
          clear hK K
          obtain ⟨A1, n1, c1, w1, hrun, hc1, hf1, hri⟩ := HAPP.out (1 + nd2)
          refine wpAnyIn_ready (rs := [4]) (by kernel_rfl) (by simp) ?_
          refine AllReadyIn.cons rfl (fun K hK => ?_) AllReadyIn.nil
          refine append_in (v := vj) (y := .slice (some ⟨wr.heap.size, 0, none⟩) 1 1) (v1 := .slice A1 n1 c1) (w1 := w1) (by rfl) (.tmp 23) (.tmp 26) 22 rfl rfl rfl hrun ?_
          refine hK _ _ ?_
          clear hK K hrun
          refine wpAnyIn_ready (rs := [5]) (by kernel_rfl) (by simp) ?_
          refine AllReadyIn.cons rfl (fun K hK => ?_) AllReadyIn.nil
          go_simp
          refine hK _ _ ?_
          clear hK K
          refine wpAnyIn_done (by kernel_rfl) ?_ _
          have HRI := Lib.hid hri
          clear hri
          gi_wp2
          go_roundw
          case rel => exact ⟨j + 1, by omega, by go_num, HRI.out⟩
          case measure => simp [intOf]; omega
        · go_simp
          refine hK _ _ ?_
          clear hK K
          refine wpAnyIn_ready (rs := [0, 2]) (by kernel_rfl) (by simp) ?_
          refine AllReadyIn.cons rfl (fun K hK => ?_) (AllReadyIn.cons rfl (fun K hK => ?_) AllReadyIn.nil)
          · go_simp
            refine hK _ _ ?_
            clear hK K
            refine wpAnyIn_ready (rs := [2]) (by kernel_rfl) (by simp) ?_
            refine AllReadyIn.cons rfl (fun K hK => ?_) AllReadyIn.nil
            go_simp
            refine ⟨trivial, ?_⟩
            refine HINT.out.mono ?_
            rintro e w' ⟨rfl, nd2, rfl⟩
            have hcA := HCA.out (1 + nd2)
            go_simp
            refine hK _ _ ?_
            clear hK K
            refine wpAnyIn_ready (rs := [3]) (by kernel_rfl) (by simp) ?_
            refine AllReadyIn.cons rfl (fun K hK => ?_) AllReadyIn.nil
            go_simp
            refine hK _ _ ?_
            clear hK K
            obtain ⟨A1, n1, c1, w1, hrun, hc1, hf1, hri⟩ := HAPP.out (1 + nd2)
            refine wpAnyIn_ready (rs := [4]) (by kernel_rfl) (by simp) ?_
            refine AllReadyIn.cons rfl (fun K hK => ?_) AllReadyIn.nil
            refine append_in (v := vj) (y := .slice (some ⟨wr.heap.size, 0, none⟩) 1 1) (v1 := .slice A1 n1 c1) (w1 := w1) (by rfl) (.tmp 23) (.tmp 26) 22 rfl rfl rfl hrun ?_
            refine hK _ _ ?_
            clear hK K hrun
            refine wpAnyIn_ready (rs := [5]) (by kernel_rfl) (by simp) ?_
            refine AllReadyIn.cons rfl (fun K hK => ?_) AllReadyIn.nil
            go_simp
            refine hK _ _ ?_
            clear hK K
            refine wpAnyIn_done (by kernel_rfl) ?_ _
            have HRI := Lib.hid hri
            clear hri
            gi_wp2
            go_roundw
            case rel => exact ⟨j + 1, by omega, by go_num, HRI.out⟩
            case measure => simp [intOf]; omega
          · go_simp
            refine ⟨trivial, ?_⟩
            refine HINT.out.mono ?_
            rintro e w' ⟨rfl, nd2, rfl⟩
            have hcA := HCA.out (1 + nd2)
            go_simp
            refine hK _ _ ?_
            clear hK K
            refine wpAnyIn_ready (rs := [0, 3]) (by kernel_rfl) (by simp) ?_
            refine AllReadyIn.cons rfl (fun K hK => ?_) (AllReadyIn.cons rfl (fun K hK => ?_) AllReadyIn.nil)
            · go_simp
              refine hK _ _ ?_
              clear hK K
              refine wpAnyIn_ready (rs := [3]) (by kernel_rfl) (by simp) ?_
              refine AllReadyIn.cons rfl (fun K hK => ?_) AllReadyIn.nil
              go_simp
              refine hK _ _ ?_
              clear hK K
              obtain ⟨A1, n1, c1, w1, hrun, hc1, hf1, hri⟩ := HAPP.out (1 + nd2)
              refine wpAnyIn_ready (rs := [4]) (by kernel_rfl) (by simp) ?_
              refine AllReadyIn.cons rfl (fun K hK => ?_) AllReadyIn.nil
              refine append_in (v := vj) (y := .slice (some ⟨wr.heap.size, 0, none⟩) 1 1) (v1 := .slice A1 n1 c1) (w1 := w1) (by rfl) (.tmp 23) (.tmp 26) 22 rfl rfl rfl hrun ?_
              refine hK _ _ ?_
              clear hK K hrun
              refine wpAnyIn_ready (rs := [5]) (by kernel_rfl) (by simp) ?_
              refine AllReadyIn.cons rfl (fun K hK => ?_) AllReadyIn.nil
              go_simp
              refine hK _ _ ?_
              clear hK K
              refine wpAnyIn_done (by kernel_rfl) ?_ _
              have HRI := Lib.hid hri
              clear hri
              gi_wp2
              go_roundw
              case rel => exact ⟨j + 1, by omega, by go_num, HRI.out⟩
              case measure => simp [intOf]; omega
            · go_simp
              refine hK _ _ ?_
              clear hK K
              refine wpAnyIn_ready (rs := [0]) (by kernel_rfl) (by simp) ?_
              refine AllReadyIn.cons rfl (fun K hK => ?_) AllReadyIn.nil
              go_simp
              refine hK _ _ ?_
              clear hK K
              obtain ⟨A1, n1, c1, w1, hrun, hc1, hf1, hri⟩ := HAPP.out (1 + nd2)
              refine wpAnyIn_ready (rs := [4]) (by kernel_rfl) (by simp) ?_
              refine AllReadyIn.cons rfl (fun K hK => ?_) AllReadyIn.nil
              refine append_in (v := vj) (y := .slice (some ⟨wr.heap.size, 0, none⟩) 1 1) (v1 := .slice A1 n1 c1) (w1 := w1) (by rfl) (.tmp 23) (.tmp 26) 22 rfl rfl rfl hrun ?_
              refine hK _ _ ?_
              clear hK K hrun
              refine wpAnyIn_ready (rs := [5]) (by kernel_rfl) (by simp) ?_
              refine AllReadyIn.cons rfl (fun K hK => ?_) AllReadyIn.nil
              go_simp
              refine hK _ _ ?_
              clear hK K
              refine wpAnyIn_done (by kernel_rfl) ?_ _
              have HRI := Lib.hid hri
              clear hri
              gi_wp2
              go_roundw
              case rel => exact ⟨j + 1, by omega, by go_num, HRI.out⟩
              case measure => simp [intOf]; omega
      · obtain rfl : j = m := by omega
        have d3 : decide ((j : Int) < (j : Int)) = false := decide_eq_false (by omega)
        obtain ⟨vj, hvj, hoj⟩ := HR.out.own
        rw [List.take_of_length_le (by rw [HM.out]; exact Nat.le_refl _)] at hoj
        have hfin : RPost (n₀ + 1) k (fun k => CSt n₀ n₀ (n₀ + 1) w (rowI k)) W1.heap.size W .normal { tmps := #[], defers := [] } wr := ⟨HR.out.kf, HR.out.kp, ⟨⟨vj, hvj, by rw [show rowI (k + 1) = F.map (fun x : Nat => (x : Int)) by rw [← HF.out]; rfl]; exact hoj⟩, HR.out.below⟩⟩
        have HFIN := Lib.hid hfin
        clear hvj hoj hfin
        gi_wp2
        exact HFIN.out
  case done =>
    intro D W hD hI hK
    obtain ⟨⟨v, hv, ho⟩, hb⟩ := hI
    have hvc := hv.cell
    gi_wp2
    refine ⟨by simp, .inl ⟨_, _, rfl, run_takeDeferred hK, ?_⟩⟩
    have hown := own_move ho (w1 := W.putObj D (.deferred none)) fun r hr => World.putObj_heap_other (by
      rintro rfl
      obtain ⟨cells, hc⟩ := own_typed ho r hr
      rw [hK] at hc
      cases hc)
    have hR : Kd.R (Kd.int .i64) 3 (W.putObj D (.deferred none)) (n₀ + 2) (fun _ => True) v (rowI n) := Kd.R_of_own hown (fun _ _ => trivial)
    refine ⟨_, results_tmp2 rfl _ _ _, v, rfl, Kd.R_lower hR (by omega), ?_⟩
    rw [hn₀]
    exact hb.trans (belowK_b (w := W1) (by omega) W D _ _ (by omega) hK rfl rfl)
end Go.Proofs.Ytfopeenjpdaacaa.PC
