/- A loop over the rows that the iterator hands out: what a round is told of the row it is given. -/
import Derived.Test.YtfopeenjpdaacaaHMoves
import Derived.RangeFuncWrites
import Derived.Shelf.Abstract
namespace Go.Proofs.Ytfopeenjpdaacaa.PC
open Go.RowKit Go.Proofs.YtfopeenjpdaacaaW.PrintWords Go.Proofs.YtfopeenjpdaacaaW.PrintLast Go.Proofs.YtfopeenjpdaacaaW.PrintMore
/-- how a round is left -/
def RPost (Bs k : Nat) (I : Nat → World → Prop) (B : Nat) (W : World) : Exit → Act → World → Prop
  | .normal, _, W' => KeepsFrom B W W' ∧ KpM Bs W W' ∧ I (k + 1) W'
  | _, _, _ => False
theorem KpM.trans {Bs : Nat} {A B C : World} (h : KpM Bs A B) (k : KpM Bs B C) : KpM Bs A C :=
  ⟨Nat.le_trans h.size k.size, k.box.trans h.box, fun r cells t hr ht => by
    have h1 := h.same r cells t hr ht
    exact (k.same r cells t (h1.trans hr) ht).trans h1⟩
theorem KpM.put {Bs l : Nat} {W : World} {o o' : Obj} (hl : W.heap[l]? = some o) (hc : o.isCells = false) (hne : Bs ≠ l) : KpM Bs W (W.putObj l o') :=
  ⟨by simp, World.putObj_heap_other hne, fun r cells t hr _ => World.putObj_heap_other (by
    rintro rfl
    rw [hr] at hl
    cases hl
    cases hc)⟩
theorem RowV.put {W : World} {l : Nat} {o o' : Obj} {v : Value} {vs : List Nat} (h : RowV W v vs) (hl : W.heap[l]? = some o) (hc : o.isCells = false) : RowV (W.putObj l o') v vs :=
  h.keep fun r cells t hr _ => World.putObj_heap_other (by
    rintro rfl
    rw [hr] at hl
    cases hl
    cases hc)
theorem Stp.lower {B0 B1 : Nat} {A B : World} (h : Stp B1 A B) (hb : B0 ≤ B1) : Stp B0 A B := by
  obtain ⟨row, hg, hr⟩ := h
  exact ⟨row, hg, fun r e => ⟨Nat.le_trans hb (hr r e).1, (hr r e).2⟩⟩
theorem range_rows {g : Operand} {ps : Array Tmp} {assign body : Code} {Q : Exit → Act → World → Prop} {a : Act} {w : World} (Bs n : Nat) (hn : n ≤ 10)
    (hg : a.eval g = .func (.func 69) #[] #[.pointer (some ⟨Bs, 0, none⟩)]) (hps : ps.size = 1)
    (hB : w.heap[Bs]? = some (.cells #[.int .i64 (n : Int)] 3 (0, 0)))
    (I : Nat → World → Prop) (hI : ∀ k, Stable w.heap.size (I k)) (hIo : ∀ (k : Nat) (W : World) (l : Nat) (o o' : Obj), w.heap.size ≤ l → W.heap[l]? = some o → o.isCells = false → I k W → I k (W.putObj l o')) (h0 : I 0 w) (a₁ : Value → Act)
    (hassign : ∀ (l : Nat) (v : Value) (W : World) (K : Act → World → Prop), K (a₁ v) W →
      assign.wpIn (Fence.wide.inRound l) 3 Try.prog (Exit.then K (fun _ _ _ => False)) { tmps := (ps.zip #[v]).foldl (fun t (p, v) => t.setIfInBounds p v) a.tmps, defers := [] } W)
    (hbody : ∀ (l k : Nat) (v : Value) (W : World), I k W → w.heap.size ≤ W.heap.size → k < n → RowV W v (chairs_Spread.row (chairs_Spread.known k) (k + 1)) → body.wpIn (Fence.wide.inRound l) 3 Try.prog (RPost Bs k I w.heap.size W) (a₁ v) W)
    (hdone : ∀ (D : Nat) (W : World), w.heap.size ≤ D → I n W → W.heap[D]? = some (.deferred (some [])) → Q .normal { a with defers := { target := .collected D, args := #[] } :: a.defers } W) :
    (Code.rangeFunc g ps assign body).wpIn Fence.wide 5 Try.prog Q a w := by
  refine wpIn_rangeFunc ?_
  intro fn hfn
  -- the loop's record, in its states
  let rec_ : LoopState → Loop := fun st => { state := st, pending := none, fn := fn, tmps := a.tmps, params := ps, assign := assign, body := body, defers := w.heap.size }
  have hBlt := block_lt' hB
  obtain ⟨L, hL⟩ : ∃ L, w.heap.size + 1 = L := ⟨_, rfl⟩
  obtain ⟨W1, hW1⟩ : ∃ W1, (w.alloc (.deferred (some []))).alloc (.loop (rec_ .ready)) = W1 := ⟨_, rfl⟩
  have hb1 : Below w.heap.size w W1 := by rw [← hW1]; exact ((Below.refl _ w).alloc (Nat.le_refl _) _).alloc (by simp) _
  have hloop : W1.heap[L]? = some (.loop (rec_ .ready)) := by
    rw [← hW1, ← hL]
    have := World.alloc_heap_new (w.alloc (.deferred (some []))) (.loop (rec_ .ready))
    rwa [World.size_alloc] at this
  have hdef : W1.heap[w.heap.size]? = some (.deferred (some [])) := by
    rw [← hW1]
    exact (Below.heap_alloc _ _ _ (by simp)).trans (World.alloc_heap_new w _)
  refine ⟨L, [{ target := .collected w.heap.size, args := #[] }], W1, { target := .fn (.func 69) #[.pointer (some ⟨Bs, 0, none⟩)], args := #[.func (.yield L) #[] #[]] }, W1, 69,
    #[.func (.yield L) #[] #[], .pointer (some ⟨Bs, 0, none⟩)], W1, ?_, ?_, fun _ _ => trivial, ?_, fun _ => by omega, ?_⟩
  · rw [← hW1, ← hL]
    exact run_enterLoop_outer _ _ _ _ _
  · simp only [resolve, hg]
    simp [go_sem]
  · have eg : ∀ args w, (callFunc 69 args).run Try.prog w = .ok (.enter 69 args) w := Go.Proofs.enters_of Try.func69 (by kernel_rfl) rfl
    simp [invoke, go_sem, eg]
  -- the iterator's contract, the record and the block for deferred calls beside the caller's own invariant
  have stp_keeps : ∀ {A B : World} {k : Nat} {o : Obj}, Stp w.heap.size A B → A.heap[k]? = some o → o.isCells = false → B.heap[k]? = some o := by
    rintro A B k o ⟨row, hgr, hrow⟩ hk hc
    refine (hgr.block k (block_lt' hk) fun e => ?_).trans hk
    obtain ⟨_, cells, t, hx, _⟩ := hrow k e.symm
    rw [hk] at hx
    cases hx
    cases hc
  refine (moves_in L Bs n hn W1 (fun k W => I k W ∧ W.heap[L]? = some (.loop (rec_ .ready)) ∧ W.heap[w.heap.size]? = some (.deferred (some [])))
    (fun k A B hA hst => by
      have hst := hst.lower hb1.size
      exact ⟨hI k A B hA.1 hst, stp_keeps hst hA.2.1 rfl, stp_keeps hst hA.2.2 rfl⟩)
    ((hb1.block Bs hBlt).trans hB) ?_ ⟨hI 0 _ _ h0 (.of_below hb1), hloop, hdef⟩).mono ?_
  · rintro k v W ⟨hi, hl, hd⟩ hk hrow
    have hy := run_yield (P := Try.prog) (args := #[v]) hl (by show (1 : Nat) = ps.size; rw [hps])
    obtain ⟨W2, hW2⟩ : ∃ W2, W.putObj L (.loop { rec_ .ready with state := .busy }) = W2 := ⟨_, rfl⟩
    have hlt := block_lt' hl
    have hl2 : W2.heap[L]? = some (.loop (rec_ .busy)) := by rw [← hW2]; exact World.putObj_heap_same hlt
    have hd2 : W2.heap[w.heap.size]? = some (.deferred (some [])) := by rw [← hW2]; exact (World.putObj_heap_other (by omega)).trans hd
    have hi2 : I k W2 := by rw [← hW2]; exact hIo k W L _ _ (by omega) hl rfl hi
    have hk2 : KpM Bs W W2 := by rw [← hW2]; exact KpM.put hl rfl (by omega)
    have hr2 : RowV W2 v (chairs_Spread.row (chairs_Spread.known k) (k + 1)) := by rw [← hW2]; exact hrow.put hl rfl
    refine ⟨fn, _, assign, body, hy, roundIn_of_wpIn trivial (hassign L v W _ ⟨W2, by rw [← hW2]; exact run_beginRound hl rfl, ?_⟩)⟩
    refine wpIn_mono (hbody L k v W2 hi2 (by have := block_lt' hl2; omega) hk hr2) ?_
    rintro e a3 W3 hp
    cases e with
    | normal =>
      obtain ⟨hf, hk3, hi3⟩ := hp
      have hl3 := hf.same L _ (by omega) hl2 rfl
      have hd3 := hf.same w.heap.size _ (Nat.le_refl _) hd2 rfl
      refine ⟨_, _, run_endRound (P := Try.prog) none hl3, rfl, ⟨hIo _ W3 L _ _ (by omega) hl3 rfl hi3, World.putObj_heap_same (block_lt' hl3), (World.putObj_heap_other (by omega)).trans hd3⟩, ?_⟩
      exact (hk2.trans hk3).trans (KpM.put hl3 rfl (by omega))
    | _ => exact hp.elim
  · rintro e W2 ⟨⟨v, rfl⟩, hi, hl, hd⟩
    exact ⟨none, _, run_endLoop (P := Try.prog) hl (by simp [rec_]), hdone w.heap.size _ (Nat.le_refl _) (hIo n W2 L _ _ (by omega) hl rfl hi) ((World.putObj_heap_other (by omega)).trans hd)⟩
end Go.Proofs.Ytfopeenjpdaacaa.PC
