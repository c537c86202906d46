/- Parts of the proof of LawChairsRanks, one behind the other: HInit HMoves HIter HSpread PCf24 HQueue MTree HTree PCf38 PCg1 PCf14 LSit MPark LPark MRank MRanked LGoing LAll MTotal LRank PureChairsRanks. -/
import Derived.RangeFuncBox
import Derived.RangeFuncNested
import Derived.RangeFuncCalls
import Derived.RangeFuncLeaves
import Derived.TacticsInMore
import Derived.LoopIn
import Derived.IntWalk
import Derived.RangeFuncWrites
import Derived.Shelf.Abstract
import Derived.Stop.RegionWithIn
import Derived.OwnWalkIn
import Derived.Lib.Hide
import Derived.Test.YtfopeenjpdaacaaJChairsRanks3
section
/- A row of new numbers: how it is made; and the rows that are known. -/
namespace Go.Proofs.Ytfopeenjpdaacaa.PC
open Go.RowKit Go.Proofs.YtfopeenjpdaacaaW.PrintWords Go.Proofs.YtfopeenjpdaacaaW.PrintLast Go.Proofs.YtfopeenjpdaacaaW.PrintMore
/-- the row of M new numbers, of which those of ps are there -/
structure ISt (J : World → Prop) (Wr : World) (q M : Nat) (ps : List Nat) (W : World) : Prop where
  below : Below Wr.heap.size Wr W
  row : W.heap[q]? = some (.cells (ps.map ptr ++ List.replicate (M - ps.length) (Value.pointer none)).toArray 66 (0, 0))
  num : ∀ p ∈ ps, Num W p 0
  nodup : ps.Nodup
  hq : Wr.heap.size ≤ q
  hp : ∀ p ∈ ps, Wr.heap.size ≤ p
  hM : ps.length ≤ M
  j : J W
theorem made_ptr (M : Nat) : madeCells #[Value.pointer none] M = (List.replicate M (Value.pointer none)).toArray := by
  apply Array.ext
  · simp [madeCells]
  · intro i h1 h2
    simp [madeCells, Nat.mod_one]
theorem ISt.start {B0 : Nat} {J : World → Prop} (hJ : Stable B0 J) (Wr : World) (M : Nat) (h0 : J Wr) : ISt J Wr Wr.heap.size M [] (Wr.alloc (.cells (madeCells #[.pointer none] M) 66)) where
  below := (Below.refl _ _).alloc (Nat.le_refl _) _
  row := by rw [heap_alloc_new, made_ptr]; simp
  num := fun p hp => by cases hp
  nodup := List.nodup_nil
  hq := Nat.le_refl _
  hp := fun p hp => by cases hp
  hM := Nat.zero_le _
  j := hJ _ _ h0 (.of_below ((Below.refl _ _).alloc (Nat.le_refl _) _))
theorem ISt.cell {J : World → Prop} {Wr W : World} {q M : Nat} {ps : List Nat} (h : ISt J Wr q M ps W) (hi : ps.length < M) : W.cell? ⟨q, ps.length, none⟩ = some (.pointer none) ∧ W.frozen? ⟨q, ps.length, none⟩ = false := by
  constructor
  · obtain ⟨d, hd⟩ : ∃ d, M - ps.length = d + 1 := ⟨M - ps.length - 1, by omega⟩
    simp [World.cell?, h.row, hd, List.replicate_succ]
  · simp [World.frozen?, h.row]
theorem ISt.step {B0 : Nat} {J : World → Prop} (hJ : Stable B0 J) {Wr W : World} (hB0 : B0 ≤ Wr.heap.size) {q M : Nat} {ps : List Nat} (h : ISt J Wr q M ps W) (hi : ps.length < M) :
    ISt J Wr q M (ps ++ [W.heap.size]) ((W.alloc (.cells #[.bool false, .slice none 0 0] 82)).setCell ⟨q, ps.length, none⟩ (ptr W.heap.size)) := by
  obtain ⟨W1, hW1⟩ : ∃ W1, W.alloc (.cells #[.bool false, .slice none 0 0] 82) = W1 := ⟨_, rfl⟩
  have hb1 : Below W.heap.size W W1 := by rw [← hW1]; exact (Below.refl _ _).alloc (Nat.le_refl _) _
  have hs1 : W1.heap.size = W.heap.size + 1 := by rw [← hW1]; simp
  have hn1 : W1.heap[W.heap.size]? = some (.cells #[.bool false, .slice none 0 0] 82 (0, 0)) := by rw [← hW1]; exact heap_alloc_new _ _
  have hq := block_lt' h.row
  have hr1 := (hb1.block q hq).trans h.row
  have hg := grown_set W1 q ps.length (ptr W.heap.size)
  have hst : Stp B0 W1 (W1.setCell ⟨q, ps.length, none⟩ (ptr W.heap.size)) := ⟨_, hg, fun r e => by cases e; exact ⟨Nat.le_trans hB0 h.hq, _, _, hr1, .inr (.inl rfl)⟩⟩
  have keep : ∀ b, b ≠ q → (W1.setCell ⟨q, ps.length, none⟩ (ptr W.heap.size)).heap[b]? = W1.heap[b]? := fun b hb => Below.heap_setCell W1 _ _ b hb
  have dig : ∀ {s : Value} {v : Nat}, Dig W1 s v → Dig (W1.setCell ⟨q, ps.length, none⟩ (ptr W.heap.size)) s v := fun hd => hd.same fun g cells hc => keep g (by
    rintro rfl
    rw [hr1] at hc
    injection hc with hc
    injection hc with _ h2
    cases h2)
  have nonew : W.heap.size ∉ ps := fun hm => by have := (h.num _ hm).lt; omega
  rw [hW1]
  refine ⟨?_, ?_, ?_, ?_, h.hq, ?_, by simp; omega, hJ _ _ (hJ _ _ h.j (.of_below hb1)) hst⟩
  · exact (h.below.trans (hb1.mono h.below.size)).setCell (p := ⟨q, ps.length, none⟩) h.hq _
  · rw [heap_set hr1]
    congr 2
    obtain ⟨d, hd⟩ : ∃ d, M - ps.length = d + 1 := ⟨M - ps.length - 1, by omega⟩
    have hd2 : M - (ps ++ [W.heap.size]).length = d := by simp; omega
    rw [hd, hd2, List.replicate_succ]
    simp
  · intro p hp
    rw [List.mem_append] at hp
    rcases hp with hp | hp
    · obtain ⟨s, h1, h2⟩ := (h.num p hp).below hb1
      exact ⟨s, (keep p (by
        rintro rfl
        rw [hr1] at h1
        injection h1 with h1
        injection h1 with _ h2
        cases h2)).trans h1, dig h2⟩
    · rw [List.mem_singleton] at hp
      subst hp
      exact ⟨_, (keep _ (by omega)).trans hn1, .inl ⟨rfl, _, _, rfl, by omega⟩⟩
  · rw [List.nodup_append]
    refine ⟨h.nodup, by simp, ?_⟩
    intro a ha b hb e
    rw [List.mem_singleton] at hb
    exact nonew (by rw [← hb, ← e]; exact ha)
  · intro p hp
    rw [List.mem_append] at hp
    rcases hp with hp | hp
    · exact h.hp p hp
    · rw [List.mem_singleton] at hp
      have := h.below.size
      omega
theorem ISt.step' {B0 : Nat} {J : World → Prop} (hJ : Stable B0 J) {Wr W : World} (hB0 : B0 ≤ Wr.heap.size) {q M : Nat} {ps : List Nat} (h : ISt J Wr q M ps W) (hi : ps.length < M) :
    ISt J Wr q M (ps ++ [W.heap.size]) ((W.setCell ⟨q, ps.length, none⟩ (.pointer (some ⟨W.heap.size, 0, none⟩))).alloc (.cells #[.bool false, .slice none 0 0] 82)) := by
  have := h.step hJ hB0 hi
  rw [World.setCell_alloc_past _ _ _ _ (block_lt' h.row)] at this
  exact this
theorem ISt.done {J : World → Prop} {Wr W : World} {q M : Nat} {ps : List Nat} (h : ISt J Wr q M ps W) (hl : ps.length = M) : RSt J Wr q ps (List.replicate M 0) W where
  below := h.below
  row := ⟨by
    have := h.row
    rw [hl, Nat.sub_self] at this
    simpa [PRow] using this, by simp [hl], fun i hi => by
    rw [List.length_replicate] at hi
    rw [show (List.replicate M 0).getD i 0 = 0 by simp [List.getD_eq_getElem?_getD, hi]]
    exact h.num _ (getD_mem (by omega))⟩
  nodup := h.nodup
  hq := h.hq
  hp := h.hp
  j := h.j
/-- the rows that are known -/
def KnV (B0 : Nat) (W : World) (kv : Value) (rows : List (List Nat)) : Prop := ∃ vals : List Value, W.ownsRow B0 65 1 kv rows.length vals ∧ ∀ i, i < rows.length → RowV W (vals.getD i undef) (rows.getD i [])
theorem KnV.below {B0 : Nat} {W W' : World} {kv : Value} {rows : List (List Nat)} (h : KnV B0 W kv rows) (hb : Below W.heap.size W W') : KnV B0 W' kv rows := by
  obtain ⟨vals, h1, h2⟩ := h
  exact ⟨vals, pw_own_below h1 hb, fun i hi => (h2 i hi).below hb⟩
theorem KnV.start {B0 : Nat} {w' : World} {p0 : Nat} (h : Num w' p0 1) (hB0 : B0 ≤ w'.heap.size) : KnV B0 ((w'.alloc (.cells #[.pointer (some ⟨p0, 0, none⟩)] 66)).alloc (.cells #[.slice (some ⟨w'.heap.size, 0, none⟩) 1 1] 65)) (.slice (some ⟨w'.heap.size + 1, 0, none⟩) 1 1) [[1]] := by
  obtain ⟨W1, hW1⟩ : ∃ W1, w'.alloc (.cells #[.pointer (some ⟨p0, 0, none⟩)] 66) = W1 := ⟨_, rfl⟩
  have hb1 : Below w'.heap.size w' W1 := by rw [← hW1]; exact (Below.refl _ _).alloc (Nat.le_refl _) _
  have hs1 : W1.heap.size = w'.heap.size + 1 := by rw [← hW1]; simp
  have hn1 : W1.heap[w'.heap.size]? = some (.cells #[.pointer (some ⟨p0, 0, none⟩)] 66 (0, 0)) := by rw [← hW1]; exact heap_alloc_new _ _
  rw [hW1]
  refine ⟨[.slice (some ⟨w'.heap.size, 0, none⟩) 1 1], ?_, fun i hi => ?_⟩
  · have := World.ownsRow_lit (base := B0) (e := 65) (size := 1) W1 #[.slice (some ⟨w'.heap.size, 0, none⟩) 1 1] 1 (by omega) (by simp [maxLen]) (by simp)
    rw [hs1] at this
    exact this
  · simp only [List.length_cons, List.length_nil] at hi
    obtain rfl : i = 0 := by omega
    refine ⟨w'.heap.size, [p0], rfl, ?_⟩
    refine NRow.below (W := W1) ⟨hn1, rfl, fun j hj => ?_⟩ ((Below.refl _ _).alloc (Nat.le_refl _) _)
    simp only [List.length_cons, List.length_nil, List.getD_cons_zero] at hj
    obtain rfl : j = 0 := by omega
    exact h.below hb1
theorem KnV.form {B0 : Nat} {W : World} {kv : Value} {rows : List (List Nat)} (h : KnV B0 W kv rows) (hr : 0 < rows.length) : ∃ g cap, kv = .slice (some ⟨g, 0, none⟩) rows.length cap := by
  obtain ⟨vals, h1, h2⟩ := h
  obtain ⟨g, cap, e, _⟩ := h1.form hr
  exact ⟨g, cap, e⟩
/-- a row that is known: its place in the table, and its pointers -/
theorem KnV.at_ {B0 : Nat} {W : World} {g n cap : Nat} {rows : List (List Nat)} (h : KnV B0 W (.slice (some ⟨g, 0, none⟩) n cap) rows) (i : Nat) (hi : i < rows.length) :
    ∃ q ps, W.cell? ⟨g, i, none⟩ = some (.slice (some ⟨q, 0, none⟩) (rows.getD i []).length (rows.getD i []).length) ∧ NRow W q ps (rows.getD i []) := by
  obtain ⟨vals, h1, h2⟩ := h
  obtain ⟨q, ps, e, hn⟩ := h2 i hi
  refine ⟨q, ps, ?_, hn⟩
  have hl : vals.length = rows.length := by have := h1.1; omega
  have := h1.cells (g := g) rfl i (vals.getD i undef) (by simp [List.getD_eq_getElem?_getD, hl, hi])
  rw [add_plain] at this
  rw [this, e]
theorem RSt.kn {B0 : Nat} {J : World → Prop} {Wr W : World} {q : Nat} {ps vs : List Nat} (h : RSt J Wr q ps vs W) {kv : Value} {rows : List (List Nat)} (hK : KnV B0 Wr kv rows) : KnV B0 W kv rows := hK.below h.below
theorem RSt.notin {J : World → Prop} {Wr W : World} {q : Nat} {ps vs : List Nat} (h : RSt J Wr q ps vs W) {p : Nat} (hp : W.heap.size ≤ p) : p ∉ ps := fun hm => by
  obtain ⟨i, hi, rfl⟩ := List.getElem_of_mem hm
  have := (h.row.num i (by rw [← h.row.len]; exact hi)).lt
  simp only [List.getD_eq_getElem?_getD, List.getElem?_eq_getElem hi, Option.getD_some] at this
  omega
/-- two new numbers -/
abbrev zero82 : Obj := .cells #[.bool false, .slice none 0 0] 82
theorem two_new (w : World) : Slot ((w.alloc zero82).alloc zero82) w.heap.size ∧ Slot ((w.alloc zero82).alloc zero82) (w.heap.size + 1) ∧ Below w.heap.size w ((w.alloc zero82).alloc zero82) := by
  have h1 := heap_alloc_new w zero82
  have h2 := heap_alloc_new (w.alloc zero82) zero82
  have hs : (w.alloc zero82).heap.size = w.heap.size + 1 := by simp
  rw [hs] at h2
  refine ⟨⟨_, _, (Below.heap_alloc _ _ _ (by omega)).trans h1⟩, ⟨_, _, h2⟩, ((Below.refl _ _).alloc (Nat.le_refl _) _).alloc (by omega) _⟩
theorem below_num {B : Nat} {w w1 w2 : World} {p : Nat} (h : Below B w w1) (hB : B ≤ p) (hg : w1.grownBy w2 (some p)) (hw : B ≤ w.heap.size) : Below B w w2 :=
  ⟨hg.os.trans h.os, hg.tape.trans h.tape, hg.output.trans h.output, Nat.le_trans h.size hg.size, fun k hk => (hg.block k (by have := h.size; omega) (by rintro e; cases e; omega)).trans (h.block k hk)⟩
theorem Slot.grown {W W' : World} {p z : Nat} (h : Slot W p) (hne : p ≠ z) (hg : W.grownBy W' (some z)) : Slot W' p := by
  obtain ⟨b, s, h1⟩ := h
  exact ⟨b, s, (hg.block p (block_lt' h1) (by rintro e; cases e; exact hne rfl)).trans h1⟩
theorem choose_at (n i c : Nat) (hn : n < 10) (hi : i ≤ n) (hc : chairs_Spread.ch n i = c) (w : World) :
    Calls Try.prog 71 #[.int .i64 (n : Int), .int .i64 (i : Int)] w fun e w' => e = .returned (.int .i64 (c : Int)) ∧ w = w' := by
  rw [← hc]; exact choose_walk n i hn hi w
/-- a step that writes one block of a type leaves what is of other types -/
def Keep65 (W W' : World) : Prop := ∀ (r : Nat) (cells : Array Value) (t : Nat), W.heap[r]? = some (.cells cells t (0, 0)) → t = 66 ∨ t = 82 ∨ t = 92 → W'.heap[r]? = W.heap[r]?
theorem NRow.keep {W W' : World} {q : Nat} {ps vs : List Nat} (h : NRow W q ps vs) (k : Keep65 W W') : NRow W' q ps vs := by
  refine ⟨(k q _ _ h.row (.inl rfl)).trans h.row, h.len, fun i hi => ?_⟩
  obtain ⟨s, h1, h2⟩ := h.num i hi
  exact ⟨s, (k _ _ _ h1 (.inr (.inl rfl))).trans h1, h2.same fun g cells hc => k g cells 92 hc (.inr (.inr rfl))⟩
theorem RowV.keep {W W' : World} {v : Value} {vs : List Nat} (h : RowV W v vs) (k : Keep65 W W') : RowV W' v vs := by
  obtain ⟨q, ps, e, hn⟩ := h
  exact ⟨q, ps, e, hn.keep k⟩
theorem keep_of_own {W W' : World} {kv : Value} {n : Nat} {vals : List Value} {b : Nat} (h : W.ownsRow b 65 1 kv n vals) (hg : W.grownBy W' kv.ownBlock) : Keep65 W W' := fun r cells t hr ht => by
  refine hg.block r (block_lt' hr) fun e => ?_
  obtain ⟨cells', hc⟩ := own_typed h r e.symm
  rw [hr] at hc
  injection hc with hc
  injection hc with _ h2
  rw [h2] at ht
  rcases ht with ht | ht | ht <;> cases ht
theorem stp_of_own {W W' : World} {kv : Value} {n : Nat} {vals : List Value} {b : Nat} (h : W.ownsRow b 65 1 kv n vals) (hg : W.grownBy W' kv.ownBlock) : Stp b W W' := ⟨_, hg, fun r e => by
  obtain ⟨cells', hc⟩ := own_typed h r e
  exact ⟨own_base h r e, _, _, hc, .inl rfl⟩⟩
/-- the table of rows with one row more -/
theorem KnV.snoc {B0 : Nat} {W W1 : World} {kv v1 y : Value} {rows : List (List Nat)} {vals : List Value} {F : List Nat} (h1 : W.ownsRow B0 65 1 kv rows.length vals) (h2 : ∀ i, i < rows.length → RowV W (vals.getD i undef) (rows.getD i [])) (hy : RowV W y F)
    (hg : W.grownBy W1 kv.ownBlock) (ho : W1.ownsRow B0 65 1 v1 (vals ++ [y]).length (vals ++ [y])) : KnV B0 W1 v1 (rows ++ [F]) := by
  have hl : vals.length = rows.length := by have := h1.1; omega
  have hk := keep_of_own h1 hg
  refine ⟨vals ++ [y], by rw [List.length_append, ← hl] ; simpa using ho, fun i hi => ?_⟩
  by_cases e : i < rows.length
  · rw [show (vals ++ [y]).getD i undef = vals.getD i undef by simp [List.getD_eq_getElem?_getD, List.getElem?_append, hl, e], show (rows ++ [F]).getD i [] = rows.getD i [] by simp [List.getD_eq_getElem?_getD, List.getElem?_append, e]]
    exact (h2 i e).keep hk
  · rw [List.length_append, List.length_singleton] at hi
    obtain rfl : i = rows.length := by omega
    rw [show (vals ++ [y]).getD rows.length undef = y by simp [List.getD_eq_getElem?_getD, ← hl], show (rows ++ [F]).getD rows.length [] = F by simp [List.getD_eq_getElem?_getD]]
    exact hy.keep hk
theorem RSt.rowv {J : World → Prop} {Wr W : World} {q : Nat} {ps vs : List Nat} (h : RSt J Wr q ps vs W) (i : Nat) (hi : ps.length = i) : RowV W (.slice (some ⟨q, 0, none⟩) i i) vs := ⟨q, ps, by rw [← hi, h.row.len], h.row⟩
end Go.Proofs.Ytfopeenjpdaacaa.PC
end
section
/- The iterator over rows of numbers: its closure hands out the rows one after the other. -/
namespace Go.Proofs.Ytfopeenjpdaacaa.PC
open Go.RowKit Go.Proofs.YtfopeenjpdaacaaW.PrintWords Go.Proofs.YtfopeenjpdaacaaW.PrintLast Go.Proofs.YtfopeenjpdaacaaW.PrintMore
/-- what a round of the caller keeps -/
structure KpM (Bs : Nat) (A B : World) : Prop where
  size : A.heap.size ≤ B.heap.size
  box : B.heap[Bs]? = A.heap[Bs]?
  same : ∀ (r : Nat) (cells : Array Value) (t : Nat), A.heap[r]? = some (.cells cells t (0, 0)) → t = 65 ∨ t = 66 ∨ t = 82 ∨ t = 92 → B.heap[r]? = A.heap[r]?
def MovesYield (l Bs n : Nat) (J : Nat → World → Prop) : Prop := ∀ (k : Nat) (v : Value) (W1 : World), J k W1 → k < n → RowV W1 v (chairs_Spread.row (chairs_Spread.known k) (k + 1)) → YieldAt Fence.wide 3 Try.prog l #[v] W1 fun e W' => e = .returned (.bool true) ∧ J (k + 1) W' ∧ KpM Bs W1 W'
theorem KnV.kp {B0 : Nat} {A B : World} {Bs : Nat} {kv : Value} {rows : List (List Nat)} (h : KnV B0 A kv rows) (k : KpM Bs A B) : KnV B0 B kv rows := by
  obtain ⟨vals, h1, h2⟩ := h
  refine ⟨vals, own_move h1 (fun r hr => ?_), fun i hi => (h2 i hi).keep fun r cells t hr ht => k.same r cells t hr (.inr ht)⟩
  obtain ⟨cells, hc⟩ := own_typed h1 r hr
  exact k.same r cells 65 hc (.inl rfl)
theorem info65 : (Try.prog.info? 65).map (fun i => (i.zero, i.size, i.bytes)) = some (some (.slice none 0 0), 1, 24) := by kernel_rfl
/-- the state at the head of the outer loop -/
structure LSt (B0 : Nat) (J : Nat → World → Prop) (Bs n k : Nat) (kv : Value) (W : World) : Prop where
  size : B0 ≤ W.heap.size
  known : KnV B0 W kv (chairs_Spread.known k)
  j : J k W
  box : W.heap[Bs]? = some (.cells #[.int .i64 (n : Int)] 3 (0, 0))
set_option maxRecDepth 1000000 in
set_option maxHeartbeats 4000000 in
theorem moves_in (l Bs n : Nat) (hn : n ≤ 10) (W : World) (J : Nat → World → Prop) (hJ : ∀ k, Stable W.heap.size (J k)) (hB : W.heap[Bs]? = some (.cells #[.int .i64 (n : Int)] 3 (0, 0))) (hY : MovesYield l Bs n J) (h0 : J 0 W) :
    CallsIn Fence.wide 4 Try.prog 69 #[.func (.yield l) #[] #[], .pointer (some ⟨Bs, 0, none⟩)] W fun e W' => (∃ v, e = .returned v) ∧ J n W' := by
  have HJ := Lib.hid hJ
  have HY := Lib.hid hY
  have H0 := Lib.hid h0
  have HB := Lib.hid hB
  clear hJ hY h0 hB
  refine callsIn_wide.2 ?_
  go_enter Try.func69, Try.ntmps69
  go_wp2_with (go_at_call 70; refine (NewInt_walk 1 (by omega) _).mono ?_; rintro e w' ⟨p0, rfl, hp0, hp1, hb0⟩; have HP0 := Lib.hid hp0; have HP1 := Lib.hid hp1; have HB0 := Lib.hid hb0; clear hp0 hp1 hb0)
  have hK0 := KnV.start (B0 := W.heap.size) HP1.out HB0.out.size
  have hb1 : Below W.heap.size W ((w'.alloc (.cells #[.pointer (some ⟨p0, 0, none⟩)] 66)).alloc (.cells #[.slice (some ⟨w'.heap.size, 0, none⟩) 1 1] 65)) := ((HB0.out.alloc HB0.out.size _).alloc (by have := HB0.out.size; simp; omega) _)
  have hL0 : LSt W.heap.size J Bs n 0 (.slice (some ⟨w'.heap.size + 1, 0, none⟩) 1 1) ((w'.alloc (.cells #[.pointer (some ⟨p0, 0, none⟩)] 66)).alloc (.cells #[.slice (some ⟨w'.heap.size, 0, none⟩) 1 1] 65)) :=
    ⟨hb1.size, hK0, HJ.out 0 _ _ H0.out (.of_below hb1), (hb1.block Bs (block_lt' HB.out)).trans HB.out⟩
  have HL0 := Lib.hid hL0
  clear hK0 hb1 hL0
  go_loopw [3, 4] (fun kv sz wr => ∃ s g cap : Nat, 1 ≤ s ∧ s ≤ n + 1 ∧ sz = .int .i64 (s : Int) ∧ kv = .slice (some ⟨g, 0, none⟩) s cap ∧ LSt W.heap.size J Bs n (s - 1) kv wr) (fun _ sz _ => n + 1 - (intOf sz).toNat)
  case atStart => exact ⟨1, _, _, by omega, by omega, rfl, rfl, HL0.out⟩
  case round =>
    obtain ⟨s, g, cap, hs1, hs2, rfl, rfl, hL⟩ := hrel
    have hBc : wr.cell? ⟨Bs, 0, none⟩ = some (.int .i64 (n : Int)) := by
      have := hL.box
      simp [World.cell?, this]
    have HL := Lib.hid hL
    clear hL HL0
    obtain ⟨wl, rfl⟩ : ∃ wl : World, wl = wr := ⟨_, rfl⟩
    by_cases hlt : s ≤ n
    · have d1 : decide ((s : Int) ≤ (n : Int)) = true := decide_eq_true (by omega)
      obtain ⟨s1, hs1'⟩ : ∃ s1, s1 + 1 = s := ⟨s - 1, by omega⟩
      have e0 : (s : Int) - 1 = (s1 : Int) := by omega
      have HS1 := Lib.hid hs1'
      obtain ⟨P, hP⟩ : ∃ P, s * (s - 1) = P := ⟨_, rfl⟩
      have hPb : P ≤ 90 := by
        rw [← hP]
        exact Nat.mul_le_mul (show s ≤ 10 by omega) (show s - 1 ≤ 9 by omega)
      have e1 : (s : Int) * (s1 : Int) = (P : Int) := by
        rw [← hP, Int.natCast_mul]; congr 1; omega
      have hs9 : s1 < 10 := by omega
      clear hs1'
      obtain ⟨M, hM⟩ : ∃ M, P / 2 + 1 = M := ⟨_, rfl⟩
      have e2 : (P : Int) / 2 + 1 = (M : Int) := by omega
      have hmk : ∀ W : World, (Instr.makeSlice 65 (.int .i64 (M : Int)) (.int .i64 (M : Int))).run Try.prog W = .ok (.slice (some ⟨W.heap.size, 0, none⟩) M M) (W.alloc (.cells (madeCells #[.pointer none] M) 66)) := fun W => run_make_row' 65 66 (.pointer none) 8 Try.underlying65 (by kernel_rfl) rfl .i64 .i64 M (by omega) (by omega) W
      have HI := Lib.hid (ISt.start (J := J (s - 1)) (HJ.out _) wl M HL.out.j)
      have HP := Lib.hid hP
      have HM := Lib.hid hM
      have hMb : M ≤ 46 := by omega
      clear hP hM
      go_wp2
      obtain ⟨q, hq⟩ : ∃ q, wl.heap.size = q := ⟨_, rfl⟩
      obtain ⟨W2, hW2⟩ : ∃ W2, wl.alloc (.cells (madeCells #[.pointer none] M) 66) = W2 := ⟨_, rfl⟩
      have hI1 := HI.out
      rw [hW2] at hI1 ⊢
      rw [hq] at hI1 ⊢
      have HI1 := Lib.hid hI1
      have HW2 := Lib.hid hW2
      have HQ := Lib.hid hq
      clear hI1 hW2 hq HI
      go_loopw [33] (fun i w3 => ∃ ps : List Nat, i = .int .i64 ((ps.length : Nat) : Int) ∧ ISt (J (s - 1)) wl q M ps w3) (fun i _ => M - (intOf i).toNat)
      case atStart => exact ⟨[], rfl, HI1.out⟩
      case round =>
        obtain ⟨ps, rfl, hI⟩ := hrel
        have hMl := hI.hM
        have HI := Lib.hid hI
        clear hI
        obtain ⟨i, hi⟩ : ∃ i, ps.length = i := ⟨_, rfl⟩
        rw [hi] at hMl ⊢
        by_cases hlt2 : i < M
        · have d2 : decide ((i : Int) < (M : Int)) = true := decide_eq_true (by omega)
          have hc := (HI.out.cell (by omega))
          have hst := HI.out.step' (HJ.out _) HL.out.size (by omega)
          rw [hi] at hc hst
          obtain ⟨hc1, hc2⟩ := hc
          have hqw : q < wr.heap.size := block_lt' HI.out.row
          have HST := Lib.hid hst
          have HIL := Lib.hid hi
          clear hst hi
          go_wp2
          go_roundw
          case rel => exact ⟨ps ++ [wr.heap.size], by simp [HIL.out], HST.out⟩
          case measure => simp [intOf]; omega
        · obtain rfl : i = M := by omega
          have d2 : decide ((i : Int) < (i : Int)) = false := decide_eq_false (by omega)
          have hR := HI.out.done hi
          have HR := Lib.hid hR
          have HIL := Lib.hid hi
          obtain ⟨rows, hrows⟩ : ∃ rows, chairs_Spread.known (s - 1) = rows := ⟨_, rfl⟩
          obtain ⟨F, hF⟩ : ∃ F, chairs_Spread.row rows s = F := ⟨_, rfl⟩
          have hlen : rows.length = s := by rw [← hrows, MSpread.known_length]; omega
          have hKN := HL.out.known
          rw [hrows] at hKN
          have HKN := Lib.hid hKN
          have HROWS := Lib.hid hrows
          have HF := Lib.hid hF
          have HLEN := Lib.hid hlen
          have hfb : ∀ x ∈ F, x < 4294967296 := by
            rw [← hF, ← hrows]
            have := MSpread.all_small (n := s - 1) (by omega)
            rwa [show s - 1 + 1 = s by omega] at this
          have HFB := Lib.hid hfb
          clear hfb
          have hst0 : chairs_Spread.befs rows s (s - 0) 0 (List.replicate i 0) = F := by
            rw [← hF]
            unfold chairs_Spread.row
            rw [Nat.sub_zero, HP.out, HM.out]
          have HST0 := Lib.hid hst0
          clear hR hi hrows hF hlen hKN hst0
          go_wp2
          obtain ⟨wo, rfl⟩ : ∃ wo : World, wo = wr := ⟨_, rfl⟩
          go_loopw [42] (fun t w3 => ∃ (b : Nat) (vs : List Nat), b ≤ s ∧ t = .int .i64 (b : Int) ∧ RSt (J (s - 1)) wl q ps vs w3 ∧ Hid (chairs_Spread.befs rows s (s - b) b vs = F)) (fun t _ => s - (intOf t).toNat)
          case atStart => exact ⟨0, _, by omega, rfl, HR.out, HST0⟩
          case round =>
            obtain ⟨b, vs, hb1, rfl, hR3, hG3⟩ := hrel
            have HR3 := Lib.hid hR3
            clear hR3
            by_cases hlt3 : b < s
            · have d3 : decide ((b : Int) < (s : Int)) = true := decide_eq_true (by omega)
              have hs1' := HS1.out
              obtain ⟨af, haf⟩ : ∃ af, af + b = s1 := ⟨s1 - b, by omega⟩
              obtain ⟨c, hc⟩ : ∃ c, chairs_Spread.ch s1 b = c := ⟨_, rfl⟩
              have hcb := MSpread.ch_small s1 (by omega) b (by omega)
              rw [hc] at hcb
              obtain ⟨hc0, hc1⟩ := hcb
              have e5 : (s1 : Int) - (b : Int) = (af : Int) := by omega
              have HC := Lib.hid hc
              obtain ⟨xr, hxr⟩ : ∃ xr, rows.getD b [] = xr := ⟨_, rfl⟩
              obtain ⟨yr, hyr⟩ : ∃ yr, rows.getD af [] = yr := ⟨_, rfl⟩
              have HXR := Lib.hid hxr
              have HYR := Lib.hid hyr
              obtain ⟨G4, hG4⟩ : ∃ G4, chairs_Spread.xs c (b + 1) yr xr 0 vs = G4 := ⟨_, rfl⟩
              have hg3 : chairs_Spread.befs rows s (s - (b + 1)) (b + 1) G4 = F := by
                have h := hG3.out
                rw [show s - b = (s - (b + 1)) + 1 by omega] at h
                simp only [chairs_Spread.befs] at h
                rw [show s - 1 = s1 by omega, hc, hxr, show s1 - b = af by omega, hyr, hG4] at h
                exact h
              have HG3 := Lib.hid hg3
              have HG4 : Hid (chairs_Spread.xs c (b + 1) yr (xr.drop 0) 0 vs = G4) := Lib.hid hG4
              obtain ⟨lx, hlx⟩ : ∃ lx, xr.length = lx := ⟨_, rfl⟩
              have HLX := Lib.hid hlx
              obtain ⟨ly, hly⟩ : ∃ ly, yr.length = ly := ⟨_, rfl⟩
              have HLY := Lib.hid hly
              have hsz := MSpread.sizes (s := s) (b := b) (af := af) (by omega) (by omega)
              rw [HROWS.out, hxr, hyr, hlx, hly, HP.out] at hsz
              obtain ⟨hfit, hlb, hlyb⟩ := hsz
              have hfit2 : lx + ly + b ≤ i + 1 := by have := HM.out; omega
              have HLE4 : Hid (MSpread.Le2 G4 F) := Lib.hid (by rw [← hg3]; exact MSpread.befs_le _ _ _ _ _)
              have hgf := HKN.out.at_ af (by rw [HLEN.out]; omega)
              rw [hyr] at hgf
              obtain ⟨qy, py, hqy, hny⟩ := hgf
              rw [hly] at hqy
              have HNY := Lib.hid hny
              have HQY := Lib.hid hqy
              clear hfit hly hny hqy
              have HAF := Lib.hid haf
              have hbs : b ≤ s1 := by omega
              have hafs : af < s := by omega
              have hgb := HKN.out.at_ b (by rw [HLEN.out]; exact hlt3)
              rw [hxr] at hgb
              obtain ⟨qx, px, hqx, hnx⟩ := hgb
              rw [hlx] at hqx
              have hgw := World.block_lt_of_cell? _ _ hqx
              simp only at hgw
              have HNX := Lib.hid hnx
              have HQX := Lib.hid hqx
              clear hs1' haf hc hxr hyr hG4 hG3 hg3 hlx hnx hqx
              have hb0i : (0 : Int) ≤ (b : Int) := Int.natCast_nonneg _
              have hbsi : (b : Int) < (s : Int) := by omega
              go_wp2_with fail
              refine (choose_at s1 b c hs9 hbs HC.out _).mono ?_
              rintro e w' ⟨rfl, rfl⟩
              go_wp2_with fail
              refine (NewInt_walk c (by omega) _).mono ?_
              rintro e w4 ⟨pw, rfl, hpw, hnw, hbw⟩
              have HPW : Hid (pw ∉ ps) := Lib.hid (HR3.out.notin hpw)
              have HR4 := Lib.hid (HR3.out.later (HJ.out _) hbw)
              have HNW := Lib.hid hnw
              have hqx := (HR4.out.below.cell (p := ⟨g, b, none⟩) hgw).trans HQX.out
              clear hpw hnw hbw
              have hafi : (0 : Int) ≤ (af : Int) := Int.natCast_nonneg _
              have hafj : (af : Int) < (s : Int) := by omega
              go_wp2
              clear hqx
              go_loopw [59] (fun t w5 => ∃ (a : Nat) (vs : List Nat), a ≤ lx ∧ t = .int .i64 (a : Int) ∧ RSt (J (s - 1)) wl q ps vs w5 ∧ Num w5 pw c ∧ Hid (chairs_Spread.xs c (b + 1) yr (xr.drop a) a vs = G4)) (fun t _ => lx - (intOf t).toNat)
              case atStart => exact ⟨0, _, by omega, rfl, HR4.out, HNW.out, HG4⟩
              case round =>
                obtain ⟨a, vs4, ha1, rfl, hR5, hN5, hG4⟩ := hrel
                have HR5 := Lib.hid hR5
                have HN5 := Lib.hid hN5
                clear hR5 hN5
                by_cases hlt4 : a < lx
                · have d4 : decide ((a : Int) < (lx : Int)) = true := decide_eq_true (by omega)
                  have hNXa := HNX.out.below HR5.out.below
                  have hpl : px.length = lx := by rw [hNXa.len, HLX.out]
                  have hcx := hNXa.row.cell a (by omega)
                  have hnx := hNXa.num a (by rw [HLX.out]; exact hlt4)
                  obtain ⟨x, hx⟩ : ∃ x, xr.getD a 0 = x := ⟨_, rfl⟩
                  obtain ⟨pa, hpa⟩ : ∃ pa, px.getD a 0 = pa := ⟨_, rfl⟩
                  rw [hpa] at hcx
                  rw [hx, hpa] at hnx
                  have HXV := Lib.hid hx
                  have HPA := Lib.hid hpa
                  obtain ⟨G5, hG5⟩ : ∃ G5, chairs_Spread.ys (c * x) (b + 1) a yr 0 vs4 = G5 := ⟨_, rfl⟩
                  have hg4 : chairs_Spread.xs c (b + 1) yr (xr.drop (a + 1)) (a + 1) G5 = G4 := by
                    have h := hG4.out
                    rw [List.drop_eq_getElem_cons (show a < xr.length by rw [HLX.out]; exact hlt4)] at h
                    have e : xr[a]'(by rw [HLX.out]; exact hlt4) = x := by rw [← hx]; simp [List.getD_eq_getElem?_getD, HLX.out, hlt4]
                    rw [e] at h
                    simp only [chairs_Spread.xs] at h
                    rw [hG5] at h
                    exact h
                  have HG4' := Lib.hid hg4
                  have HG5 : Hid (chairs_Spread.ys (c * x) (b + 1) a (yr.drop 0) 0 vs4 = G5) := Lib.hid hG5
                  have HLE5 : Hid (MSpread.Le2 G5 F) := Lib.hid ((by rw [← hg4]; exact MSpread.xs_le _ _ _ _ _ _ : MSpread.Le2 G5 G4).trans HLE4.out)
                  have hqy := (HR5.out.below.cell (p := ⟨g, af, none⟩) hgw).trans HQY.out
                  have hpaw : pa < wl.heap.size := by
                    rw [← hpa]; exact (HNX.out.num a (by rw [HLX.out]; exact hlt4)).lt
                  clear hNXa hpl hnx hx hpa hG5 hg4 hG4
                  have ha0i : (0 : Int) ≤ (a : Int) := Int.natCast_nonneg _
                  have hali : (a : Int) < (lx : Int) := by omega
                  go_wp2
                  clear hcx hqy
                  go_loopw [69] (fun t w6 => ∃ (k : Nat) (vs : List Nat), k ≤ ly ∧ t = .int .i64 (k : Int) ∧ RSt (J (s - 1)) wl q ps vs w6 ∧ Num w6 pw c ∧ Hid (chairs_Spread.ys (c * x) (b + 1) a (yr.drop k) k vs = G5)) (fun t _ => ly - (intOf t).toNat)
                  case atStart => exact ⟨0, _, by omega, rfl, HR5.out, HN5.out, HG5⟩
                  case round =>
                    obtain ⟨k, vs5, hk1, rfl, hR6, hN6, hG5⟩ := hrel
                    have HR6 := Lib.hid hR6
                    have HN6 := Lib.hid hN6
                    clear hR6 hN6
                    by_cases hlt5 : k < ly
                    · have d5 : decide ((k : Int) < (ly : Int)) = true := decide_eq_true (by omega)
                      have hNYa := HNY.out.below HR6.out.below
                      have hpl : py.length = ly := by rw [hNYa.len, HLY.out]
                      have hcy := hNYa.row.cell k (by omega)
                      have hny := hNYa.num k (by rw [HLY.out]; exact hlt5)
                      have hnx := (HNX.out.below HR6.out.below).num a (by rw [HLX.out]; exact hlt4)
                      obtain ⟨y, hy⟩ : ∃ y, yr.getD k 0 = y := ⟨_, rfl⟩
                      obtain ⟨pb, hpb⟩ : ∃ pb, py.getD k 0 = pb := ⟨_, rfl⟩
                      rw [hpb] at hcy
                      rw [hy, hpb] at hny
                      rw [HXV.out, HPA.out] at hnx
                      have hpbw : pb < wl.heap.size := by
                        rw [← hpb]; exact (HNY.out.num k (by rw [HLY.out]; exact hlt5)).lt
                      obtain ⟨V, hV⟩ : ∃ V, c * x * y = V := ⟨_, rfl⟩
                      obtain ⟨G6, hG6⟩ : ∃ G6, chairs_Spread.adds V (b + 1) (a + k) vs5 = G6 := ⟨_, rfl⟩
                      have hg5 : chairs_Spread.ys (c * x) (b + 1) a (yr.drop (k + 1)) (k + 1) G6 = G5 := by
                        have h := hG5.out
                        rw [List.drop_eq_getElem_cons (show k < yr.length by rw [HLY.out]; exact hlt5)] at h
                        have e : yr[k]'(by rw [HLY.out]; exact hlt5) = y := by rw [← hy]; simp [List.getD_eq_getElem?_getD, HLY.out, hlt5]
                        rw [e] at h
                        simp only [chairs_Spread.ys] at h
                        rw [hV, hG6] at h
                        exact h
                      have hle6 : MSpread.Le2 G6 F := (by rw [← hg5]; exact MSpread.ys_le _ _ _ _ _ _ : MSpread.Le2 G6 G5).trans HLE5.out
                      have hak : a + k < vs5.length := by have := HR6.out.row.len; have := HIL.out; omega
                      have hVs : V < 4294967296 := Nat.lt_of_le_of_lt (by rw [← hG6]; exact MSpread.adds_ge V b (a + k) vs5 hak) (hle6.lt (by omega) HFB.out (a + k))
                      have hxyV : x * y * c = V := by rw [← hV, Nat.mul_comm (x * y) c, Nat.mul_assoc]
                      have hxy : x * y < 4294967296 := by
                        have : x * y * 1 ≤ x * y * c := Nat.mul_le_mul_left _ hc0
                        omega
                      have HV := Lib.hid hxyV
                      have HVS := Lib.hid hVs
                      have HXY := Lib.hid hxy
                      have HG5' := Lib.hid hg5
                      have HG6 : Hid (chairs_Spread.adds V (b + 1 - 0) (a + k + 0) vs5 = G6) := Lib.hid hG6
                      have HLE6 := Lib.hid hle6
                      have HNy := Lib.hid hny
                      have HNx := Lib.hid hnx
                      have HWS := Lib.hid (HR6.out.below.size)
                      clear hNYa hpl hny hnx hy hpb hV hG6 hg5 hG5 hle6 hak hVs hxyV hxy
                      have hk0i : (0 : Int) ≤ (k : Int) := Int.natCast_nonneg _
                      have hkli : (k : Int) < (ly : Int) := by omega
                      obtain ⟨wn, rfl⟩ : ∃ wn : World, wn = wr := ⟨_, rfl⟩
                      have h2 := two_new wn
                      have HT := Lib.hid h2
                      clear h2
                      go_wp2_with fail
                      refine (Mul_walk (wn.heap.size + 1) pa pb x y _ HT.out.2.1 (HNx.out.below HT.out.2.2) (HNy.out.below HT.out.2.2) (by have := HWS.out; omega) (by have := HWS.out; omega) HXY.out).mono ?_
                      rintro e w7 ⟨rfl, hm7, hg7⟩
                      have HM7 := Lib.hid hm7
                      have HG7 := Lib.hid hg7
                      clear hm7 hg7
                      go_wp2_with fail
                      refine (Mul_walk wn.heap.size (wn.heap.size + 1) pw (x * y) c _ (HT.out.1.grown (by omega) HG7.out) HM7.out ((HN6.out.below HT.out.2.2).grown HT.out.2.1 (by have := HN6.out.lt; omega) HG7.out) (by omega) (by have := HN6.out.lt; omega) (by rw [HV.out]; exact HVS.out)).mono ?_
                      rintro e w8 ⟨rfl, hm8, hg8⟩
                      have hb78 : Below wn.heap.size wn w8 := below_num (below_num HT.out.2.2 (by omega) HG7.out (Nat.le_refl _)  ) (Nat.le_refl _) hg8 (Nat.le_refl _)
                      rw [HV.out] at hm8
                      have HM8 := Lib.hid hm8
                      have HR8 := Lib.hid (HR6.out.later (HJ.out _) hb78)
                      have HN8 := Lib.hid (HN6.out.below hb78)
                      obtain ⟨pz, hpz⟩ : ∃ pz, wn.heap.size = pz := ⟨_, rfl⟩
                      have HPZ : Hid (pz ∉ ps) := Lib.hid (HR6.out.notin (by omega))
                      rw [hpz] at HM8 ⊢
                      clear hm8 hg8 hb78 hpz HT HM7 HG7
                      go_wp2
                      go_loopw [83] (fun t w9 => ∃ (d : Nat) (vs : List Nat), d ≤ b + 1 ∧ t = .int .i64 (d : Int) ∧ RSt (J (s - 1)) wl q ps vs w9 ∧ Num w9 pw c ∧ Num w9 pz V ∧ Hid (chairs_Spread.adds V (b + 1 - d) (a + k + d) vs = G6)) (fun t _ => b + 1 - (intOf t).toNat)
                      case atStart => exact ⟨0, _, by omega, rfl, HR8.out, HN8.out, HM8.out, HG6⟩
                      case round =>
                        obtain ⟨d, vs6, hd1, rfl, hR9, hN9, hM9, hG6⟩ := hrel
                        have HR9 := Lib.hid hR9
                        have HN9 := Lib.hid hN9
                        have HM9 := Lib.hid hM9
                        clear hR9 hN9 hM9
                        by_cases hlt6 : d < b + 1
                        · have d6 : decide ((d : Int) < (b : Int) + 1) = true := decide_eq_true (by omega)
                          obtain ⟨wm, rfl⟩ : ∃ wm : World, wm = wr := ⟨_, rfl⟩
                          obtain ⟨ak, hak⟩ : ∃ ak, a + k = ak := ⟨_, rfl⟩
                          obtain ⟨ix, hix⟩ : ∃ ix, ak + d = ix := ⟨_, rfl⟩
                          have hvl : vs6.length = i := by rw [← HR9.out.row.len, HIL.out]
                          have hixl : ix < i := by omega
                          obtain ⟨pt, hpt⟩ : ∃ pt, ps.getD ix 0 = pt := ⟨_, rfl⟩
                          obtain ⟨v0, hv0⟩ : ∃ v0, vs6.getD ix 0 = v0 := ⟨_, rfl⟩
                          have hcq := HR9.out.row.row.cell ix (by rw [HIL.out]; exact hixl)
                          rw [hpt] at hcq
                          have hg6 : chairs_Spread.adds V (b + 1 - (d + 1)) (a + k + (d + 1)) (vs6.set ix (v0 + V)) = G6 := by
                            have h := hG6.out
                            rw [show b + 1 - d = (b + 1 - (d + 1)) + 1 by omega] at h
                            simp only [chairs_Spread.adds] at h
                            rw [show a + k + d = ix by omega, hv0, show ix + 1 = a + k + (d + 1) by omega] at h
                            exact h
                          have hsum : v0 + V < 4294967296 := by
                            have h1 := (MSpread.adds_le V (b + 1 - (d + 1)) (a + k + (d + 1)) (vs6.set ix (v0 + V))).trans (by rw [hg6]; exact HLE6.out)
                            have h2 := h1.lt (by omega) HFB.out ix
                            rwa [show (vs6.set ix (v0 + V)).getD ix 0 = v0 + V by simp [List.getD_eq_getElem?_getD, hvl, hixl]] at h2
                          have hbd : Below wm.heap.size wm wm.drew := (Below.refl _ _).drew
                          have hRd := HR9.out.later (HJ.out _) hbd
                          have hnt := hRd.row.num ix (by rw [hvl]; exact hixl)
                          rw [hpt, hv0] at hnt
                          have hptm : pt ∈ ps := by rw [← hpt]; exact getD_mem (by rw [HIL.out]; exact hixl)
                          have HRD := Lib.hid hRd
                          have HNT := Lib.hid hnt
                          have HNZ := Lib.hid (HM9.out.below hbd)
                          have HNW2 := Lib.hid (HN9.out.below hbd)
                          have HZT : Hid (pz ≠ pt) := Lib.hid (fun e => HPZ.out (by rw [e]; exact hptm))
                          have HWT : Hid (pw ≠ pt) := Lib.hid (fun e => HPW.out (by rw [e]; exact hptm))
                          have HPT := Lib.hid hpt
                          have HV0 := Lib.hid hv0
                          have HVL := Lib.hid hvl
                          have HG6' := Lib.hid hg6
                          have HSUM := Lib.hid hsum
                          have e7 : (a : Int) + (k : Int) = (ak : Int) := by omega
                          have e8 : (ak : Int) + (d : Int) = (ix : Int) := by omega
                          have e9 : IntKind.i64.wrap (ak : Int) = (ak : Int) := IntWalk.i64_in _ (by omega)
                          have e10 : IntKind.i64.wrap (ix : Int) = (ix : Int) := IntWalk.i64_in _ (by omega)
                          have hix0 : (0 : Int) ≤ (ix : Int) := Int.natCast_nonneg _
                          have hix1 : (ix : Int) < (i : Int) := by omega
                          clear hak hix hvl hpt hv0 hg6 hG6 hsum hbd hRd hnt hptm
                          go_wp2_with fail
                          go_region_held3 (fun w' => w'.cell? ⟨q, ix, none⟩ = some (.pointer (some ⟨pt, 0, none⟩)))
                            (first | exact hcq | exact hcqE)
                            (first | (go_at_call 73; refine (Add_walk pt pz v0 V _ HNT.out HNZ.out HZT.out HSUM.out).mono ?_; rintro e w' ⟨rfl, hadd, hgr⟩; have hst := HRD.out.add (HJ.out _) HL.out.size (i := ix) (v := v0 + V) (by rw [HVL.out]; exact hixl) (by rw [HPT.out]; exact hgr) (by rw [HPT.out]; exact hadd); have HST := Lib.hid hst; have hcqE := hst.row.row.cell ix (by rw [HIL.out]; exact hixl); rw [HPT.out] at hcqE; have HNW3 := Lib.hid (HNW2.out.grown HNT.out.slot HWT.out hgr); have HNZ3 := Lib.hid (HNZ.out.grown HNT.out.slot HZT.out hgr); clear hst hadd hgr))
                          clear e7 e8 e9 e10
                          go_wp2
                          go_roundw
                          case rel => exact ⟨d + 1, _, by omega, by go_num, HST.out, HNW3.out, HNZ3.out, HG6'⟩
                          case measure => simp [intOf]; omega
                        · obtain rfl : d = b + 1 := by omega
                          have d6 : decide (((b + 1 : Nat) : Int) < (b : Int) + 1) = false := decide_eq_false (by omega)
                          have hg := hG6.out
                          rw [Nat.sub_self] at hg
                          obtain rfl : vs6 = G6 := hg
                          clear hG6 HG6
                          go_wp2
                          go_roundw
                          case rel => exact ⟨k + 1, vs6, by omega, by go_num, HR9.out, HN9.out, HG5'⟩
                          case measure => simp [intOf]; omega
                    · obtain rfl : k = ly := by omega
                      have d5 : decide ((k : Int) < (k : Int)) = false := decide_eq_false (by omega)
                      have hg := hG5.out
                      rw [List.drop_of_length_le (by rw [HLY.out]; exact Nat.le_refl _)] at hg
                      obtain rfl : vs5 = G5 := hg
                      clear hG5 HG5
                      go_wp2
                      go_roundw
                      case rel => exact ⟨a + 1, vs5, by omega, by go_num, HR6.out, HN6.out, HG4'⟩
                      case measure => simp [intOf]; omega
                · obtain rfl : a = lx := by omega
                  have d4 : decide ((a : Int) < (a : Int)) = false := decide_eq_false (by omega)
                  have hg := hG4.out
                  rw [List.drop_of_length_le (by rw [HLX.out]; exact Nat.le_refl _)] at hg
                  obtain rfl : vs4 = G4 := hg
                  clear hG4 HG4
                  go_wp2
                  go_roundw
                  case rel => exact ⟨b + 1, vs4, by omega, by go_num, HR5.out, HG3⟩
                  case measure => simp [intOf]; omega
            · obtain rfl : b = s := by omega
              have d3 : decide ((b : Int) < (b : Int)) = false := decide_eq_false (by omega)
              have hg := hG3.out
              rw [Nat.sub_self] at hg
              obtain rfl : vs = F := hg
              clear hG3 HST0
              obtain ⟨wz, rfl⟩ : ∃ wz : World, wz = wr := ⟨_, rfl⟩
              obtain ⟨vals, ho, hrv⟩ := HR3.out.kn HKN.out
              have hvl : vals.length = b := by have := ho.1; have := HLEN.out; omega
              rw [← hvl.trans HLEN.out.symm] at ho
              have HO := Lib.hid ho
              have HRV := Lib.hid hrv
              have HVL := Lib.hid hvl
              have hv46 : vals.length ≤ 10 := by omega
              clear ho hrv hvl
              go_upto_region 31 with (first | (at_builtin; go_loud (refine print_append (w0 := wz) W.heap.size rfl (.tmp 108) (.tmp 110) 78 65 (.slice none 0 0) 24 rfl Try.underlying78 info65 rfl (by omega) (.slice (some ⟨g, 0, none⟩) b cap) vals (.slice (some ⟨q, 0, none⟩) i i) rfl rfl rfl HO.out (Below.refl _ _) (Nat.le_trans HL.out.size HR3.out.below.size) (by omega) ?_); intro v1 w1 ho1 _ hg1 _; have HO1 := Lib.hid ho1; have HG1 := Lib.hid hg1; clear ho1 hg1))
              have hst := stp_of_own HO.out HG1.out
              have hkp := keep_of_own HO.out HG1.out
              have hrow : chairs_Spread.row (chairs_Spread.known (b - 1)) (b - 1 + 1) = vs := by rw [HROWS.out, show b - 1 + 1 = b by omega]; exact HF.out
              have hkn : KnV W.heap.size w1 v1 (chairs_Spread.known b) := by
                have h := KnV.snoc (by rw [← HVL.out.trans HLEN.out.symm]; exact HO.out) HRV.out (HR3.out.rowv i HIL.out) HG1.out HO1.out
                rw [show chairs_Spread.known b = rows ++ [vs] by rw [show b = b - 1 + 1 by omega, chairs_Spread.known, hrow, HROWS.out]]
                exact h
              have hbox : w1.heap[Bs]? = some (.cells #[.int .i64 (n : Int)] 3 (0, 0)) := by
                have h0 := HL.out.box
                have h1 := (HR3.out.below.block Bs (block_lt' h0)).trans h0
                refine (HG1.out.block Bs (block_lt' h1) fun e => ?_).trans h1
                obtain ⟨cells', hc⟩ := own_typed HO.out Bs e.symm
                rw [h1] at hc
                injection hc with hc
                injection hc with _ h2
                cases h2
              obtain ⟨g1, cap1, e1v⟩ := hkn.form (by rw [MSpread.known_length]; omega)
              rw [MSpread.known_length] at e1v
              subst e1v
              obtain ⟨fn, tmps, assign, body, hy, hR⟩ := HY.out (b - 1) (.slice (some ⟨q, 0, none⟩) i i) w1 (HJ.out _ _ _ HR3.out.j hst) (by omega) (by rw [hrow]; exact (HR3.out.rowv i HIL.out).keep hkp)
              have HKN1 := Lib.hid hkn
              have HBOX1 := Lib.hid hbox
              clear hst hkp hrow hkn hbox
              refine (wpIn_wide (n := 4)).1 ?_
              gi_wp2
              refine hR.mono ?_
              rintro e W3 ⟨rfl, hJ3, hk3⟩
              have hL3 : LSt W.heap.size J Bs n b (.slice (some ⟨g1, 0, none⟩) (b + 1) cap1) W3   := ⟨Nat.le_trans (Nat.le_trans (Nat.le_trans HL.out.size HR3.out.below.size) HG1.out.size) hk3.size, HKN1.out.kp hk3, by rwa [show b - 1 + 1 = b by omega] at hJ3, hk3.box.trans HBOX1.out⟩
              have HL3 := Lib.hid hL3
              clear hL3 hJ3 hk3 hR
              gi_wp2
              go_wp2
              go_roundw
              case rel => exact ⟨b + 1, g1, cap1, by omega, by omega, by go_num, rfl, HL3.out⟩
              case measure => simp [intOf]; omega
    · have d1 : decide ((s : Int) ≤ (n : Int)) = false := decide_eq_false (by omega)
      have hj := HL.out.j
      rw [show s - 1 = n by omega] at hj
      have HJ2 := Lib.hid hj
      clear hj
      go_wp2
      go_end0
      exact ⟨⟨_, rfl⟩, HJ2.out⟩
end Go.Proofs.Ytfopeenjpdaacaa.PC
end
section
/- A loop over the rows that the iterator hands out: what a round is told of the row it is given. -/
namespace Go.Proofs.Ytfopeenjpdaacaa.PC
open Go.RowKit Go.Proofs.YtfopeenjpdaacaaW.PrintWords Go.Proofs.YtfopeenjpdaacaaW.PrintLast Go.Proofs.YtfopeenjpdaacaaW.PrintMore
/-- how a round is left -/
def RPost (Bs k : Nat) (I : Nat → World → Prop) (B : Nat) (W : World) : Exit → Act → World → Prop
  | .normal, _, W' => KeepsFrom B W W' ∧ KpM Bs W W' ∧ I (k + 1) W'
  | _, _, _ => False
theorem KpM.trans {Bs : Nat} {A B C : World} (h : KpM Bs A B) (k : KpM Bs B C) : KpM Bs A C :=
  ⟨Nat.le_trans h.size k.size, k.box.trans h.box, fun r cells t hr ht => by
    have h1 := h.same r cells t hr ht
    exact (k.same r cells t (h1.trans hr) ht).trans h1⟩
theorem KpM.put {Bs l : Nat} {W : World} {o o' : Obj} (hl : W.heap[l]? = some o) (hc : o.isCells = false) (hne : Bs ≠ l) : KpM Bs W (W.putObj l o') :=
  ⟨by simp, World.putObj_heap_other hne, fun r cells t hr _ => World.putObj_heap_other (by
    rintro rfl
    rw [hr] at hl
    cases hl
    cases hc)⟩
theorem RowV.put {W : World} {l : Nat} {o o' : Obj} {v : Value} {vs : List Nat} (h : RowV W v vs) (hl : W.heap[l]? = some o) (hc : o.isCells = false) : RowV (W.putObj l o') v vs :=
  h.keep fun r cells t hr _ => World.putObj_heap_other (by
    rintro rfl
    rw [hr] at hl
    cases hl
    cases hc)
theorem Stp.lower {B0 B1 : Nat} {A B : World} (h : Stp B1 A B) (hb : B0 ≤ B1) : Stp B0 A B := by
  obtain ⟨row, hg, hr⟩ := h
  exact ⟨row, hg, fun r e => ⟨Nat.le_trans hb (hr r e).1, (hr r e).2⟩⟩
theorem range_rows {g : Operand} {ps : Array Tmp} {assign body : Code} {Q : Exit → Act → World → Prop} {a : Act} {w : World} (Bs n : Nat) (hn : n ≤ 10)
    (hg : a.eval g = .func (.func 69) #[] #[.pointer (some ⟨Bs, 0, none⟩)]) (hps : ps.size = 1)
    (hB : w.heap[Bs]? = some (.cells #[.int .i64 (n : Int)] 3 (0, 0)))
    (I : Nat → World → Prop) (hI : ∀ k, Stable w.heap.size (I k)) (hIo : ∀ (k : Nat) (W : World) (l : Nat) (o o' : Obj), w.heap.size ≤ l → W.heap[l]? = some o → o.isCells = false → I k W → I k (W.putObj l o')) (h0 : I 0 w) (a₁ : Value → Act)
    (hassign : ∀ (l : Nat) (v : Value) (W : World) (K : Act → World → Prop), K (a₁ v) W →
      assign.wpIn (Fence.wide.inRound l) 3 Try.prog (Exit.then K (fun _ _ _ => False)) { tmps := (ps.zip #[v]).foldl (fun t (p, v) => t.setIfInBounds p v) a.tmps, defers := [] } W)
    (hbody : ∀ (l k : Nat) (v : Value) (W : World), I k W → w.heap.size ≤ W.heap.size → k < n → RowV W v (chairs_Spread.row (chairs_Spread.known k) (k + 1)) → body.wpIn (Fence.wide.inRound l) 3 Try.prog (RPost Bs k I w.heap.size W) (a₁ v) W)
    (hdone : ∀ (D : Nat) (W : World), w.heap.size ≤ D → I n W → W.heap[D]? = some (.deferred (some [])) → Q .normal { a with defers := { target := .collected D, args := #[] } :: a.defers } W) :
    (Code.rangeFunc g ps assign body).wpIn Fence.wide 5 Try.prog Q a w := by
  refine wpIn_rangeFunc ?_
  intro fn hfn
  -- the loop's record, in its states
  let rec_ : LoopState → Loop := fun st => { state := st, pending := none, fn := fn, tmps := a.tmps, params := ps, assign := assign, body := body, defers := w.heap.size }
  have hBlt := block_lt' hB
  obtain ⟨L, hL⟩ : ∃ L, w.heap.size + 1 = L := ⟨_, rfl⟩
  obtain ⟨W1, hW1⟩ : ∃ W1, (w.alloc (.deferred (some []))).alloc (.loop (rec_ .ready)) = W1 := ⟨_, rfl⟩
  have hb1 : Below w.heap.size w W1 := by rw [← hW1]; exact ((Below.refl _ w).alloc (Nat.le_refl _) _).alloc (by simp) _
  have hloop : W1.heap[L]? = some (.loop (rec_ .ready)) := by
    rw [← hW1, ← hL]
    have := World.alloc_heap_new (w.alloc (.deferred (some []))) (.loop (rec_ .ready))
    rwa [World.size_alloc] at this
  have hdef : W1.heap[w.heap.size]? = some (.deferred (some [])) := by
    rw [← hW1]
    exact (Below.heap_alloc _ _ _ (by simp)).trans (World.alloc_heap_new w _)
  refine ⟨L, [{ target := .collected w.heap.size, args := #[] }], W1, { target := .fn (.func 69) #[.pointer (some ⟨Bs, 0, none⟩)], args := #[.func (.yield L) #[] #[]] }, W1, 69,
    #[.func (.yield L) #[] #[], .pointer (some ⟨Bs, 0, none⟩)], W1, ?_, ?_, fun _ _ => trivial, ?_, fun _ => by omega, ?_⟩
  · rw [← hW1, ← hL]
    exact run_enterLoop_outer _ _ _ _ _
  · simp only [resolve, hg]
    simp [go_sem]
  · have eg : ∀ args w, (callFunc 69 args).run Try.prog w = .ok (.enter 69 args) w := Go.Proofs.enters_of Try.func69 (by kernel_rfl) rfl
    simp [invoke, go_sem, eg]
  -- the iterator's contract, the record and the block for deferred calls beside the caller's own invariant
  have stp_keeps : ∀ {A B : World} {k : Nat} {o : Obj}, Stp w.heap.size A B → A.heap[k]? = some o → o.isCells = false → B.heap[k]? = some o := by
    rintro A B k o ⟨row, hgr, hrow⟩ hk hc
    refine (hgr.block k (block_lt' hk) fun e => ?_).trans hk
    obtain ⟨_, cells, t, hx, _⟩ := hrow k e.symm
    rw [hk] at hx
    cases hx
    cases hc
  refine (moves_in L Bs n hn W1 (fun k W => I k W ∧ W.heap[L]? = some (.loop (rec_ .ready)) ∧ W.heap[w.heap.size]? = some (.deferred (some [])))
    (fun k A B hA hst => by
      have hst := hst.lower hb1.size
      exact ⟨hI k A B hA.1 hst, stp_keeps hst hA.2.1 rfl, stp_keeps hst hA.2.2 rfl⟩)
    ((hb1.block Bs hBlt).trans hB) ?_ ⟨hI 0 _ _ h0 (.of_below hb1), hloop, hdef⟩).mono ?_
  · rintro k v W ⟨hi, hl, hd⟩ hk hrow
    have hy := run_yield (P := Try.prog) (args := #[v]) hl (by show (1 : Nat) = ps.size; rw [hps])
    obtain ⟨W2, hW2⟩ : ∃ W2, W.putObj L (.loop { rec_ .ready with state := .busy }) = W2 := ⟨_, rfl⟩
    have hlt := block_lt' hl
    have hl2 : W2.heap[L]? = some (.loop (rec_ .busy)) := by rw [← hW2]; exact World.putObj_heap_same hlt
    have hd2 : W2.heap[w.heap.size]? = some (.deferred (some [])) := by rw [← hW2]; exact (World.putObj_heap_other (by omega)).trans hd
    have hi2 : I k W2 := by rw [← hW2]; exact hIo k W L _ _ (by omega) hl rfl hi
    have hk2 : KpM Bs W W2 := by rw [← hW2]; exact KpM.put hl rfl (by omega)
    have hr2 : RowV W2 v (chairs_Spread.row (chairs_Spread.known k) (k + 1)) := by rw [← hW2]; exact hrow.put hl rfl
    refine ⟨fn, _, assign, body, hy, roundIn_of_wpIn trivial (hassign L v W _ ⟨W2, by rw [← hW2]; exact run_beginRound hl rfl, ?_⟩)⟩
    refine wpIn_mono (hbody L k v W2 hi2 (by have := block_lt' hl2; omega) hk hr2) ?_
    rintro e a3 W3 hp
    cases e with
    | normal =>
      obtain ⟨hf, hk3, hi3⟩ := hp
      have hl3 := hf.same L _ (by omega) hl2 rfl
      have hd3 := hf.same w.heap.size _ (Nat.le_refl _) hd2 rfl
      refine ⟨_, _, run_endRound (P := Try.prog) none hl3, rfl, ⟨hIo _ W3 L _ _ (by omega) hl3 rfl hi3, World.putObj_heap_same (block_lt' hl3), (World.putObj_heap_other (by omega)).trans hd3⟩, ?_⟩
      exact (hk2.trans hk3).trans (KpM.put hl3 rfl (by omega))
    | _ => exact hp.elim
  · rintro e W2 ⟨⟨v, rfl⟩, hi, hl, hd⟩
    exact ⟨none, _, run_endLoop (P := Try.prog) hl (by simp [rec_]), hdone w.heap.size _ (Nat.le_refl _) (hIo n W2 L _ _ (by omega) hl rfl hi) ((World.putObj_heap_other (by omega)).trans hd)⟩
end Go.Proofs.Ytfopeenjpdaacaa.PC
end
section
/- Spread: the last row that the iterator hands out. -/
namespace Go.Proofs.Ytfopeenjpdaacaa.PC
open Go.RowKit Go.Proofs.YtfopeenjpdaacaaW.PrintWords Go.Proofs.YtfopeenjpdaacaaW.PrintLast Go.Proofs.YtfopeenjpdaacaaW.PrintMore
attribute [local go_sem] Oper.semAt_some
/-- what is in the caller's variable when k rows are over -/
def rowI : Nat → List Int
  | 0 => []
  | k + 1 => (chairs_Spread.row (chairs_Spread.known k) (k + 1)).map fun x : Nat => (x : Int)
/-- what the caller holds between the rounds -/
structure CSt (n₀ Bo Bs : Nat) (w : World) (xs : List Int) (W : World) : Prop where
  own : ∃ v, Boxed W Bo 22 v ∧ W.ownsRow (Bs + 1) 3 1 v xs.length (nums .i64 xs)
  below : Below n₀ w W
theorem CSt.stable {n₀ Bo Bs B0 : Nat} {w : World} {xs : List Int} (hB : n₀ ≤ B0) (hw : n₀ ≤ w.heap.size) : Stable B0 (CSt n₀ Bo Bs w xs) := by
  rintro A B ⟨⟨v, hv, ho⟩, hb⟩ ⟨row, hg, hr⟩
  have keep : ∀ (k : Nat) (cells : Array Value) (t : Nat), A.heap[k]? = some (.cells cells t (0, 0)) → t ≠ 65 → t ≠ 66 → t ≠ 82 → B.heap[k]? = A.heap[k]? := fun k cells t hk h1 h2 h3 => by
    refine hg.block k (block_lt' hk) fun e => ?_
    obtain ⟨_, cells', t', hx, ht⟩ := hr k e.symm
    rw [hk] at hx
    injection hx with hx
    injection hx with _ h4
    subst h4
    rcases ht with ht | ht | ht
    · exact h1 ht
    · exact h2 ht
    · exact h3 ht
  refine ⟨⟨v, (keep _ _ _ hv (by decide) (by decide) (by decide)).trans hv, own_move ho fun k hk => ?_⟩, ?_⟩
  · obtain ⟨cells, hc⟩ := own_typed ho k hk
    exact keep k cells 3 hc (by decide) (by decide) (by decide)
  · refine ⟨hg.os.trans hb.os, hg.tape.trans hb.tape, hg.output.trans hb.output, Nat.le_trans hb.size hg.size, fun k hk => (hg.block k (by have := hb.size; omega) fun e => ?_).trans (hb.block k hk)⟩
    have := (hr k e.symm).1
    omega
theorem CSt.put {n₀ Bo Bs l : Nat} {w W : World} {xs : List Int} {o o' : Obj} (h : CSt n₀ Bo Bs w xs W) (hn : n₀ ≤ l) (hl : W.heap[l]? = some o) (hc : o.isCells = false) : CSt n₀ Bo Bs w xs (W.putObj l o') := by
  obtain ⟨⟨v, hv, ho⟩, hb⟩ := h
  have keep : ∀ (k : Nat) (cells : Array Value) (t : Nat), W.heap[k]? = some (.cells cells t (0, 0)) → (W.putObj l o').heap[k]? = W.heap[k]? := fun k cells t hk => World.putObj_heap_other (by
    rintro rfl
    rw [hk] at hl
    cases hl
    cases hc)
  refine ⟨⟨v, (keep _ _ _ hv).trans hv, own_move ho fun k hk => ?_⟩, ?_⟩
  · obtain ⟨cells, hx⟩ := own_typed ho k hk
    exact keep k cells 3 hx
  · have hg := grownBy_putObj' W l o'
    exact ⟨hg.os.trans hb.os, hg.tape.trans hb.tape, hg.output.trans hb.output, Nat.le_trans hb.size hg.size, fun k hk => (World.putObj_heap_other (by omega)).trans (hb.block k hk)⟩
/-- the state when j numbers of the row are over -/
structure RI (n₀ : Nat) (w : World) (B : Nat) (F : List Nat) (W : World) (j : Nat) (wr : World) : Prop where
  own : ∃ v, Boxed wr n₀ 22 v ∧ wr.ownsRow (n₀ + 2) 3 1 v ((F.take j).map fun x : Nat => (x : Int)).length (nums .i64 ((F.take j).map fun x : Nat => (x : Int)))
  below : Below n₀ w wr
  kp : KpM (n₀ + 1) W wr
  kf : KeepsFrom B W wr
theorem RI.keeps {n₀ B j : Nat} {w W wr : World} {F : List Nat} (h : RI n₀ w B F W j wr) : Keep65 W wr := fun r cells t hr ht => h.kp.same r cells t hr (.inr ht)
theorem info3' : (Try.prog.info? 3).map (fun i => (i.zero, i.size, i.bytes)) = some (some (.int .i64 0), 1, 8) := by kernel_rfl
theorem take_snoc (F : List Nat) (j : Nat) (hj : j < F.length) : (F.take (j + 1)).map (fun x : Nat => (x : Int)) = (F.take j).map (fun x : Nat => (x : Int)) ++ [((F.getD j 0 : Nat) : Int)] := by
  rw [List.take_succ_eq_append_getElem hj, List.map_append]
  simp [List.getD_eq_getElem?_getD, hj]
/-- a step of the caller's: it writes its own variable, or its own row -/
theorem RI.step {n₀ B j : Nat} {w W wr w2 w1 : World} {F : List Nat} {vj v1 : Value} {xs ys : List Int} (h : RI n₀ w B F W j wr) (hv : Boxed wr n₀ 22 vj) (ho : wr.ownsRow (n₀ + 2) 3 1 vj xs.length (nums .i64 xs)) (h2 : Below wr.heap.size wr w2) (hg : w2.grownBy w1 vj.ownBlock)
    (ho1 : w1.ownsRow (n₀ + 2) 3 1 v1 ys.length (nums .i64 ys)) (hy : ys = (F.take (j + 1)).map (fun x : Nat => (x : Int))) (hn : n₀ + 1 < wr.heap.size) : RI n₀ w B F W (j + 1) (w1.setCell ⟨n₀, 0, none⟩ v1) := by
  have ho2 := pw_own_below ho h2
  have hz := h2.size
  -- blocks that are no own row stay
  have keep1 : ∀ k, k < w2.heap.size → vj.ownBlock ≠ some k → w1.heap[k]? = w2.heap[k]? := fun k hk hne => hg.block k hk (fun e => hne e.symm)
  have hv2 : w2.heap[n₀]? = some (.cells #[vj] 22 (0, 0)) := (h2.block n₀ (by omega)).trans hv
  have hne : vj.ownBlock ≠ some n₀ := fun e => by have := own_base ho n₀ e; omega
  have hv1 : w1.heap[n₀]? = some (.cells #[vj] 22 (0, 0)) := (keep1 n₀ (by omega) hne).trans hv2
  have keep2 : ∀ k, k ≠ n₀ → (w1.setCell ⟨n₀, 0, none⟩ v1).heap[k]? = w1.heap[k]? := fun k hk => Below.heap_setCell w1 _ v1 k hk
  have hsz : (w1.setCell ⟨n₀, 0, none⟩ v1).heap.size = w1.heap.size := by simp
  have keepT : ∀ (r : Nat) (cells : Array Value) (t : Nat), wr.heap[r]? = some (.cells cells t (0, 0)) → t ≠ 3 → t ≠ 22 → (w1.setCell ⟨n₀, 0, none⟩ v1).heap[r]? = wr.heap[r]? := fun r cells t hr h3 h22 => by
    have hlt := block_lt' hr
    have e1 : r ≠ n₀ := by
      rintro rfl
      have hv' : wr.heap[r]? = some (.cells #[vj] 22 (0, 0)) := hv
      rw [hr] at hv'
      injection hv' with hv'
      injection hv' with _ h4
      exact h22 h4
    have e2 : vj.ownBlock ≠ some r := fun e => by
      obtain ⟨cells', hc⟩ := own_typed ho r e
      rw [hr] at hc
      injection hc with hc
      injection hc with _ h4
      exact h3 h4
    exact ((keep2 r e1).trans (keep1 r (by omega) e2)).trans (h2.block r hlt)
  have keepO : ∀ (r : Nat) (o : Obj), wr.heap[r]? = some o → o.isCells = false → (w1.setCell ⟨n₀, 0, none⟩ v1).heap[r]? = some o := fun r o hr hc => by
    have hlt := block_lt' hr
    have e1 : r ≠ n₀ := by
      rintro rfl
      rw [show wr.heap[r]? = _ from hv] at hr
      cases hr
      cases hc
    have e2 : vj.ownBlock ≠ some r := fun e => by
      obtain ⟨cells', hx⟩ := own_typed ho r e
      rw [hr] at hx
      cases hx
      cases hc
    exact (((keep2 r e1).trans (keep1 r (by omega) e2)).trans (h2.block r hlt)).trans hr
  refine ⟨⟨v1, heap_set hv1 v1, ?_⟩, ?_, ⟨?_, ?_, ?_⟩, ⟨?_, ?_⟩⟩
  · rw [← hy]
    refine own_move ho1 fun k hk => keep2 k (fun e => ?_)
    have := own_base ho1 k hk
    omega
  · have hb := h.below
    refine ⟨by show w1.os = w.os; exact (hg.os.trans h2.os).trans hb.os, by show w1.tape = w.tape; exact (hg.tape.trans h2.tape).trans hb.tape, by show w1.output = w.output; exact (hg.output.trans h2.output).trans hb.output, by rw [hsz]; exact Nat.le_trans (Nat.le_trans hb.size h2.size) hg.size, fun k hk => ?_⟩
    exact (((keep2 k (by omega)).trans (keep1 k (by omega) (fun e => by have := own_base ho k e; omega))).trans (h2.block k (by omega))).trans (hb.block k hk)
  · rw [hsz]; exact Nat.le_trans (Nat.le_trans h.kp.size h2.size) hg.size
  · exact (((keep2 _ (by omega)).trans (keep1 _ (by omega) (fun e => by have := own_base ho _ e; omega))).trans (h2.block _ hn)).trans h.kp.box
  · intro r cells t hr ht
    have h1 := h.kp.same r cells t hr ht
    refine (keepT r cells t (h1.trans hr) ?_ ?_).trans h1
    · rintro rfl; rcases ht with ht | ht | ht | ht <;> cases ht
    · rintro rfl; rcases ht with ht | ht | ht | ht <;> cases ht
  · rw [hsz]; exact Nat.le_trans (Nat.le_trans h.kf.size h2.size) hg.size
  · intro k o hB hk hc
    exact keepO k o (h.kf.same k o hB hk hc) hc
theorem RI.start {n₀ B : Nat} {w W : World} {F : List Nat} {v0 : Value} (hv : Boxed W n₀ 22 v0) (hb : Below n₀ w W) : RI n₀ w B F W 0 (W.setCell ⟨n₀, 0, none⟩ (.slice none 0 0)) := by
  have hv' : W.heap[n₀]? = some (.cells #[v0] 22 (0, 0)) := hv
  have keep2 : ∀ k, k ≠ n₀ → (W.setCell ⟨n₀, 0, none⟩ (.slice none 0 0)).heap[k]? = W.heap[k]? := fun k hk => Below.heap_setCell W _ _ k hk
  refine ⟨⟨_, heap_set hv' _, own_nil _ _ _ _⟩, hb.setCell (p := ⟨n₀, 0, none⟩) (Nat.le_refl _) _, ⟨by simp, keep2 _ (by omega), fun r cells t hr ht => keep2 r ?_⟩, ⟨by simp, fun k o _ hk hc => (keep2 k ?_).trans hk⟩⟩
  · rintro rfl
    rw [hr] at hv'
    injection hv' with hv'
    injection hv' with _ h4
    subst h4
    rcases ht with ht | ht | ht | ht <;> cases ht
  · rintro rfl
    rw [hv'] at hk
    cases hk
    cases hc
/-- an append at its place in a region that draws its order -/
theorem append_in {F : Fence} {n : Nat} {P : Program} {ops : Array Oper} {o : Oper} {a : Act} {w w1 : World} {K : Act → World → Prop} {Q : Exit → Act → World → Prop} {X : Prop} (hw : Region.wanted o (yielded ops a.tmps) = true) (s x : Operand) (t : TypeId)
    (ho : o.op = .call { callee := .builtin .append, args := #[s, x], argTypes := #[t, t] }) {v y v1 : Value} (hs : a.eval s = v) (hx : a.eval x = y) (hr : (Builtin.append_ #[t, t] o.type #[v, y]).run P w = .ok v1 w1) (hk : K (a.put o.dst v1) w1) :
    if Region.wanted o (yielded ops a.tmps) = true then Oper.wpIn F n P o a w K Q else X := by
  rw [if_pos hw]
  unfold Oper.wpIn
  refine ⟨by simp [Oper.about, ho, resolve, Target.leads, Sem.run_pure], ?_⟩
  rw [Oper.semAt_plain F _ _ (by rw [ho]; intro c hc'; cases hc')]
  simp [execOp, ho, resolve, invoke, builtin, hs, hx, hr, Result.andThen]
  exact hk
theorem moves_make (F : Fence) (m : Nat) (h5 : F.fn 56) (hro : F.round = none) (n : Int) (w : World) :
    CallsIn F m Try.prog 56 #[.int .i64 n] w fun e w' => e = .returned (.func (.func 69) #[] #[.pointer (some ⟨w.heap.size, 0, none⟩)]) ∧ w' = w.alloc (.cells #[.int .i64 n] 3) := by
  refine callsIn_of_wp Try.func56 rfl h5 ?_ hro
  simp only [Try.ntmps56, List.size_toArray, List.length_cons, List.length_nil, Nat.reduceAdd, Nat.reduceSub, Array.replicate_succ, Array.replicate_zero, List.push_toArray, List.append_toArray, List.nil_append, List.cons_append]
  gi_wp2
  go_ret
  exact ⟨rfl, rfl⟩
set_option maxRecDepth 1000000 in
set_option maxHeartbeats 4000000 in
theorem spread_walk (n : Nat) (hn1 : 1 ≤ n) (hn : n ≤ 10) (w : World) :
    Calls Try.prog 24 #[.int .i64 (n : Int)] w fun e w' => ∃ v0_ : Value, e = .returned (.tuple #[v0_, .int .i64 0]) ∧ Kd.R (Kd.int .i64) 3 w' w.heap.size (fun _ => True) v0_ (rowI n) ∧ Below w.heap.size w w' := by
  have d1 : decide ((n : Int) < 1) = false := decide_eq_false (by omega)
  have d2 : decide ((10 : Int) < (n : Int)) = false := decide_eq_false (by omega)
  refine (callsIn_wide (n := 5)).1 ?_
  refine callsIn_of_wp_marks Try.func24 rfl trivial ?_ rfl
  simp only [Try.ntmps24, List.size_toArray, List.length_cons, List.length_nil, Nat.reduceAdd, Nat.reduceSub, Array.replicate_succ, Array.replicate_zero, List.push_toArray, List.append_toArray, List.nil_append, List.cons_append]
  gi_wp2_with (refine ⟨trivial, ?_⟩; gi_at_call 56; refine (moves_make Fence.wide (5 - 1) trivial rfl _ _).mono ?_; rintro e w' ⟨rfl, rfl⟩)
  obtain ⟨n₀, hn₀⟩ : ∃ n₀, w.heap.size = n₀ := ⟨_, rfl⟩
  obtain ⟨W1, hW1⟩ : ∃ W1, (w.alloc (.cells #[.slice none 0 0] 22)).alloc (.cells #[.int .i64 (n : Int)] 3) = W1 := ⟨_, rfl⟩
  have hb1 : Below n₀ w W1 := by rw [← hW1, ← hn₀]; exact ((Below.refl _ w).alloc (Nat.le_refl _) _).alloc (by simp) _
  have hs1 : W1.heap.size = n₀ + 2 := by rw [← hW1, ← hn₀]; simp
  have hBo : Boxed W1 n₀ 22 (.slice none 0 0) := by rw [← hW1, ← hn₀]; exact (Boxed.new w 22 _).alloc _
  have hBs : W1.heap[n₀ + 1]? = some (.cells #[.int .i64 (n : Int)] 3 (0, 0)) := by
    rw [← hW1, ← hn₀]
    have := heap_alloc_new (w.alloc (.cells #[.slice none 0 0] 22)) (.cells #[.int .i64 (n : Int)] 3)
    rwa [World.size_alloc] at this
  have h0 : CSt n₀ n₀ (n₀ + 1) w (rowI 0) W1 := ⟨⟨_, hBo, own_nil _ _ _ _⟩, hb1⟩
  rw [hW1]
  simp only [hn₀]
  refine range_rows (n₀ + 1) n hn rfl rfl hBs (fun k => CSt n₀ n₀ (n₀ + 1) w (rowI k)) (fun k => CSt.stable (by omega) (by omega)) (fun k W l o o' hl ho hc h => h.put (by omega) ho hc) h0 (fun v => { tmps := #[.int .i64 (n : Int), undef, .slice none 0 0, .int .i64 0, .pointer (some ⟨n₀, 0, none⟩), v, undef, undef, .int .i64 (n : Int), .bool false, .bool false, .int .i64 (n : Int), .bool false, .bool false, .int .i64 (n : Int), .func (.func 69) #[] #[.pointer (some ⟨n₀ + 1, 0, none⟩)], v, undef, undef, undef, undef, undef, undef, undef, undef, undef, undef, undef, undef, undef], defers := [] }) ?assign ?body ?done
  case assign =>
    intro l v W K hK
    gi_wp2
    exact hK
  case body =>
    intro l k v W hI hsW hk hrow
    obtain ⟨q, ps, rfl, hnr⟩ := hrow
    obtain ⟨⟨v0, hv, ho⟩, hb⟩ := hI
    obtain ⟨F, hF⟩ : ∃ F, chairs_Spread.row (chairs_Spread.known k) (k + 1) = F := ⟨_, rfl⟩
    rw [hF] at hnr ⊢
    obtain ⟨m, hm⟩ : ∃ m, F.length = m := ⟨_, rfl⟩
    rw [hm]
    have hvc := hv.cell
    have hvf := hv.frozen
    have HNR := Lib.hid hnr
    have HV := Lib.hid hv
    have HB := Lib.hid hb
    have HF := Lib.hid hF
    have HM := Lib.hid hm
    have hmb : m ≤ 46 := by rw [← HM.out, ← HF.out]; exact MSpread.row_len (by omega)
    clear hnr hv ho hb hF hm
    have hR0 : RI n₀ w W1.heap.size F W 0 (W.setCell ⟨n₀, 0, none⟩ (.slice none 0 0)) := RI.start HV.out HB.out
    have HR0 := Lib.hid hR0
    clear hR0
    gi_wp2
    gi_loopw [19] (fun t wr => ∃ j : Nat, j ≤ m ∧ t = .int .i64 (j : Int) ∧ RI n₀ w W1.heap.size F W j wr) (fun t _ => m - (intOf t).toNat)
    case atStart => exact ⟨0, by omega, rfl, HR0.out⟩
    case round =>
      obtain ⟨j, hj, rfl, hR⟩ := hrel
      have HR := Lib.hid hR
      clear hR
      by_cases hlt : j < m
      · have d3 : decide ((j : Int) < (m : Int)) = true := decide_eq_true (by omega)
        obtain ⟨vj, hvj, hoj⟩ := HR.out.own
        have hNr := HNR.out.keep HR.out.keeps
        have hcj := hNr.row.cell j (by rw [hNr.len, HM.out]; exact hlt)
        have hnj := hNr.num j (by rw [HM.out]; exact hlt)
        obtain ⟨x, hx⟩ : ∃ x, F.getD j 0 = x := ⟨_, rfl⟩
        obtain ⟨p, hp⟩ : ∃ p, ps.getD j 0 = p := ⟨_, rfl⟩
        rw [hp] at hcj
        rw [hx, hp] at hnj
        have hcell := hvj.cell
        have hfro := hvj.frozen
        have HVJ := Lib.hid hvj
        have HOJ := Lib.hid hoj
        have HNJ := Lib.hid hnj
        have HX := Lib.hid hx
        have hq : n₀ < wr.heap.size := by
          have h := hvj
          exact block_lt' h
        have hq1 : n₀ + 1 < wr.heap.size := by have := HR.out.kp.size; omega
        have hca : ∀ nd : Nat, ((wr.drewN nd).alloc (.cells #[.int .i64 (x : Int)] 3)).cell? ⟨n₀, 0, none⟩ = some vj := fun nd => by
          rw [World.cell?_alloc_past _ _ _ (show n₀ < (wr.drewN nd).heap.size from hq)]
          exact hcell
        have HCA := Lib.hid hca
        clear hca
        have hint : CallsIn (Fence.wide.inRound l) 2 Try.prog 57 #[.pointer (some ⟨p, 0, none⟩)] wr.drew fun e w' => e = .returned (.int .i64 (x : Int)) ∧ ∃ nd2 : Nat, w' = wr.drew.drewN nd2 := by
          have h := callsIn_wide (n := 2) |>.2 (Int64_walk p x wr.drew (hnj.below ((Below.refl _ _).drew)))
          exact CallsIn.mono h fun e w' ⟨h1, ⟨h2⟩⟩ => ⟨h1, h2⟩
        have HINT := Lib.hid hint
        clear hvj hoj hNr hnj hx hp hint
        gi_wp2
        have happ : ∀ nd2 : Nat, ∃ A1 n1 c1 w1, (Builtin.append_ #[22, 22] 22 #[vj, .slice (some ⟨wr.heap.size, 0, none⟩) 1 1]).run Try.prog ((wr.drewN nd2).alloc (.cells #[.int .i64 (x : Int)] 3)) = .ok (.slice A1 n1 c1) w1 ∧ w1.cell? ⟨n₀, 0, none⟩ = some vj ∧ w1.frozen? ⟨n₀, 0, none⟩ = false ∧ RI n₀ w W1.heap.size F W (j + 1) (w1.setCell ⟨n₀, 0, none⟩ (.slice A1 n1 c1)) := by
          intro nd2
          have hb2 : Below wr.heap.size wr (wr.drewN nd2) := pw_below_drewN (Below.refl _ _) _
          have hb3 : Below wr.heap.size wr ((wr.drewN nd2).alloc (.cells #[.int .i64 (x : Int)] 3)) := hb2.alloc hb2.size _
          have ho3 := pw_own_below HOJ.out hb3
          obtain ⟨i0, hi0, hzz⟩ := Option.map_eq_some_iff.1 info3'
          simp only [Prod.mk.injEq] at hzz
          obtain ⟨hz0, hz1, hz2⟩ := hzz
          have hjl : ((F.take j).map fun x : Nat => (x : Int)).length ≤ 46 := by rw [List.length_map, List.length_take]; omega
          obtain ⟨v1, w1, hr, h2, h3, _, h5⟩ := run_append_own_at (P := Try.prog) ((wr.drewN nd2).alloc (.cells #[.int .i64 (x : Int)] 3)) (n₀ + 2) 22 22 3 i0 (.int .i64 0) 1 8 Try.underlying22 hi0 hz0 hz1 hz2 rfl (by omega) vj _ _ ho3 ⟨wr.heap.size, 0, none⟩ 1 1 [.int .i64 (x : Int)] rfl
            (World.news_of_block (cs := #[.int .i64 (x : Int)]) (t := 3) (fr := (0, 0)) (heap_alloc_new (wr.drewN nd2) _)) (by simp [Value.oneCell']) (by simp only [maxLen]; omega) (by omega) (by have := HR.out.below.size; have := hb3.size; omega)
          have hv2 : ((wr.drewN nd2).alloc (.cells #[.int .i64 (x : Int)] 3)).heap[n₀]? = some (.cells #[vj] 22 (0, 0)) := (hb3.block n₀ hq).trans HVJ.out
          have hne : vj.ownBlock ≠ some n₀ := fun e => by have := own_base HOJ.out n₀ e; omega
          have hv1 := (h3.block n₀ (block_lt' hv2) (fun e => hne e.symm)).trans hv2
          have hsn := take_snoc F j (by rw [HM.out]; exact hlt)
          rw [HX.out] at hsn
          obtain ⟨A1, c1, e1⟩ := own_slice h2
          subst e1
          refine ⟨_, _, _, w1, hr, by simp [World.cell?, hv1], by simp [World.frozen?, hv1], ?_⟩
          refine RI.step HR.out HVJ.out HOJ.out hb3 h3 (ys := (F.take j).map (fun x : Nat => (x : Int)) ++ [(x : Int)]) ?_ hsn.symm hq1
          have e1 : nums .i64 ((F.take j).map (fun x : Nat => (x : Int))) ++ [.int .i64 (x : Int)] = nums .i64 ((F.take j).map (fun x : Nat => (x : Int)) ++ [(x : Int)]) := by simp [nums]
          rw [e1] at h2
          rw [List.length_append]
          exact h2
        have HAPP := Lib.hid happ
        clear happ
        refine wpIn_region_any (by kernel_rfl) ?_
        change wpAnyIn _ _ _ _ _ _ _ _ _ wr.drew
        refine wpAnyIn_ready (rs := [0, 1]) (by kernel_rfl) (by simp) ?_
        refine AllReadyIn.cons rfl (fun K hK => ?_) (AllReadyIn.cons rfl (fun K hK => ?_) AllReadyIn.nil)
        · go_simp
          refine hK _ _ ?_
          clear hK K
          refine wpAnyIn_ready (rs := [1]) (by kernel_rfl) (by simp) ?_
          refine AllReadyIn.cons rfl (fun K hK => ?_) AllReadyIn.nil
          go_simp
          refine hK _ _ ?_
          clear hK K
          refine wpAnyIn_ready (rs := [2]) (by kernel_rfl) (by simp) ?_
          refine AllReadyIn.cons rfl (fun K hK => ?_) AllReadyIn.nil
          go_simp
          refine ⟨trivial, ?_⟩
          refine HINT.out.mono ?_
          rintro e w' ⟨rfl, nd2, rfl⟩
          have hcA := HCA.out (1 + nd2)
          go_simp
          refine hK _ _ ?_
          clear hK K
          refine wpAnyIn_ready (rs := [3]) (by kernel_rfl) (by simp) ?_
          refine AllReadyIn.cons rfl (fun K hK => ?_) AllReadyIn.nil
          go_simp
          refine hK _ _ ?_
          clear hK K
          obtain ⟨A1, n1, c1, w1, hrun, hc1, hf1, hri⟩ := HAPP.out (1 + nd2)
          refine wpAnyIn_ready (rs := [4]) (by kernel_rfl) (by simp) ?_
          refine AllReadyIn.cons rfl (fun K hK => ?_) AllReadyIn.nil
          refine append_in (v := vj) (y := .slice (some ⟨wr.heap.size, 0, none⟩) 1 1) (v1 := .slice A1 n1 c1) (w1 := w1) (by rfl) (.tmp 23) (.tmp 26) 22 rfl rfl rfl hrun ?_
          refine hK _ _ ?_
          clear hK K hrun
          refine wpAnyIn_ready (rs := [5]) (by kernel_rfl) (by simp) ?_
          refine AllReadyIn.cons rfl (fun K hK => ?_) AllReadyIn.nil
          go_simp
          refine hK _ _ ?_
          clear hK K
          refine wpAnyIn_done (by kernel_rfl) ?_ _
          have HRI := Lib.hid hri
          clear hri
          gi_wp2
          go_roundw
          case rel => exact ⟨j + 1, by omega, by go_num, HRI.out⟩
          case measure => simp [intOf]; omega
        · go_simp
          refine hK _ _ ?_
          clear hK K
          refine wpAnyIn_ready (rs := [0, 2]) (by kernel_rfl) (by simp) ?_
          refine AllReadyIn.cons rfl (fun K hK => ?_) (AllReadyIn.cons rfl (fun K hK => ?_) AllReadyIn.nil)
          · go_simp
            refine hK _ _ ?_
            clear hK K
            refine wpAnyIn_ready (rs := [2]) (by kernel_rfl) (by simp) ?_
            refine AllReadyIn.cons rfl (fun K hK => ?_) AllReadyIn.nil
            go_simp
            refine ⟨trivial, ?_⟩
            refine HINT.out.mono ?_
            rintro e w' ⟨rfl, nd2, rfl⟩
            have hcA := HCA.out (1 + nd2)
            go_simp
            refine hK _ _ ?_
            clear hK K
            refine wpAnyIn_ready (rs := [3]) (by kernel_rfl) (by simp) ?_
            refine AllReadyIn.cons rfl (fun K hK => ?_) AllReadyIn.nil
            go_simp
            refine hK _ _ ?_
            clear hK K
            obtain ⟨A1, n1, c1, w1, hrun, hc1, hf1, hri⟩ := HAPP.out (1 + nd2)
            refine wpAnyIn_ready (rs := [4]) (by kernel_rfl) (by simp) ?_
            refine AllReadyIn.cons rfl (fun K hK => ?_) AllReadyIn.nil
            refine append_in (v := vj) (y := .slice (some ⟨wr.heap.size, 0, none⟩) 1 1) (v1 := .slice A1 n1 c1) (w1 := w1) (by rfl) (.tmp 23) (.tmp 26) 22 rfl rfl rfl hrun ?_
            refine hK _ _ ?_
            clear hK K hrun
            refine wpAnyIn_ready (rs := [5]) (by kernel_rfl) (by simp) ?_
            refine AllReadyIn.cons rfl (fun K hK => ?_) AllReadyIn.nil
            go_simp
            refine hK _ _ ?_
            clear hK K
            refine wpAnyIn_done (by kernel_rfl) ?_ _
            have HRI := Lib.hid hri
            clear hri
            gi_wp2
            go_roundw
            case rel => exact ⟨j + 1, by omega, by go_num, HRI.out⟩
            case measure => simp [intOf]; omega
          · go_simp
            refine ⟨trivial, ?_⟩
            refine HINT.out.mono ?_
            rintro e w' ⟨rfl, nd2, rfl⟩
            have hcA := HCA.out (1 + nd2)
            go_simp
            refine hK _ _ ?_
            clear hK K
            refine wpAnyIn_ready (rs := [0, 3]) (by kernel_rfl) (by simp) ?_
            refine AllReadyIn.cons rfl (fun K hK => ?_) (AllReadyIn.cons rfl (fun K hK => ?_) AllReadyIn.nil)
            · go_simp
              refine hK _ _ ?_
              clear hK K
              refine wpAnyIn_ready (rs := [3]) (by kernel_rfl) (by simp) ?_
              refine AllReadyIn.cons rfl (fun K hK => ?_) AllReadyIn.nil
              go_simp
              refine hK _ _ ?_
              clear hK K
              obtain ⟨A1, n1, c1, w1, hrun, hc1, hf1, hri⟩ := HAPP.out (1 + nd2)
              refine wpAnyIn_ready (rs := [4]) (by kernel_rfl) (by simp) ?_
              refine AllReadyIn.cons rfl (fun K hK => ?_) AllReadyIn.nil
              refine append_in (v := vj) (y := .slice (some ⟨wr.heap.size, 0, none⟩) 1 1) (v1 := .slice A1 n1 c1) (w1 := w1) (by rfl) (.tmp 23) (.tmp 26) 22 rfl rfl rfl hrun ?_
              refine hK _ _ ?_
              clear hK K hrun
              refine wpAnyIn_ready (rs := [5]) (by kernel_rfl) (by simp) ?_
              refine AllReadyIn.cons rfl (fun K hK => ?_) AllReadyIn.nil
              go_simp
              refine hK _ _ ?_
              clear hK K
              refine wpAnyIn_done (by kernel_rfl) ?_ _
              have HRI := Lib.hid hri
              clear hri
              gi_wp2
              go_roundw
              case rel => exact ⟨j + 1, by omega, by go_num, HRI.out⟩
              case measure => simp [intOf]; omega
            · go_simp
              refine hK _ _ ?_
              clear hK K
              refine wpAnyIn_ready (rs := [0]) (by kernel_rfl) (by simp) ?_
              refine AllReadyIn.cons rfl (fun K hK => ?_) AllReadyIn.nil
              go_simp
              refine hK _ _ ?_
              clear hK K
              obtain ⟨A1, n1, c1, w1, hrun, hc1, hf1, hri⟩ := HAPP.out (1 + nd2)
              refine wpAnyIn_ready (rs := [4]) (by kernel_rfl) (by simp) ?_
              refine AllReadyIn.cons rfl (fun K hK => ?_) AllReadyIn.nil
              refine append_in (v := vj) (y := .slice (some ⟨wr.heap.size, 0, none⟩) 1 1) (v1 := .slice A1 n1 c1) (w1 := w1) (by rfl) (.tmp 23) (.tmp 26) 22 rfl rfl rfl hrun ?_
              refine hK _ _ ?_
              clear hK K hrun
              refine wpAnyIn_ready (rs := [5]) (by kernel_rfl) (by simp) ?_
              refine AllReadyIn.cons rfl (fun K hK => ?_) AllReadyIn.nil
              go_simp
              refine hK _ _ ?_
              clear hK K
              refine wpAnyIn_done (by kernel_rfl) ?_ _
              have HRI := Lib.hid hri
              clear hri
              gi_wp2
              go_roundw
              case rel => exact ⟨j + 1, by omega, by go_num, HRI.out⟩
              case measure => simp [intOf]; omega
      · obtain rfl : j = m := by omega
        have d3 : decide ((j : Int) < (j : Int)) = false := decide_eq_false (by omega)
        obtain ⟨vj, hvj, hoj⟩ := HR.out.own
        rw [List.take_of_length_le (by rw [HM.out]; exact Nat.le_refl _)] at hoj
        have hfin : RPost (n₀ + 1) k (fun k => CSt n₀ n₀ (n₀ + 1) w (rowI k)) W1.heap.size W .normal { tmps := #[], defers := [] } wr := ⟨HR.out.kf, HR.out.kp, ⟨⟨vj, hvj, by rw [show rowI (k + 1) = F.map (fun x : Nat => (x : Int)) by rw [← HF.out]; rfl]; exact hoj⟩, HR.out.below⟩⟩
        have HFIN := Lib.hid hfin
        clear hvj hoj hfin
        gi_wp2
        exact HFIN.out
  case done =>
    intro D W hD hI hK
    obtain ⟨⟨v, hv, ho⟩, hb⟩ := hI
    have hvc := hv.cell
    gi_wp2
    refine ⟨by simp, .inl ⟨_, _, rfl, run_takeDeferred hK, ?_⟩⟩
    have hown := own_move ho (w1 := W.putObj D (.deferred none)) fun r hr => World.putObj_heap_other (by
      rintro rfl
      obtain ⟨cells, hc⟩ := own_typed ho r hr
      rw [hK] at hc
      cases hc)
    have hR : Kd.R (Kd.int .i64) 3 (W.putObj D (.deferred none)) (n₀ + 2) (fun _ => True) v (rowI n) := Kd.R_of_own hown (fun _ _ => trivial)
    refine ⟨_, results_tmp2 rfl _ _ _, v, rfl, Kd.R_lower hR (by omega), ?_⟩
    rw [hn₀]
    exact hb.trans (belowK_b (w := W1) (by omega) W D _ _ (by omega) hK rfl rfl)
end Go.Proofs.Ytfopeenjpdaacaa.PC
end
section
namespace Go.Proofs.Ytfopeenjpdaacaa.PC
open Go.RowKit Go.Proofs.YtfopeenjpdaacaaW.PrintWords Go.Proofs.YtfopeenjpdaacaaW.PrintLast Go.Proofs.YtfopeenjpdaacaaW.PrintMore
attribute [local go_sem] max2_int min2_int max_two min_two max_three min_three max_four min_four   -- for this text's walks alone
set_option linter.unusedVariables false
set_option linter.unusedSimpArgs false
/-! ### chairs_Spread: function 24 -/
/-- how many good lists there are for each distance -/
def chairs_Spread.f (a0 : Int) : Option (List Int × Int) :=
 if a0 < 1 ∨ a0 > 10 then some ([], 2) else some (rowI a0.toNat, 0)
section
theorem spread_err (a0 : Int) (w : World) (h : a0 < 1 ∨ a0 > 10) :
  Calls Try.prog 24 #[.int .i64 a0] w fun e w' => e = .returned (.tuple #[.slice none 0 0, .int .i64 2]) ∧ Below w.heap.size w w' := by
 by_cases h1 : a0 < 1
 ·have d1 : decide (a0 < 1) = true := decide_eq_true h1
  go_enter Try.func24, Try.ntmps24
  go_wp2
  go_ret2
  exact ⟨rfl, Below.refl _ _⟩
 ·have d1 : decide (a0 < 1) = false := decide_eq_false h1
  have d2 : decide (10 < a0) = true := decide_eq_true (by omega)
  go_enter Try.func24, Try.ntmps24
  go_wp2
  go_ret2
  exact ⟨rfl, Below.refl _ _⟩
theorem chairs_Spread.calls (a0 : Int) (r1 : List Int) (r2 : Int) (w : World) (h : chairs_Spread.f a0 = some (r1, r2)) :
  Calls Try.prog 24 #[.int .i64 a0] w fun e w' => ∃ v0_ : Value, e = .returned (.tuple #[v0_, .int .i64 r2]) ∧ Kd.R (Kd.int .i64) 3 w' w.heap.size (fun _ => True) v0_ r1 ∧ Below w.heap.size w w' := by
 unfold chairs_Spread.f at h
 by_cases c : a0 < 1 ∨ a0 > 10
 ·rw [if_pos c] at h
  have h' := Option.some.inj h
  obtain ⟨rfl, rfl⟩ := Prod.mk.inj h'
  exact (spread_err a0 w c).mono fun e w' ⟨he, hb⟩ => ⟨_, he, Kd.R_nil _ _ _ _ _, hb⟩
 ·rw [if_neg c] at h
  have h' := Option.some.inj h
  obtain ⟨rfl, rfl⟩ := Prod.mk.inj h'
  obtain ⟨n, rfl⟩ : ∃ n : Nat, a0 = (n : Int) := ⟨a0.toNat, by omega⟩
  rw [Int.toNat_natCast]
  exact spread_walk n (by omega) (by omega) w
end
end Go.Proofs.Ytfopeenjpdaacaa.PC
end
section
/- The queue of the program: numbers that wait, behind a pointer: contracts of put and take. -/
namespace Go.Proofs.Ytfopeenjpdaacaa.PC
open Go.RowKit Go.Proofs.YtfopeenjpdaacaaW.PrintWords Go.Proofs.YtfopeenjpdaacaaW.PrintLast Go.Proofs.YtfopeenjpdaacaaW.PrintMore
/-- the numbers that wait: the variable lies in block B, its numbers in a block beyond it -/
def QVar (W : World) (B : Nat) (xs : List Int) : Prop := ∃ v, W.heap[B]? = some (.cells #[v] 69 (0, 0)) ∧ (Kd.int .i64).Q 3 W (B + 1) (fun _ => True) v xs
theorem q_far {W : World} {B : Nat} {v : Value} {xs : List Int} (h : (Kd.int .i64).Q 3 W (B + 1) (fun _ => True) v xs) (u : Value) : (Kd.int .i64).Q 3 (W.setCell ⟨B, 0, none⟩ u) (B + 1) (fun _ => True) v xs :=
  Kd.Q_mono (Kd.Q_far (ok := fun k => B + 1 ≤ k) (p := ⟨B, 0, none⟩) (Kd.Q_mono (Kd.Q_bound h) (fun k hk => hk.2.1)) (fun k hk => (by omega : k ≠ B)) u) (fun _ _ => trivial)
theorem info3q : (Try.prog.info? 3).map (fun i => (i.zero, i.size, i.bytes)) = some (some (.int .i64 0), 1, 8) := by kernel_rfl
theorem hset {w : World} {p i : Nat} {cs : Array Value} {t : TypeId} {fr : Nat × Nat} (h : w.heap[p]? = some (.cells cs t fr)) (v : Value) : (w.setCell ⟨p, i, none⟩ v).heap[p]? = some (.cells (cs.setIfInBounds i v) t fr) := by
  show (w.heap.modify p _)[p]? = _
  rw [Array.getElem?_modify, if_pos rfl, h]
  rfl
set_option maxHeartbeats 400000 in
theorem put_walk (B : Nat) (x : Int) (xs : List Int) (w : World) (h : QVar w B xs) (hl : xs.length ≤ 1000) :
    Calls Try.prog 60 #[.pointer (some ⟨B, 0, none⟩), .int .i64 x] w fun e w' => e = .returned (.tuple #[]) ∧ QVar w' B (xs ++ [x]) ∧ Below B w w' := by
  obtain ⟨v, hB, hQ⟩ := h
  have hc : w.cell? ⟨B, 0, none⟩ = some v := by simp [World.cell?, hB]
  have hBl : B < w.heap.size := (Array.getElem?_eq_some_iff.1 hB).1
  have HB := Lib.hid hB
  have HQ := Lib.hid hQ
  clear hB hQ
  go_enter Try.func60, Try.ntmps60
  go_wp2_with (first | (at_builtin; refine Kd.Q_append (w0 := w) (Kd.int .i64) (B + 1) rfl (.tmp 7) (.tmp 9) 69 3 (.int .i64 0) 8 rfl Try.underlying69 info3q rfl (by decide) (by decide) v xs x [.int .i64 x] (fun _ => True) (fun _ => False) rfl rfl rfl (fun _ hk => hk.elim) (fun _ _ => trivial) HQ.out (Below.refl _ _) (by omega) (by omega) ?_; intro v1 w1 hq1 hb1 hg1 _; obtain ⟨A1, c1, rfl, _⟩ := Kd.Q_slice hq1; have hB1 := (hb1.block B (by omega)).trans HB.out; have hc1 : w1.cell? ⟨B, 0, none⟩ = some v := (by simp [World.cell?, hB1]); have hf1 : w1.frozen? ⟨B, 0, none⟩ = false := (by simp [World.frozen?, hB1]); have HB1 := Lib.hid hB1; have HQ1 := Lib.hid hq1; have HBL := Lib.hid hb1; clear hB1 hq1 hb1 hg1))
  go_end0
  exact ⟨rfl, ⟨_, hset HB1.out _, q_far (by simpa using HQ1.out) _⟩, (HBL.out.mono (Nat.le_succ B)).setCell (p := ⟨B, 0, none⟩) (Nat.le_refl _) _⟩
set_option maxHeartbeats 400000 in
theorem take_walk (B : Nat) (y : Int) (ys : List Int) (w : World) (h : QVar w B (y :: ys)) :
    Calls Try.prog 61 #[.pointer (some ⟨B, 0, none⟩)] w fun e w' => e = .returned (.tuple #[.int .i64 y, .bool true]) ∧ QVar w' B ys ∧ Below B w w' := by
  obtain ⟨v, hB, hQ⟩ := h
  obtain ⟨g, o, cap, e, hg, hgl, _⟩ := Kd.Q_form hQ (by simp)
  subst e
  have hc : w.cell? ⟨B, 0, none⟩ = some (.slice (some ⟨g, o, none⟩) (y :: ys).length cap) := by simp [World.cell?, hB]
  have hf : w.frozen? ⟨B, 0, none⟩ = false := by simp [World.frozen?, hB]
  have hx := (Kd.Q_cell 0 hQ 0 (by omega) (by simp)).1
  have hx' : w.cell? ⟨g, o, none⟩ = some (.int .i64 y) := hx
  have hne : g ≠ B := by omega
  obtain ⟨n, hn⟩ : ∃ n, (y :: ys).length = n := ⟨_, rfl⟩
  have hn1 : n = ys.length + 1 := by rw [← hn]; rfl
  obtain ⟨i3, hi3, hz3⟩ := Option.map_eq_some_iff.1 info3q
  simp only [Prod.mk.injEq] at hz3
  have hdrop := Kd.Q_drop (k := 1) hQ (by simp)
  rw [hn] at hc hdrop
  have hcut := cut_from (P := Try.prog) 69 3 .i64 Try.underlying69 hi3 1 hz3.2.1 (some ⟨g, o, none⟩) n cap 1 (by omega) (by omega)
  have hx1 : (1 : Int).toNat = 1 := rfl
  rw [hx1] at hcut
  obtain ⟨A', hA'⟩ : ∃ A', (if cap = 1 then some (⟨g, o, none⟩ : Addr) else (some (⟨g, o, none⟩ : Addr)).map (·.add (1 * 1))) = A' := ⟨_, rfl⟩
  rw [hA'] at hcut
  have hA'' : (if cap = 1 then some (⟨g, o, none⟩ : Addr) else (some (⟨g, o, none⟩ : Addr)).map (·.add (1 * (Kd.int .i64).sz))) = A' := hA'
  rw [hA''] at hdrop
  have HD := Lib.hid hdrop
  have HB := Lib.hid hB
  have d1 : ((n : Int) == 0) = false := beq_eq_false_iff_ne.2 (by omega)
  have hn0 : (0 : Int) < (n : Int) := by omega
  have hn2 : (1 : Int) ≤ (n : Int) := by omega
  clear hQ hx hdrop hB hA' hA'' hn hn1 hz3
  go_enter Try.func61, Try.ntmps61
  go_wp2
  go_ret2
  refine ⟨rfl, ⟨_, hset HB.out _, q_far HD.out _⟩, (Below.refl _ _).setCell (p := ⟨B, 0, none⟩) (Nat.le_refl _) _⟩
set_option maxHeartbeats 400000 in
theorem take_none (B : Nat) (w : World) (h : QVar w B []) :
    Calls Try.prog 61 #[.pointer (some ⟨B, 0, none⟩)] w fun e w' => e = .returned (.tuple #[.int .i64 0, .bool false]) ∧ w = w' := by
  obtain ⟨v, hB, hQ⟩ := h
  obtain ⟨A, c, e, _⟩ := Kd.Q_slice hQ
  subst e
  have hc : w.cell? ⟨B, 0, none⟩ = some (.slice A 0 c) := by simp [World.cell?, hB]
  clear hB hQ
  go_enter Try.func61, Try.ntmps61
  go_wp2
  go_ret2
  exact ⟨rfl, rfl⟩
end Go.Proofs.Ytfopeenjpdaacaa.PC
end
section
/- The tree of wishes and the wishes of a tree, as the program makes them: plain. -/
namespace Go.Proofs.Ytfopeenjpdaacaa.PC
/-- one chair's customers: they come to the end of the queue, their parent is the node -/
def chairs_Tree.row (k node : Int) : List Int → Nat → List Int → List Int → List Int × List Int
  | [], _, out, q => (out, q)
  | w :: ws, c, out, q => if w = k then chairs_Tree.row k node ws (c + 1) (out.set c node) (q ++ [(c : Int) + 1]) else chairs_Tree.row k node ws (c + 1) out q
def chairs_Tree.go (l0 : List Int) : Nat → Int → List Int → List Int → Option (List Int)
  | 0, _, _, _ => none
  | _ + 1, _, out, [] => some out
  | n + 1, k, out, node :: q => chairs_Tree.go l0 n (k + 1) (chairs_Tree.row k node l0 0 out q).1 (chairs_Tree.row k node l0 0 out q).2
/-- one node's children: they come to the end of the queue, they wish the chair -/
def chairs_Wishes.go (l0 : List Int) : Nat → Int → List Int → List Int → Option (List Int)
  | 0, _, _, _ => none
  | _ + 1, _, out, [] => some out
  | n + 1, k, out, node :: q => chairs_Wishes.go l0 n (k + 1) (chairs_Tree.row node k l0 0 out q).1 (chairs_Tree.row node k l0 0 out q).2
end Go.Proofs.Ytfopeenjpdaacaa.PC
end
section
/- Tree: the walk behind its tests: a queue of nodes, the chairs one after the other. -/
namespace Go.Proofs.Ytfopeenjpdaacaa.PC
open Go.RowKit Go.Proofs.YtfopeenjpdaacaaW.PrintWords Go.Proofs.YtfopeenjpdaacaaW.PrintLast Go.Proofs.YtfopeenjpdaacaaW.PrintMore
/-- the state of the walk: what lay below the list that is made is as it was; the list; the queue in the block behind it -/
structure TSt (Wm : World) (B : Nat) (out q : List Int) (W : World) : Prop where
  below : Below Wm.heap.size Wm W
  hB : B = Wm.heap.size + 1
  out : W.heap[Wm.heap.size]? = some (.cells (nums .i64 out).toArray 3 (0, 0))
  q : QVar W B q
theorem QVar.below {W W' : World} {B : Nat} {xs : List Int} (h : QVar W B xs) (hb : ∀ k, B ≤ k → k < W.heap.size → W'.heap[k]? = W.heap[k]?) : QVar W' B xs := by
  obtain ⟨v, h1, h2⟩ := h
  refine ⟨v, (hb B (Nat.le_refl _) (Array.getElem?_eq_some_iff.1 h1).1).trans h1, ?_⟩
  exact Kd.Q_mono (Kd.Q_step (ok := fun k => B + 1 ≤ k) (Kd.Q_mono (Kd.Q_bound h2) (fun k hk => hk.2.1)) (fun k hk hl => hb k (by omega) hl)) (fun _ _ => trivial)
theorem TSt.moved {Wm W W' : World} {B : Nat} {out q q' : List Int} (h : TSt Wm B out q W) (hb : Below B W W') (hq : QVar W' B q') : TSt Wm B out q' W' := by
  have e := h.hB
  exact ⟨h.below.trans (hb.mono (by omega)), e, (hb.block _ (by omega)).trans h.out, hq⟩
theorem TSt.store {Wm W : World} {B : Nat} {out q : List Int} (h : TSt Wm B out q W) (i : Nat) (x : Int) : TSt Wm B (out.set i x) q (W.setCell ⟨Wm.heap.size, i, none⟩ (.int .i64 x)) := by
  have e := h.hB
  refine ⟨h.below.setCell (p := ⟨Wm.heap.size, i, none⟩) (Nat.le_refl _) _, e, ?_, h.q.below fun k hk _ => Below.heap_setCell W _ _ k (by show k ≠ Wm.heap.size; omega)⟩
  rw [hset h.out]
  simp [nums, List.map_set]
theorem TSt.cell {Wm W : World} {B : Nat} {out q : List Int} (h : TSt Wm B out q W) (i : Nat) (hi : i < out.length) : ∃ u, W.cell? ⟨Wm.heap.size, i, none⟩ = some u := ⟨.int .i64 (out[i]), by simp [World.cell?, h.out, nums, hi]⟩
theorem TSt.frozen {Wm W : World} {B : Nat} {out q : List Int} (h : TSt Wm B out q W) (i : Nat) : W.frozen? ⟨Wm.heap.size, i, none⟩ = false := by simp [World.frozen?, h.out]
theorem TSt.start (Wm : World) (n : Nat) (_hn : n ≤ 1000) : TSt Wm (Wm.heap.size + 1) (List.replicate n 0) [] ((Wm.alloc (.cells (madeCells #[.int .i64 0] n) 3)).alloc (.cells #[.slice none 0 0] 69)) := by
  obtain ⟨W1, hW1⟩ : ∃ W1, Wm.alloc (.cells (madeCells #[.int .i64 0] n) 3) = W1 := ⟨_, rfl⟩
  have hs1 : W1.heap.size = Wm.heap.size + 1 := by rw [← hW1]; simp
  have hb1 : Below Wm.heap.size Wm W1 := by rw [← hW1]; exact (Below.refl _ _).alloc (Nat.le_refl _) _
  have ho : W1.heap[Wm.heap.size]? = some (.cells (nums .i64 (List.replicate n 0)).toArray 3 (0, 0)) := by
    rw [← hW1, heap_alloc_new]
    congr 2
    apply Array.ext
    · simp [madeCells, nums]
    · intro i h1 h2
      simp [madeCells, nums, Nat.mod_one]
  rw [hW1]
  refine ⟨hb1.alloc (by omega) _, rfl, (Below.heap_alloc _ _ _ (by omega)).trans ho, ⟨_, ?_, Kd.Q_nil _ _ _ _ _⟩⟩
  rw [← hs1]
  exact heap_alloc_new _ _
theorem R_of_ints {W : World} {g base : Nat} {xs : List Int} (h : W.heap[g]? = some (.cells (nums .i64 xs).toArray 3 (0, 0))) (hb : base ≤ g) (hl : xs.length ≤ 1000000) : Kd.R (Kd.int .i64) 3 W base (fun _ => True) (.slice (some ⟨g, 0, none⟩) xs.length xs.length) xs :=
  Kd.R_of_own ⟨by simp [encs], .inr ⟨g, xs.length, _, rfl, hb, h, Nat.le_refl _, by unfold maxLen; omega, by simp [nums], by simp [encs, nums, List.take_of_length_le]⟩⟩ (fun _ _ => trivial)
theorem row_len (k node : Int) (l : List Int) : ∀ (c : Nat) (out q : List Int), (chairs_Tree.row k node l c out q).1.length = out.length ∧ (chairs_Tree.row k node l c out q).2.length ≤ q.length + l.length := by
  induction l with
  | nil => intro c out q; simp [chairs_Tree.row]
  | cons w l ih =>
    intro c out q
    simp only [chairs_Tree.row]
    split
    · have := ih (c + 1) (out.set c node) (q ++ [(c : Int) + 1])
      simp at this ⊢
      omega
    · have := ih (c + 1) out q
      simp at this ⊢
      omega
set_option maxRecDepth 100000 in
set_option maxHeartbeats 2000000 in
theorem tree_walk (k : Nat) (A0 : Option Addr) (c0 : Nat) (l0 : List Int) (w : World) (hr0 : Kd.C (Kd.int .i64) w A0 l0.length l0) (hc0 : l0.length ≤ c0) (h1 : chairs_same.f l0 = some 0) (r : List Int) (h2 : chairs_sit.f k (l0.length : Int) l0 = some (r, true)) (hl1 : 1 ≤ l0.length) (hl : l0.length ≤ 30)
    (res : List Int) (hgo : chairs_Tree.go l0 (l0.length + 2) 0 (List.replicate l0.length 0) [0] = some res) :
    Calls Try.prog 38 #[.slice A0 l0.length c0] w fun e w' => ∃ v0_ : Value, e = .returned (.tuple #[v0_, .int .i64 0]) ∧ Kd.R (Kd.int .i64) 3 w' w.heap.size (fun _ => True) v0_ res ∧ Below w.heap.size w w' := by
  have HR := Lib.hid hr0
  have HC := Lib.hid hc0
  have H1 := Lib.hid h1
  have H2 := Lib.hid h2
  have HG := Lib.hid hgo
  obtain ⟨n, hn⟩ : ∃ n, l0.length = n := ⟨_, rfl⟩
  have hcall2 := chairs_sit.calls k (l0.length : Int) A0 c0 l0 r true
  have hcall1 := chairs_same.calls A0 c0 l0 0
  rw [hn] at hcall1 hcall2 hl1 hl hgo ⊢
  have HG := Lib.hid hgo
  have HC1 := Lib.hid hcall1
  have HC2 := Lib.hid hcall2
  rw [hn] at hr0 hc0 h2
  have HR := Lib.hid hr0
  have HC := Lib.hid hc0
  have H2 := Lib.hid h2
  have HN := Lib.hid hn
  have hmk := @print_make Try.prog 22 3 .i64 8 Try.underlying22 info3q (by decide) n (by omega)
  clear hr0 hc0 h1 h2 hgo hn hcall1 hcall2
  go_enter Try.func38, Try.ntmps38
  go_wp2_with (first | (go_at_call 59; refine (HC1.out _ HR.out HC.out H1.out).mono ?_; rintro e wa ⟨rfl, hba⟩; have HBA := Lib.hid hba; clear hba) | (go_at_call 54; refine (HC2.out _ (Kd.C_below HR.out HBA.out) HC.out H2.out).mono ?_; rintro e wb ⟨v0, rfl, _, hbb⟩; have HBB := Lib.hid hbb; clear hbb) | (go_at_call 60; refine (put_walk (wb.heap.size + 1) 0 [] _ (TSt.start wb n (by omega)).q (by simp)).mono ?_; rintro e wc ⟨rfl, hqc, hbc⟩; have HTC := Lib.hid ((TSt.start wb n (by omega)).moved hbc hqc); clear hqc hbc))
  clear hmk
  go_loopw [9] (fun t wr => ∃ (j : Nat) (out q : List Int), j ≤ n + 1 ∧ t = .int .i64 (j : Int) ∧ out.length = n ∧ q.length ≤ 31 * j + 1 ∧ TSt wb (wb.heap.size + 1) out q wr ∧ Hid (chairs_Tree.go l0 (n + 2 - j) (j : Int) out q = some res)) (fun t _ => n + 2 - (intOf t).toNat)
  case atStart => exact ⟨0, _, _, by omega, rfl, by simp, by simp, HTC.out, HG⟩
  case round =>
    obtain ⟨j, out, q, hj, rfl, hol, hql, hT, hG⟩ := hrel
    have HT := Lib.hid hT
    have HOL := Lib.hid hol
    clear hT hol
    obtain ⟨wo, rfl⟩ : ∃ wo : World, wo = wr := ⟨_, rfl⟩
    cases q with
    | nil =>
      have hres : out = res := by
        have h := hG.out
        rw [show n + 2 - j = (n + 1 - j) + 1 by omega] at h
        simpa [chairs_Tree.go] using h
      subst hres
      go_wp2_with (go_at_call 61; refine (take_none _ _ HT.out.q).mono ?_; rintro e w' ⟨rfl, rfl⟩)
      go_ret2
      have hR := R_of_ints (base := w.heap.size) HT.out.out (by have := HBA.out.size; have := HBB.out.size; omega) (by rw [HOL.out]; omega)
      rw [HOL.out] at hR
      exact ⟨_, rfl, hR, (HBA.out.trans (HBB.out.mono HBA.out.size)).trans (HT.out.below.mono (by have := HBA.out.size; have := HBB.out.size; omega))⟩
    | cons node q =>
      have hjn : j ≤ n := by
        refine Nat.le_of_not_lt fun hlt => ?_
        have h := hG.out
        rw [show n + 2 - j = 0 + 1 by omega] at h
        simp [chairs_Tree.go] at h
      obtain ⟨outF, hoF⟩ : ∃ o, (chairs_Tree.row (j : Int) node l0 0 out q).1 = o := ⟨_, rfl⟩
      obtain ⟨qF, hqF⟩ : ∃ o, (chairs_Tree.row (j : Int) node l0 0 out q).2 = o := ⟨_, rfl⟩
      have hrow : chairs_Tree.row (j : Int) node (l0.drop 0) 0 out q = (outF, qF) := by rw [← hoF, ← hqF]; rfl
      have hg2 : chairs_Tree.go l0 (n + 2 - (j + 1)) ((j + 1 : Nat) : Int) outF qF = some res := by
        have h := hG.out
        rw [show n + 2 - j = (n + 2 - (j + 1)) + 1 by omega] at h
        simp only [chairs_Tree.go] at h
        rw [hoF, hqF] at h
        exact h
      have HG2 := Lib.hid hg2
      have HROW := Lib.hid hrow
      have hql2 : q.length ≤ 31 * j := by simpa using hql
      clear hoF hqF hg2 hrow hG hql
      go_wp2_with (go_at_call 61; refine (take_walk _ node q _ HT.out.q).mono ?_; rintro e w' ⟨rfl, hq', hb'⟩; have HT' := Lib.hid (HT.out.moved hb' hq'); clear hq' hb')
      go_loopw [43] (fun t w3 => ∃ (c : Nat) (out q : List Int), c ≤ n ∧ t = .int .i64 (c : Int) ∧ out.length = n ∧ q.length ≤ 31 * j + c ∧ TSt wb (wb.heap.size + 1) out q w3 ∧ Hid (chairs_Tree.row (j : Int) node (l0.drop c) c out q = (outF, qF))) (fun t _ => n - (intOf t).toNat)
      case atStart => exact ⟨0, _, _, by omega, rfl, HOL.out, by omega, HT'.out, HROW⟩
      case round =>
        obtain ⟨c, out2, q2, hc, rfl, hol2, hql3, hT2, hrow2⟩ := hrel
        have HT2 := Lib.hid hT2
        have HOL2 := Lib.hid hol2
        clear hT2 hol2 HROW
        obtain ⟨wp, rfl⟩ : ∃ wp : World, wp = wr := ⟨_, rfl⟩
        by_cases hlt : c < n
        · have d1 : decide ((c : Int) < (n : Int)) = true := decide_eq_true (by omega)
          have hcl : c < l0.length := by have := HN.out; omega
          obtain ⟨ad, e, hx⟩ := Kd.at_int (Kd.C_below (Kd.C_below (Kd.C_below HR.out HBA.out) HBB.out) HT2.out.below) (c : Int) (by omega) (by omega)
          subst e
          rw [Int.toNat_natCast] at hx
          obtain ⟨x, hxv⟩ : ∃ x, rd l0 (c : Int) = x := ⟨_, rfl⟩
          rw [hxv] at hx
          have hrow3 : (if x = (j : Int) then chairs_Tree.row (j : Int) node (l0.drop (c + 1)) (c + 1) (out2.set c node) (q2 ++ [(c : Int) + 1]) else chairs_Tree.row (j : Int) node (l0.drop (c + 1)) (c + 1) out2 q2) = (outF, qF) := by
            have h := hrow2.out
            rw [List.drop_eq_getElem_cons hcl] at h
            have e2 : l0[c] = x := by rw [← hxv]; simp [rd, List.getD_eq_getElem?_getD, hcl]
            rw [e2] at h
            simpa only [chairs_Tree.row] using h
          clear hxv hrow2
          by_cases hxj : x = (j : Int)
          · rw [if_pos hxj] at hrow3
            have d2 : (x == (j : Int)) = true := beq_iff_eq.2 hxj
            obtain ⟨u, hu⟩ := HT2.out.cell c (by rw [HOL2.out]; exact hlt)
            have hfu := HT2.out.frozen c
            have HROW3 := Lib.hid hrow3
            clear hrow3 hxj
            go_wp2_with (go_at_call 60; refine (put_walk (wb.heap.size + 1) ((c : Int) + 1) q2 _ (HT2.out.store c node).q (by omega)).mono ?_; rintro e w' ⟨rfl, hq', hb'⟩; have HT3 := Lib.hid ((HT2.out.store c node).moved hb' hq'); clear hq' hb')
            go_roundw
            case rel => exact ⟨c + 1, _, _, by omega, by go_num, by rw [List.length_set]; exact HOL2.out, by simp; omega, HT3.out, HROW3⟩
            case measure => simp [intOf]; omega
          · rw [if_neg hxj] at hrow3
            have d2 : (x == (j : Int)) = false := beq_eq_false_iff_ne.2 hxj
            have HROW3 := Lib.hid hrow3
            clear hrow3 hxj
            go_wp2
            go_roundw
            case rel => exact ⟨c + 1, _, _, by omega, by go_num, HOL2.out, by omega, HT2.out, HROW3⟩
            case measure => simp [intOf]; omega
        · obtain rfl : c = n := by omega
          have d1 : decide ((c : Int) < (c : Int)) = false := decide_eq_false (by omega)
          have h := hrow2.out
          rw [List.drop_of_length_le (by rw [HN.out]; exact Nat.le_refl _)] at h
          simp only [chairs_Tree.row, Prod.mk.injEq] at h
          obtain ⟨rfl, rfl⟩ := h
          clear hrow2
          go_wp2
          go_roundw
          case rel => exact ⟨j + 1, _, _, by omega, by go_num, HOL2.out, by omega, HT2.out, HG2⟩
          case measure => simp [intOf]; omega
set_option maxHeartbeats 400000 in
theorem tree_err1 (A0 : Option Addr) (c0 : Nat) (l0 : List Int) (w : World) (hr0 : Kd.C (Kd.int .i64) w A0 l0.length l0) (hc0 : l0.length ≤ c0) (e0 : Int) (h1 : chairs_same.f l0 = some e0) (he : e0 ≠ 0) :
    Calls Try.prog 38 #[.slice A0 l0.length c0] w fun e w' => e = .returned (.tuple #[.slice none 0 0, .int .i64 e0]) ∧ Below w.heap.size w w' := by
  have HR := Lib.hid hr0
  have HC := Lib.hid hc0
  have H1 := Lib.hid h1
  have d1 : (e0 != 0) = true := bne_iff_ne.2 he
  clear hr0 hc0 h1 he
  go_enter Try.func38, Try.ntmps38
  go_wp2_with (go_at_call 59; refine (chairs_same.calls A0 c0 l0 e0 _ HR.out HC.out H1.out).mono ?_; rintro e wa ⟨rfl, hba⟩; have HBA := Lib.hid hba; clear hba)
  go_ret2
  exact ⟨rfl, HBA.out⟩
set_option maxHeartbeats 400000 in
theorem tree_err2 (k : Nat) (A0 : Option Addr) (c0 : Nat) (l0 : List Int) (w : World) (hr0 : Kd.C (Kd.int .i64) w A0 l0.length l0) (hc0 : l0.length ≤ c0) (h1 : chairs_same.f l0 = some 0) (r : List Int) (h2 : chairs_sit.f k (l0.length : Int) l0 = some (r, false)) :
    Calls Try.prog 38 #[.slice A0 l0.length c0] w fun e w' => e = .returned (.tuple #[.slice none 0 0, .int .i64 10]) ∧ Below w.heap.size w w' := by
  have HR := Lib.hid hr0
  have HC := Lib.hid hc0
  have H1 := Lib.hid h1
  have H2 := Lib.hid h2
  clear hr0 hc0 h1 h2
  go_enter Try.func38, Try.ntmps38
  go_wp2_with (first | (go_at_call 59; refine (chairs_same.calls A0 c0 l0 0 _ HR.out HC.out H1.out).mono ?_; rintro e wa ⟨rfl, hba⟩; have HBA := Lib.hid hba; clear hba) | (go_at_call 54; refine (chairs_sit.calls k (l0.length : Int) A0 c0 l0 r false _ (Kd.C_below HR.out HBA.out) HC.out H2.out).mono ?_; rintro e wb ⟨v0, rfl, _, hbb⟩; have HBB := Lib.hid hbb; clear hbb))
  go_ret2
  exact ⟨rfl, HBA.out.trans (HBB.out.mono HBA.out.size)⟩
end Go.Proofs.Ytfopeenjpdaacaa.PC
end
section
namespace Go.Proofs.Ytfopeenjpdaacaa.PC
open Go.RowKit Go.Proofs.YtfopeenjpdaacaaW.PrintWords Go.Proofs.YtfopeenjpdaacaaW.PrintLast Go.Proofs.YtfopeenjpdaacaaW.PrintMore
attribute [local go_sem] max2_int min2_int max_two min_two max_three min_three max_four min_four   -- for this text's walks alone
set_option linter.unusedVariables false
set_option linter.unusedSimpArgs false
/-! ### chairs_Tree: function 38 -/
def chairs_Tree.f (k : Nat) (l0 : List Int) : Option (List Int × Int) :=
 (chairs_same.f l0).bind fun e => if e = 0 then ((chairs_sit.f k (l0.length : Int) l0).bind fun s => if s.2 = true then ((chairs_Tree.go l0 (l0.length + 2) 0 (List.replicate l0.length 0) [0]).bind fun out => some (out, 0)) else some ([], 10)) else some ([], e)
theorem chairs_Tree.mono : ∀ a0 k, LeO (chairs_Tree.f k a0) (chairs_Tree.f (k + 1) a0) := fun _ k =>
 LeO.bind (LeO.refl _) (fun _ => LeO.ite (LeO.bind (chairs_sit.mono _ _ k) (fun _ => LeO.refl _)) (LeO.refl _))
theorem chairs_Tree.calls (k : Nat) (A0 : Option Addr) (c0 : Nat) (l0 : List Int) (r1 : List Int) (r2 : Int) (w : World) (hr0 : Kd.C (Kd.int .i64) w A0 l0.length l0) (hc0 : l0.length ≤ c0) (h : chairs_Tree.f k l0 = some (r1, r2)) :
  Calls Try.prog 38 #[.slice A0 l0.length c0] w fun e w' => ∃ v0_ : Value, e = .returned (.tuple #[v0_, .int .i64 r2]) ∧ Kd.R (Kd.int .i64) 3 w' w.heap.size (fun _ => True) v0_ r1 ∧ Below w.heap.size w w' := by
 unfold chairs_Tree.f at h
 obtain ⟨e0, h1, h⟩ := Option.bind_eq_some_iff.1 h
 by_cases he : e0 = 0
 ·subst he
  simp only [if_true] at h
  obtain ⟨⟨s1, s2⟩, h2, h⟩ := Option.bind_eq_some_iff.1 h
  have hl : ¬ (l0.length : Int) = 0 ∧ ¬ (l0.length : Int) > 30 := by
   unfold chairs_same.f at h1
   by_cases c1 : (l0.length : Int) = 0
   ·rw [if_pos c1] at h1; cases h1
   ·rw [if_neg c1] at h1
    by_cases c2 : (l0.length : Int) > 30
    ·rw [if_pos c2] at h1; cases h1
    ·exact ⟨c1, c2⟩
  cases s2 with
  | true =>
   simp only [if_true] at h
   obtain ⟨res, h3, h⟩ := Option.bind_eq_some_iff.1 h
   have h' := Option.some.inj h
   obtain ⟨rfl, rfl⟩ := Prod.mk.inj h'
   exact tree_walk k A0 c0 l0 w hr0 hc0 h1 s1 h2 (by omega) (by omega) res h3
  | false =>
   rw [if_neg (by simp)] at h
   have h' := Option.some.inj h
   obtain ⟨rfl, rfl⟩ := Prod.mk.inj h'
   exact (tree_err2 k A0 c0 l0 w hr0 hc0 h1 s1 h2).mono fun e w' ⟨a, b⟩ => ⟨_, a, Kd.R_nil _ _ _ _ _, b⟩
 ·rw [if_neg he] at h
  have h' := Option.some.inj h
  obtain ⟨rfl, rfl⟩ := Prod.mk.inj h'
  exact (tree_err1 A0 c0 l0 w hr0 hc0 e0 h1 he).mono fun e w' ⟨a, b⟩ => ⟨_, a, Kd.R_nil _ _ _ _ _, b⟩
end Go.Proofs.Ytfopeenjpdaacaa.PC
end
section
namespace Go.Proofs.Ytfopeenjpdaacaa.PC
open Go.RowKit Go.Proofs.YtfopeenjpdaacaaW.PrintWords Go.Proofs.YtfopeenjpdaacaaW.PrintLast Go.Proofs.YtfopeenjpdaacaaW.PrintMore
attribute [local go_sem] max2_int min2_int max_two min_two max_three min_three max_four min_four   -- for this text's walks alone
set_option linter.unusedVariables false
set_option linter.unusedSimpArgs false
/-! ### pomadelaw03_alive: function 17 -/
/-- the closed example is true (its walk below runs with its known answers) -/
def pomadelaw03_alive.f : Option (Bool) := some true
section
theorem lit_C (W : World) (xs : List Int) (hl : xs.length ≤ 1000) : Kd.C (Kd.int .i64) (W.alloc (.cells (nums .i64 xs).toArray 3)) (some ⟨W.heap.size, 0, none⟩) xs.length xs := by
 have h := own_lit W 0 3 .i64 xs (Nat.zero_le _) (by omega)
 have hR : Kd.R (Kd.int .i64) 3 (W.alloc (.cells (nums .i64 xs).toArray 3)) 0 (fun _ => True) (.slice (some ⟨W.heap.size, 0, none⟩) xs.length xs.length) xs := Kd.R_of_own h (fun _ _ => trivial)
 obtain ⟨A, c, e, _, hC⟩ := Kd.R_reads hR
 injection e with e1 e2 e3
 subst e1
 exact hC
theorem step_below {w w1 w2 : World} (h : Below w.heap.size w w1) (hb : Below w1.heap.size w1 w2) : Below w.heap.size w w2 := h.trans (hb.mono h.size)
theorem spread3 : chairs_Spread.f 3 = some ([6, 6, 3, 1], 0) := by
 have h := MSpread.row_of (n := 2) (by omega)
 unfold chairs_Spread.f
 rw [if_neg (by omega)]
 show some ((chairs_Spread.row (chairs_Spread.known 2) (2 + 1)).map (fun x : Nat => (x : Int)), (0 : Int)) = _
 rw [h]
 rfl
theorem alive_h1 (W : World) : Calls Try.prog 31 #[.int .i64 3, .slice (some ⟨W.heap.size, 0, none⟩) 3 3] (W.alloc (.cells #[.int .i64 0, .int .i64 0, .int .i64 1] 3)) fun e w' => ∃ A c, e = .returned (.tuple #[.slice A 3 c, .int .i64 0]) ∧ Hid (3 ≤ c ∧ Kd.C (Kd.int .i64) w' A 3 [0, 1, 2]) ∧ Hid (Below W.heap.size W w') :=
 (chairs_Sit.calls 100 3 _ 3 [0, 0, 1] [0, 1, 2] 0 _ (lit_C W [0, 0, 1] (by simp)) (by simp) (by decide +kernel)).mono fun e w' ⟨v0, he, hr, hb⟩ => by
  obtain ⟨A, c, rfl, hc, hC⟩ := Kd.R_reads hr
  exact ⟨A, c, he, Lib.hid ⟨hc, hC⟩, Lib.hid (((Below.refl _ W).alloc (Nat.le_refl _) _).trans (hb.mono (by simp)))⟩
theorem alive_h2 (W : World) : Calls Try.prog 22 #[.int .i64 3, .slice (some ⟨W.heap.size, 0, none⟩) 3 3] (W.alloc (.cells #[.int .i64 1, .int .i64 1, .int .i64 2] 3)) fun e w' => e = .returned (.tuple #[.int .i64 3, .int .i64 0]) ∧ Hid (Below W.heap.size W w') :=
 (chairs_Turn.calls 100 3 _ 3 [1, 1, 2] 3 0 _ (lit_C W [1, 1, 2] (by simp)) (by simp) (by decide +kernel)).mono fun e w' ⟨he, hb⟩ => ⟨he, Lib.hid (((Below.refl _ W).alloc (Nat.le_refl _) _).trans (hb.mono (by simp)))⟩
theorem alive_h3 (W : World) : Calls Try.prog 18 #[.int .i64 3, .int .i64 3] W fun e w' => e = .returned (.tuple #[.int .i64 16, .int .i64 0]) ∧ Hid (Below W.heap.size W w') :=
 (chairs_Count.calls 100 3 3 16 0 _ (by decide +kernel)).mono fun e w' ⟨he, hb⟩ => ⟨he, Lib.hid (hb.below)⟩
theorem alive_h4 (W : World) : Calls Try.prog 20 #[.slice (some ⟨W.heap.size, 0, none⟩) 3 3] (W.alloc (.cells #[.int .i64 0, .int .i64 1, .int .i64 2] 3)) fun e w' => e = .returned (.tuple #[.int .i64 6, .int .i64 0]) ∧ Hid (Below W.heap.size W w') :=
 (chairs_Ways.calls 100 _ 3 [0, 1, 2] 6 0 _ (lit_C W [0, 1, 2] (by simp)) (by simp) (by decide +kernel)).mono fun e w' ⟨he, hb⟩ => ⟨he, Lib.hid (((Below.refl _ W).alloc (Nat.le_refl _) _).trans (hb.mono (by simp)))⟩
theorem alive_h5 (W : World) : Calls Try.prog 38 #[.slice (some ⟨W.heap.size, 0, none⟩) 3 3] (W.alloc (.cells #[.int .i64 0, .int .i64 0, .int .i64 1] 3)) fun e w' => ∃ A c, e = .returned (.tuple #[.slice A 3 c, .int .i64 0]) ∧ Hid (3 ≤ c ∧ Kd.C (Kd.int .i64) w' A 3 [0, 0, 1]) ∧ Hid (Below W.heap.size W w') :=
 (chairs_Tree.calls 100 _ 3 [0, 0, 1] [0, 0, 1] 0 _ (lit_C W [0, 0, 1] (by simp)) (by simp) (by decide +kernel)).mono fun e w' ⟨v0, he, hr, hb⟩ => by
  obtain ⟨A, c, rfl, hc, hC⟩ := Kd.R_reads hr
  exact ⟨A, c, he, Lib.hid ⟨hc, hC⟩, Lib.hid (((Below.refl _ W).alloc (Nat.le_refl _) _).trans (hb.mono (by simp)))⟩
theorem alive_h6 (W : World) : Calls Try.prog 24 #[.int .i64 3] W fun e w' => ∃ A c, e = .returned (.tuple #[.slice A 4 c, .int .i64 0]) ∧ Hid (4 ≤ c ∧ Kd.C (Kd.int .i64) w' A 4 [6, 6, 3, 1]) ∧ Hid (Below W.heap.size W w') :=
 (chairs_Spread.calls 3 [6, 6, 3, 1] 0 _ spread3).mono fun e w' ⟨v0, he, hr, hb⟩ => by
  obtain ⟨A, c, rfl, hc, hC⟩ := Kd.R_reads hr
  exact ⟨A, c, he, Lib.hid ⟨hc, hC⟩, Lib.hid (hb)⟩
theorem alive_h7 (W : World) (A : Option Addr) (c : Nat) (hc : 3 ≤ c ∧ Kd.C (Kd.int .i64) W A 3 [0, 1, 2]) : Calls Try.prog 26 #[.slice A 3 c, .slice (some ⟨W.heap.size, 0, none⟩) 3 3] (W.alloc (.cells #[.int .i64 0, .int .i64 1, .int .i64 2] 3)) fun e w' => e = .returned (.bool true) ∧ Hid (Below W.heap.size W w') :=
 (pomadelaw03_same.calls 100 A c [0, 1, 2] _ 3 [0, 1, 2] true _ (Kd.C_alloc hc.2 _) hc.1 (lit_C W [0, 1, 2] (by simp)) (by simp) (by decide +kernel)).mono fun e w' ⟨he, hb⟩ => ⟨he, Lib.hid (((Below.refl _ W).alloc (Nat.le_refl _) _).trans (hb.below.mono (by simp)))⟩
theorem alive_h8 (W : World) (A : Option Addr) (c : Nat) (hc : 3 ≤ c ∧ Kd.C (Kd.int .i64) W A 3 [0, 0, 1]) : Calls Try.prog 26 #[.slice A 3 c, .slice (some ⟨W.heap.size, 0, none⟩) 3 3] (W.alloc (.cells #[.int .i64 0, .int .i64 0, .int .i64 1] 3)) fun e w' => e = .returned (.bool true) ∧ Hid (Below W.heap.size W w') :=
 (pomadelaw03_same.calls 100 A c [0, 0, 1] _ 3 [0, 0, 1] true _ (Kd.C_alloc hc.2 _) hc.1 (lit_C W [0, 0, 1] (by simp)) (by simp) (by decide +kernel)).mono fun e w' ⟨he, hb⟩ => ⟨he, Lib.hid (((Below.refl _ W).alloc (Nat.le_refl _) _).trans (hb.below.mono (by simp)))⟩
theorem alive_h9 (W : World) (A : Option Addr) (c : Nat) (hc : 4 ≤ c ∧ Kd.C (Kd.int .i64) W A 4 [6, 6, 3, 1]) : Calls Try.prog 26 #[.slice A 4 c, .slice (some ⟨W.heap.size, 0, none⟩) 4 4] (W.alloc (.cells #[.int .i64 6, .int .i64 6, .int .i64 3, .int .i64 1] 3)) fun e w' => e = .returned (.bool true) ∧ Hid (Below W.heap.size W w') :=
 (pomadelaw03_same.calls 100 A c [6, 6, 3, 1] _ 4 [6, 6, 3, 1] true _ (Kd.C_alloc hc.2 _) hc.1 (lit_C W [6, 6, 3, 1] (by simp)) (by simp) (by decide +kernel)).mono fun e w' ⟨he, hb⟩ => ⟨he, Lib.hid (((Below.refl _ W).alloc (Nat.le_refl _) _).trans (hb.below.mono (by simp)))⟩
set_option maxRecDepth 100000 in
set_option maxHeartbeats 4000000 in
theorem pomadelaw03_alive.calls  (r : Bool) (w : World) (h : pomadelaw03_alive.f  = some r) :
  Calls Try.prog 17 #[] w fun e w' => e = .returned (.bool r) ∧ Below w.heap.size w w' := by
 obtain rfl : r = true := (Option.some.inj h).symm
 clear h
 go_enter Try.func17, Try.ntmps17
 go_wp2_with fail
 refine (alive_h1 _).mono ?_
 rintro e w1 ⟨A1, c1, rfl, C1, B1⟩
 go_wp2_with fail
 refine (alive_h2 _).mono ?_
 rintro e w2 ⟨rfl, B2⟩
 go_wp2_with fail
 refine (alive_h3 _).mono ?_
 rintro e w3 ⟨rfl, B3⟩
 go_wp2_with fail
 refine (alive_h4 _).mono ?_
 rintro e w4 ⟨rfl, B4⟩
 go_wp2_with fail
 refine (alive_h5 _).mono ?_
 rintro e w5 ⟨A5, c5, rfl, C5, B5⟩
 go_wp2_with fail
 refine (alive_h6 _).mono ?_
 rintro e w6 ⟨A6, c6, rfl, C6, B6⟩
 have M26 := Lib.hid (step_below (step_below (step_below (step_below B2.out B3.out) B4.out) B5.out) B6.out)
 go_wp2_with fail
 refine (alive_h7 _ A1 c1 ⟨C1.out.1, Kd.C_below C1.out.2 M26.out⟩).mono ?_
 rintro e w7 ⟨rfl, B7⟩
 have M67 := Lib.hid (step_below B6.out B7.out)
 go_wp2_with fail
 refine (alive_h8 _ A5 c5 ⟨C5.out.1, Kd.C_below C5.out.2 M67.out⟩).mono ?_
 rintro e w8 ⟨rfl, B8⟩
 have M78 := Lib.hid (step_below B7.out B8.out)
 go_wp2_with fail
 refine (alive_h9 _ A6 c6 ⟨C6.out.1, Kd.C_below C6.out.2 M78.out⟩).mono ?_
 rintro e w9 ⟨rfl, B9⟩
 go_wp2_with fail
 go_ret
 exact ⟨rfl, step_below (step_below B1.out M26.out) (step_below M78.out B9.out)⟩
end
end Go.Proofs.Ytfopeenjpdaacaa.PC
end
section
namespace Go.Proofs.Ytfopeenjpdaacaa.PC
open Go.RowKit Go.Proofs.YtfopeenjpdaacaaW.PrintWords Go.Proofs.YtfopeenjpdaacaaW.PrintLast Go.Proofs.YtfopeenjpdaacaaW.PrintMore
attribute [local go_sem] max2_int min2_int max_two min_two max_three min_three max_four min_four   -- for this text's walks alone
set_option linter.unusedVariables false
set_option linter.unusedSimpArgs false
/-! ### pomadelaw03_ChairsRanks: function 14 -/
def pomadelaw03_ChairsRanks.j0 : Nat → Int → Int → Bool → Option (Bool)
 | 0, _, _, _ => none
 | k + 1, x1, x2, x34 => if x34 = true then (some false) else ((chairs_At.f k x1 x2).bind fun bt640 => ((pomaderef03_At.f k x1 x2).bind fun bt644 => ((pomadelaw03_same.f k bt640.1 bt644.1).bind fun t648 => (if t648 = true then (if bt640.2 = bt644.2 then ((pomadelaw03_alive.f).bind fun t649 => (some t649)) else (some false)) else (some false)))))
def pomadelaw03_ChairsRanks.f (k : Nat) (l0 : List Int) (a1 : Int) (a2 : Int) : Option (Bool) := if (l0.length : Int) > 60 then ((pomadelaw03_alive.f).bind fun t635 => (some t635)) else ((chairs_Rank.f k l0).bind fun bt636 => ((pomaderef03_Rank.f k l0).bind fun bt638 => (if bt636.1 = bt638.1 then (pomadelaw03_ChairsRanks.j0 k a1 a2 (bt636.2 != bt638.2)) else (pomadelaw03_ChairsRanks.j0 k a1 a2 true))))
theorem pomadelaw03_ChairsRanks.mono_l : ∀ k, (∀ y0 y1 y2, LeO (pomadelaw03_ChairsRanks.j0 k y0 y1 y2) (pomadelaw03_ChairsRanks.j0 (k + 1) y0 y1 y2))
 | 0 => fun _ _ _ r h => by simp [pomadelaw03_ChairsRanks.j0] at h
 | k + 1 => by
  have ih0 := pomadelaw03_ChairsRanks.mono_l k
  ·intro y0 y1 y2
   unfold pomadelaw03_ChairsRanks.j0
   repeat' first
   | (with_reducible exact ih0 _ _ _)
   | (with_reducible exact chairs_At.mono _ _ _)
   | (with_reducible exact chairs_Rank.mono _ _)
   | (with_reducible exact pomadelaw03_same.mono _ _ _)
   | (with_reducible exact pomaderef03_At.mono _ _ _)
   | (with_reducible exact pomaderef03_Rank.mono _ _)
   | (with_reducible exact LeO.refl _)
   | (with_reducible exact LeO.none _)
   | (with_reducible refine LeO.ite ?_ ?_)
   | (with_reducible refine LeO.bind ?_ (fun _ => ?_))
   | exact ih0 _ _ _
   | exact chairs_At.mono _ _ _
   | exact chairs_Rank.mono _ _
   | exact pomadelaw03_same.mono _ _ _
   | exact pomaderef03_At.mono _ _ _
   | exact pomaderef03_Rank.mono _ _
   | exact LeO.none _
   | refine LeO.ite ?_ ?_
   | refine LeO.bind ?_ (fun _ => ?_)
theorem pomadelaw03_ChairsRanks.mono : ∀ a0 a1 a2 k, LeO (pomadelaw03_ChairsRanks.f k a0 a1 a2) (pomadelaw03_ChairsRanks.f (k + 1) a0 a1 a2) := by
 intro a0 a1 a2 k
 have ih0 := pomadelaw03_ChairsRanks.mono_l k
 unfold pomadelaw03_ChairsRanks.f
 repeat' first
   | (with_reducible exact ih0 _ _ _)
   | (with_reducible exact chairs_At.mono _ _ _)
   | (with_reducible exact chairs_Rank.mono _ _)
   | (with_reducible exact pomadelaw03_same.mono _ _ _)
   | (with_reducible exact pomaderef03_At.mono _ _ _)
   | (with_reducible exact pomaderef03_Rank.mono _ _)
   | (with_reducible exact LeO.refl _)
   | (with_reducible exact LeO.none _)
   | (with_reducible refine LeO.ite ?_ ?_)
   | (with_reducible refine LeO.bind ?_ (fun _ => ?_))
   | exact ih0 _ _ _
   | exact chairs_At.mono _ _ _
   | exact chairs_Rank.mono _ _
   | exact pomadelaw03_same.mono _ _ _
   | exact pomaderef03_At.mono _ _ _
   | exact pomaderef03_Rank.mono _ _
   | exact LeO.none _
   | refine LeO.ite ?_ ?_
   | refine LeO.bind ?_ (fun _ => ?_)
set_option maxHeartbeats 8000000 in
set_option maxRecDepth 100000 in
theorem pomadelaw03_ChairsRanks.calls (k : Nat) (A0 : Option Addr) (c0 : Nat) (l0 : List Int) (a1 : Int) (a2 : Int) (r : Bool) (w : World) (hr0 : Kd.C (Kd.int .i64) w A0 l0.length l0) (hc0 : l0.length ≤ c0) (h : pomadelaw03_ChairsRanks.f k l0 a1 a2 = some r) :
  Calls Try.prog 14 #[.slice A0 l0.length c0, .int .i64 a1, .int .i64 a2] w fun e w' => e = .returned (.bool r) ∧ Below w.heap.size w w' := by
 have HR0 := Aside0.mk hr0
 have HC0 := Aside0.mk hc0
 clear hr0 hc0
 have HB := Aside0.mk (Below.refl w.heap.size w)
 have H : (if (l0.length : Int) > 60 then ((pomadelaw03_alive.f).bind fun t635 => (some t635)) else ((chairs_Rank.f k l0).bind fun bt636 => ((pomaderef03_Rank.f k l0).bind fun bt638 => (if bt636.1 = bt638.1 then (pomadelaw03_ChairsRanks.j0 k a1 a2 (bt636.2 != bt638.2)) else (pomadelaw03_ChairsRanks.j0 k a1 a2 true))))) = some r := h
 clear h
 by_cases c4 : (l0.length : Int) > 60
 ·rw [if_pos c4] at H
  have c4b0 : decide (60 < (l0.length : Int)) = true := decide_eq_true c4
  have c4b1 : decide (60 < l0.length) = true := decide_eq_true (by omega)
  clear c4
  replace H := Option.bind_eq_some_iff.mp H
  obtain ⟨t635, A50, H⟩ := H
  replace H : (some t635) = some r := H
  have A5 := Aside0.mk A50
  clear A50
  obtain rfl := Option.some.inj H
  go_enter Try.func14, Try.ntmps14
  go_wp2_with (first | ((with_reducible refine gate_callee (f := 17) rfl ?_); refine goesL_ (some 16) rfl rfl Try.func17 (by kernel_rfl) rfl #[] rfl (by (try simp only [List.map_toArray, List.map_cons, List.map_nil]); first | done | rfl | (simp only [List.length_drop, List.length_take]; rfl)) ?_; (with_reducible refine (pomadelaw03_alive.calls  t635 _ A5.out).mono ?_); rintro e w6 ⟨rfl, hb⟩; refine ⟨_, rfl, ?_⟩; have n0_ := Aside0.mk (below_step (by repeat (first | (with_reducible first | exact HB.out | apply below_alloc | apply pw_below_drewN | apply below_drew1) | exact HB.out)) hb); clear HB; have HB := n0_; clear n0_; (try clear hb); (try clear hb2); (try clear hk); (try clear hi)))
  go_ret
  exact ⟨by first | rfl | (simp [errW_none, errW_some] <;> rfl) | (simp [*, errW_none, errW_some] <;> rfl), by repeat (first | (with_reducible first | exact HB.out | apply below_alloc | apply pw_below_drewN | apply below_drew1) | exact HB.out)⟩
 ·rw [if_neg c4] at H
  have c4b0 : decide (60 < (l0.length : Int)) = false := decide_eq_false c4
  have c4b1 : decide (60 < l0.length) = false := decide_eq_false (by omega)
  clear c4
  replace H := Option.bind_eq_some_iff.mp H
  obtain ⟨⟨t636, t637⟩, A70, H⟩ := H
  replace H : ((pomaderef03_Rank.f k l0).bind fun bt638 => (if t636 = bt638.1 then (pomadelaw03_ChairsRanks.j0 k a1 a2 (t637 != bt638.2)) else (pomadelaw03_ChairsRanks.j0 k a1 a2 true))) = some r := H
  have A7 := Aside0.mk A70
  clear A70
  replace H := Option.bind_eq_some_iff.mp H
  obtain ⟨⟨t638, t639⟩, A80, H⟩ := H
  replace H : (if t636 = t638 then (pomadelaw03_ChairsRanks.j0 k a1 a2 (t637 != t639)) else (pomadelaw03_ChairsRanks.j0 k a1 a2 true)) = some r := H
  have A8 := Aside0.mk A80
  clear A80
  have HC9 := Aside0.mk H
  clear H
  go_enter Try.func14, Try.ntmps14
  go_upto_region 5 with (first | ((with_reducible refine gate_callee (f := 45) rfl ?_); refine goesL_ (some 19) rfl rfl Try.func45 (by kernel_rfl) rfl #[.slice A0 l0.length c0] rfl (by (try simp only [List.map_toArray, List.map_cons, List.map_nil]); first | done | rfl | (simp only [List.length_drop, List.length_take]; rfl)) ?_; (with_reducible refine (chairs_Rank.calls k _ _ l0 t636 t637 _ ?side1 ?side2 A7.out).mono ?_); (case side1 => repeat (first | exact HR0.out | (with_reducible refine Kd.C_alloc ?_ _) | (with_reducible refine Kd.C_drewN ?_ _) | (with_reducible refine Kd.C_drew ?_))); (case side2 => exact HC0.out); rintro e w10 ⟨rfl, hb⟩; refine ⟨_, rfl, ?_⟩; have n0_ := Aside0.mk (below_step (by repeat (first | (with_reducible first | exact HB.out | apply below_alloc | apply pw_below_drewN | apply below_drew1) | exact HB.out)) hb); clear HB; have HB := n0_; clear n0_; (try clear hb); (try clear hb2); (try clear hk); (try clear hi)) | ((with_reducible refine gate_callee (f := 46) rfl ?_); refine goesL_ (some 24) rfl rfl Try.func46 (by kernel_rfl) rfl #[.slice A0 l0.length c0] rfl (by (try simp only [List.map_toArray, List.map_cons, List.map_nil]); first | done | rfl | (simp only [List.length_drop, List.length_take]; rfl)) ?_; (with_reducible refine (pomaderef03_Rank.calls k _ _ l0 t638 t639 _ ?side1 ?side2 A8.out).mono ?_); (case side1 => repeat (first | exact (Kd.C_below HR0.out HB.out) | (with_reducible refine Kd.C_alloc ?_ _) | (with_reducible refine Kd.C_drewN ?_ _) | (with_reducible refine Kd.C_drew ?_))); (case side2 => exact HC0.out); rintro e w11 ⟨rfl, hb⟩; refine ⟨_, rfl, ?_⟩; have n0_ := Aside0.mk (below_step (by repeat (first | (with_reducible first | exact HB.out | apply below_alloc | apply pw_below_drewN | apply below_drew1) | exact HB.out)) hb); clear HB; have HB := n0_; clear n0_; (try clear hb); (try clear hb2); (try clear hk); (try clear hi)))
  (try simp only [Act.put, List.setIfInBounds_toArray, List.set_cons_zero, List.set_cons_succ])
  go_cut [34] (fun v34 wc => ∃ (kq : Nat) (x34_8 : Bool), v34 = .bool x34_8 ∧ Aside0 (pomadelaw03_ChairsRanks.j0 kq a1 a2 x34_8 = some r) ∧ Aside0 (kq ≤ k) ∧ Aside0 (Below w.heap.size w wc))
  case first =>
   have H := HC9.out
   clear HC9
   by_cases c12 : t636 = t638
   ·rw [if_pos c12] at H
    have c12b0 : (t636 == t638) = true := beq_iff_eq.mpr c12
    have c12b1 : (t636 != t638) = false := bne_eq_false_iff_eq.mpr c12
    clear c12
    (first | rw [c12b0] | (simp only [i64_w, i32_w]; rw [c12b0]) | skip)
    have H' := Aside0.mk H
    clear H
    go_wp2
    go_meet
    case rel => exact ⟨_, ((t637 != t639)), (by first | rfl | (simp; done) | (simp [*]; done)), H', ⟨by first | omega | exact Nat.le_refl _⟩, ⟨by repeat (first | (with_reducible first | exact HB.out | apply below_alloc | apply pw_below_drewN | apply below_drew1) | exact HB.out)⟩⟩
   ·rw [if_neg c12] at H
    have c12b0 : (t636 == t638) = false := beq_eq_false_iff_ne.mpr c12
    have c12b1 : (t636 != t638) = true := bne_iff_ne.mpr c12
    (first | rw [c12b0] | (simp only [i64_w, i32_w]; rw [c12b0]) | skip)
    have H' := Aside0.mk H
    clear H
    go_wp2
    go_meet
    case rel => exact ⟨_, (true), (by first | rfl | (simp; done) | (simp [*]; done)), H', ⟨by first | omega | exact Nat.le_refl _⟩, ⟨by repeat (first | (with_reducible first | exact HB.out | apply below_alloc | apply pw_below_drewN | apply below_drew1) | exact HB.out)⟩⟩
  case rest =>
   clear HC9
   try clear c1
   try clear p2
   try clear c4
   try clear c4b0
   try clear c4b1
   try clear c12
   try clear c12b0
   try clear c12b1
   obtain ⟨kq, x34_8, rfl, HA, HJ8, HB⟩ := hcut
   cases kq with
   | zero => exact absurd HA.out (by simp [pomadelaw03_ChairsRanks.j0])
   | succ kj8 =>
    have H := HA.out
    clear HA
    simp only [pomadelaw03_ChairsRanks.j0] at H
    by_cases c13 : x34_8 = true
    ·subst c13
     have H1 : (some false) = some r := by rw [if_pos rfl] at H; exact H
     clear H
     have H := H1
     clear H1
     obtain rfl := Option.some.inj H
     go_wp2
     go_ret
     exact ⟨by first | rfl | (simp [errW_none, errW_some] <;> rfl) | (simp [*, errW_none, errW_some] <;> rfl), by repeat (first | (with_reducible first | exact HB.out | apply below_alloc | apply pw_below_drewN | apply below_drew1) | exact HB.out)⟩
    ·replace c13 := Bool.eq_false_iff.mpr c13
     subst c13
     have H1 : ((chairs_At.f kj8 a1 a2).bind fun bt640 => ((pomaderef03_At.f kj8 a1 a2).bind fun bt644 => ((pomadelaw03_same.f kj8 bt640.1 bt644.1).bind fun t648 => (if t648 = true then (if bt640.2 = bt644.2 then ((pomadelaw03_alive.f).bind fun t649 => (some t649)) else (some false)) else (some false))))) = some r := by rw [if_neg (show ¬ (false = true) by decide)] at H; exact H
     clear H
     have H := H1
     clear H1
     replace H := Option.bind_eq_some_iff.mp H
     obtain ⟨⟨t640, t641⟩, A140, H⟩ := H
     replace H : ((pomaderef03_At.f kj8 a1 a2).bind fun bt644 => ((pomadelaw03_same.f kj8 t640 bt644.1).bind fun t648 => (if t648 = true then (if t641 = bt644.2 then ((pomadelaw03_alive.f).bind fun t649 => (some t649)) else (some false)) else (some false)))) = some r := H
     have A14 := Aside0.mk A140
     clear A140
     replace H := Option.bind_eq_some_iff.mp H
     obtain ⟨⟨t644, t645⟩, A150, H⟩ := H
     replace H : ((pomadelaw03_same.f kj8 t640 t644).bind fun t648 => (if t648 = true then (if t641 = t645 then ((pomadelaw03_alive.f).bind fun t649 => (some t649)) else (some false)) else (some false))) = some r := H
     have A15 := Aside0.mk A150
     clear A150
     replace H := Option.bind_eq_some_iff.mp H
     obtain ⟨t648, A160, H⟩ := H
     replace H : (if t648 = true then (if t641 = t645 then ((pomadelaw03_alive.f).bind fun t649 => (some t649)) else (some false)) else (some false)) = some r := H
     have A16 := Aside0.mk A160
     clear A160
     by_cases c17 : t648 = true
     ·subst c17
      have H1 : (if t641 = t645 then ((pomadelaw03_alive.f).bind fun t649 => (some t649)) else (some false)) = some r := by rw [if_pos rfl] at H; exact H
      clear H
      have H := H1
      clear H1
      by_cases c18 : t641 = t645
      ·rw [if_pos c18] at H
       have c18b0 : (t641 == t645) = true := beq_iff_eq.mpr c18
       have c18b1 : (t641 != t645) = false := bne_eq_false_iff_eq.mpr c18
       clear c18
       replace H := Option.bind_eq_some_iff.mp H
       obtain ⟨t649, A190, H⟩ := H
       replace H : (some t649) = some r := H
       have A19 := Aside0.mk A190
       clear A190
       obtain rfl := Option.some.inj H
       go_wp2_with (first | ((with_reducible refine gate_callee (f := 47) rfl ?_); refine goesL_ (some 38) rfl rfl Try.func47 (by kernel_rfl) rfl #[.int .i64 a1, .int .i64 a2] rfl (by (try simp only [List.map_toArray, List.map_cons, List.map_nil]); first | done | rfl | (simp only [List.length_drop, List.length_take]; rfl)) ?_; (with_reducible refine (chairs_At.calls kj8 a1 a2 t640 t641 _ A14.out).mono ?_); rintro e w20 ⟨v642, rfl, ho0, hb⟩; refine ⟨_, rfl, ?_⟩; have n0_ := Aside0.mk (Kd.R_lower ho0 (below_size (by repeat (first | (with_reducible first | exact HB.out | apply below_alloc | apply pw_below_drewN | apply below_drew1) | exact HB.out)))); have n1_ := Aside0.mk (below_step (by repeat (first | (with_reducible first | exact HB.out | apply below_alloc | apply pw_below_drewN | apply below_drew1) | exact HB.out)) hb); clear HB; have HO643 := n0_; have HB := n1_; clear n0_ n1_; (try clear hb); (try clear hb2); (try clear hk); (try clear hi); (try clear ho0)) | ((with_reducible refine gate_callee (f := 48) rfl ?_); refine goesL_ (some 44) rfl rfl Try.func48 (by kernel_rfl) rfl #[.int .i64 a1, .int .i64 a2] rfl (by (try simp only [List.map_toArray, List.map_cons, List.map_nil]); first | done | rfl | (simp only [List.length_drop, List.length_take]; rfl)) ?_; (with_reducible refine (pomaderef03_At.calls kj8 a1 a2 t644 t645 _ A15.out).mono ?_); rintro e w21 ⟨v646, rfl, ho0, hb⟩; refine ⟨_, rfl, ?_⟩; have n0_ := Aside0.mk (Kd.R_elder' (by (with_reducible repeat (first | apply Kd.R_alloc | apply Kd.R_drewN | apply Kd.R_drew)); exact HO643.out) (Kd.R_base ho0) hb); have n1_ := Aside0.mk (Kd.R_lower (Kd.R_new' ho0 (Kd.R_lt (by (with_reducible repeat (first | apply Kd.R_alloc | apply Kd.R_drewN | apply Kd.R_drew)); exact HO643.out))) (below_size (by repeat (first | (with_reducible first | exact HB.out | apply below_alloc | apply pw_below_drewN | apply below_drew1) | exact HB.out)))); have n2_ := Aside0.mk (below_step (by repeat (first | (with_reducible first | exact HB.out | apply below_alloc | apply pw_below_drewN | apply below_drew1) | exact HB.out)) hb); clear HO643; clear HB; have HO643 := n0_; have HO647 := n1_; have HB := n2_; clear n0_ n1_ n2_; (try clear hb); (try clear hb2); (try clear hk); (try clear hi); (try clear ho0); obtain ⟨Ao22, co22, eo22⟩ := Kd.R_slice HO643.out; subst eo22; obtain ⟨Ao23, co23, eo23⟩ := Kd.R_slice HO647.out; subst eo23) | ((with_reducible refine gate_callee (f := 26) rfl ?_); refine goesL_ (some 49) rfl rfl Try.func26 (by kernel_rfl) rfl #[.slice Ao22 t640.length co22, .slice Ao23 t644.length co23] rfl (by (try simp only [List.map_toArray, List.map_cons, List.map_nil]); first | done | rfl | (simp only [List.length_drop, List.length_take]; rfl)) ?_; (with_reducible refine (pomadelaw03_same.calls kj8 _ _ t640 _ _ t644 true _ ?side1 ?side2 ?side3 ?side4 A16.out).mono ?_); (case side1 => repeat (first | exact (Kd.R_reads' HO643.out).2.2 | (with_reducible refine Kd.C_alloc ?_ _) | (with_reducible refine Kd.C_drewN ?_ _) | (with_reducible refine Kd.C_drew ?_))); (case side2 => exact (Kd.R_reads' HO643.out).2.1); (case side3 => repeat (first | exact (Kd.R_reads' HO647.out).2.2 | (with_reducible refine Kd.C_alloc ?_ _) | (with_reducible refine Kd.C_drewN ?_ _) | (with_reducible refine Kd.C_drew ?_))); (case side4 => exact (Kd.R_reads' HO647.out).2.1); rintro e w' ⟨rfl, ⟨nd, rfl⟩⟩; refine ⟨_, rfl, ?_⟩) | (go_at_call 17; (with_reducible refine (pomadelaw03_alive.calls  t649 _ A19.out).mono ?_); rintro e w24 ⟨rfl, hb⟩; have n0_ := Aside0.mk (Kd.R_below (by (with_reducible repeat (first | apply Kd.R_alloc | apply Kd.R_drewN | apply Kd.R_drew)); exact HO643.out) hb); have n1_ := Aside0.mk (Kd.R_below (by (with_reducible repeat (first | apply Kd.R_alloc | apply Kd.R_drewN | apply Kd.R_drew)); exact HO647.out) hb); have n2_ := Aside0.mk (below_step (by repeat (first | (with_reducible first | exact HB.out | apply below_alloc | apply pw_below_drewN | apply below_drew1) | exact HB.out)) hb); clear HO643; clear HO647; clear HB; have HO643 := n0_; have HO647 := n1_; have HB := n2_; clear n0_ n1_ n2_; (try clear hb); (try clear hb2); (try clear hk); (try clear hi)))
       go_ret
       exact ⟨by first | rfl | (simp [errW_none, errW_some] <;> rfl) | (simp [*, errW_none, errW_some] <;> rfl), by repeat (first | (with_reducible first | exact HB.out | apply below_alloc | apply pw_below_drewN | apply below_drew1) | exact HB.out)⟩
      ·rw [if_neg c18] at H
       have c18b0 : (t641 == t645) = false := beq_eq_false_iff_ne.mpr c18
       have c18b1 : (t641 != t645) = true := bne_iff_ne.mpr c18
       obtain rfl := Option.some.inj H
       go_wp2_with (first | ((with_reducible refine gate_callee (f := 47) rfl ?_); refine goesL_ (some 38) rfl rfl Try.func47 (by kernel_rfl) rfl #[.int .i64 a1, .int .i64 a2] rfl (by (try simp only [List.map_toArray, List.map_cons, List.map_nil]); first | done | rfl | (simp only [List.length_drop, List.length_take]; rfl)) ?_; (with_reducible refine (chairs_At.calls kj8 a1 a2 t640 t641 _ A14.out).mono ?_); rintro e w25 ⟨v642, rfl, ho0, hb⟩; refine ⟨_, rfl, ?_⟩; have n0_ := Aside0.mk (Kd.R_lower ho0 (below_size (by repeat (first | (with_reducible first | exact HB.out | apply below_alloc | apply pw_below_drewN | apply below_drew1) | exact HB.out)))); have n1_ := Aside0.mk (below_step (by repeat (first | (with_reducible first | exact HB.out | apply below_alloc | apply pw_below_drewN | apply below_drew1) | exact HB.out)) hb); clear HB; have HO643 := n0_; have HB := n1_; clear n0_ n1_; (try clear hb); (try clear hb2); (try clear hk); (try clear hi); (try clear ho0)) | ((with_reducible refine gate_callee (f := 48) rfl ?_); refine goesL_ (some 44) rfl rfl Try.func48 (by kernel_rfl) rfl #[.int .i64 a1, .int .i64 a2] rfl (by (try simp only [List.map_toArray, List.map_cons, List.map_nil]); first | done | rfl | (simp only [List.length_drop, List.length_take]; rfl)) ?_; (with_reducible refine (pomaderef03_At.calls kj8 a1 a2 t644 t645 _ A15.out).mono ?_); rintro e w26 ⟨v646, rfl, ho0, hb⟩; refine ⟨_, rfl, ?_⟩; have n0_ := Aside0.mk (Kd.R_elder' (by (with_reducible repeat (first | apply Kd.R_alloc | apply Kd.R_drewN | apply Kd.R_drew)); exact HO643.out) (Kd.R_base ho0) hb); have n1_ := Aside0.mk (Kd.R_lower (Kd.R_new' ho0 (Kd.R_lt (by (with_reducible repeat (first | apply Kd.R_alloc | apply Kd.R_drewN | apply Kd.R_drew)); exact HO643.out))) (below_size (by repeat (first | (with_reducible first | exact HB.out | apply below_alloc | apply pw_below_drewN | apply below_drew1) | exact HB.out)))); have n2_ := Aside0.mk (below_step (by repeat (first | (with_reducible first | exact HB.out | apply below_alloc | apply pw_below_drewN | apply below_drew1) | exact HB.out)) hb); clear HO643; clear HB; have HO643 := n0_; have HO647 := n1_; have HB := n2_; clear n0_ n1_ n2_; (try clear hb); (try clear hb2); (try clear hk); (try clear hi); (try clear ho0); obtain ⟨Ao27, co27, eo27⟩ := Kd.R_slice HO643.out; subst eo27; obtain ⟨Ao28, co28, eo28⟩ := Kd.R_slice HO647.out; subst eo28) | ((with_reducible refine gate_callee (f := 26) rfl ?_); refine goesL_ (some 49) rfl rfl Try.func26 (by kernel_rfl) rfl #[.slice Ao27 t640.length co27, .slice Ao28 t644.length co28] rfl (by (try simp only [List.map_toArray, List.map_cons, List.map_nil]); first | done | rfl | (simp only [List.length_drop, List.length_take]; rfl)) ?_; (with_reducible refine (pomadelaw03_same.calls kj8 _ _ t640 _ _ t644 true _ ?side1 ?side2 ?side3 ?side4 A16.out).mono ?_); (case side1 => repeat (first | exact (Kd.R_reads' HO643.out).2.2 | (with_reducible refine Kd.C_alloc ?_ _) | (with_reducible refine Kd.C_drewN ?_ _) | (with_reducible refine Kd.C_drew ?_))); (case side2 => exact (Kd.R_reads' HO643.out).2.1); (case side3 => repeat (first | exact (Kd.R_reads' HO647.out).2.2 | (with_reducible refine Kd.C_alloc ?_ _) | (with_reducible refine Kd.C_drewN ?_ _) | (with_reducible refine Kd.C_drew ?_))); (case side4 => exact (Kd.R_reads' HO647.out).2.1); rintro e w' ⟨rfl, ⟨nd, rfl⟩⟩; refine ⟨_, rfl, ?_⟩))
       go_ret
       exact ⟨by first | rfl | (simp [errW_none, errW_some] <;> rfl) | (simp [*, errW_none, errW_some] <;> rfl), by repeat (first | (with_reducible first | exact HB.out | apply below_alloc | apply pw_below_drewN | apply below_drew1) | exact HB.out)⟩
     ·replace c17 := Bool.eq_false_iff.mpr c17
      subst c17
      have H1 : (some false) = some r := by rw [if_neg (show ¬ (false = true) by decide)] at H; exact H
      clear H
      have H := H1
      clear H1
      obtain rfl := Option.some.inj H
      go_wp2_with (first | ((with_reducible refine gate_callee (f := 47) rfl ?_); refine goesL_ (some 38) rfl rfl Try.func47 (by kernel_rfl) rfl #[.int .i64 a1, .int .i64 a2] rfl (by (try simp only [List.map_toArray, List.map_cons, List.map_nil]); first | done | rfl | (simp only [List.length_drop, List.length_take]; rfl)) ?_; (with_reducible refine (chairs_At.calls kj8 a1 a2 t640 t641 _ A14.out).mono ?_); rintro e w29 ⟨v642, rfl, ho0, hb⟩; refine ⟨_, rfl, ?_⟩; have n0_ := Aside0.mk (Kd.R_lower ho0 (below_size (by repeat (first | (with_reducible first | exact HB.out | apply below_alloc | apply pw_below_drewN | apply below_drew1) | exact HB.out)))); have n1_ := Aside0.mk (below_step (by repeat (first | (with_reducible first | exact HB.out | apply below_alloc | apply pw_below_drewN | apply below_drew1) | exact HB.out)) hb); clear HB; have HO643 := n0_; have HB := n1_; clear n0_ n1_; (try clear hb); (try clear hb2); (try clear hk); (try clear hi); (try clear ho0)) | ((with_reducible refine gate_callee (f := 48) rfl ?_); refine goesL_ (some 44) rfl rfl Try.func48 (by kernel_rfl) rfl #[.int .i64 a1, .int .i64 a2] rfl (by (try simp only [List.map_toArray, List.map_cons, List.map_nil]); first | done | rfl | (simp only [List.length_drop, List.length_take]; rfl)) ?_; (with_reducible refine (pomaderef03_At.calls kj8 a1 a2 t644 t645 _ A15.out).mono ?_); rintro e w30 ⟨v646, rfl, ho0, hb⟩; refine ⟨_, rfl, ?_⟩; have n0_ := Aside0.mk (Kd.R_elder' (by (with_reducible repeat (first | apply Kd.R_alloc | apply Kd.R_drewN | apply Kd.R_drew)); exact HO643.out) (Kd.R_base ho0) hb); have n1_ := Aside0.mk (Kd.R_lower (Kd.R_new' ho0 (Kd.R_lt (by (with_reducible repeat (first | apply Kd.R_alloc | apply Kd.R_drewN | apply Kd.R_drew)); exact HO643.out))) (below_size (by repeat (first | (with_reducible first | exact HB.out | apply below_alloc | apply pw_below_drewN | apply below_drew1) | exact HB.out)))); have n2_ := Aside0.mk (below_step (by repeat (first | (with_reducible first | exact HB.out | apply below_alloc | apply pw_below_drewN | apply below_drew1) | exact HB.out)) hb); clear HO643; clear HB; have HO643 := n0_; have HO647 := n1_; have HB := n2_; clear n0_ n1_ n2_; (try clear hb); (try clear hb2); (try clear hk); (try clear hi); (try clear ho0); obtain ⟨Ao31, co31, eo31⟩ := Kd.R_slice HO643.out; subst eo31; obtain ⟨Ao32, co32, eo32⟩ := Kd.R_slice HO647.out; subst eo32) | ((with_reducible refine gate_callee (f := 26) rfl ?_); refine goesL_ (some 49) rfl rfl Try.func26 (by kernel_rfl) rfl #[.slice Ao31 t640.length co31, .slice Ao32 t644.length co32] rfl (by (try simp only [List.map_toArray, List.map_cons, List.map_nil]); first | done | rfl | (simp only [List.length_drop, List.length_take]; rfl)) ?_; (with_reducible refine (pomadelaw03_same.calls kj8 _ _ t640 _ _ t644 false _ ?side1 ?side2 ?side3 ?side4 A16.out).mono ?_); (case side1 => repeat (first | exact (Kd.R_reads' HO643.out).2.2 | (with_reducible refine Kd.C_alloc ?_ _) | (with_reducible refine Kd.C_drewN ?_ _) | (with_reducible refine Kd.C_drew ?_))); (case side2 => exact (Kd.R_reads' HO643.out).2.1); (case side3 => repeat (first | exact (Kd.R_reads' HO647.out).2.2 | (with_reducible refine Kd.C_alloc ?_ _) | (with_reducible refine Kd.C_drewN ?_ _) | (with_reducible refine Kd.C_drew ?_))); (case side4 => exact (Kd.R_reads' HO647.out).2.1); rintro e w' ⟨rfl, ⟨nd, rfl⟩⟩; refine ⟨_, rfl, ?_⟩))
      go_ret
      exact ⟨by first | rfl | (simp [errW_none, errW_some] <;> rfl) | (simp [*, errW_none, errW_some] <;> rfl), by repeat (first | (with_reducible first | exact HB.out | apply below_alloc | apply pw_below_drewN | apply below_drew1) | exact HB.out)⟩
/-- THE ONE PURE STATEMENT of pomadelaw03_ChairsRanks: yours. -/
def pomadelaw03_ChairsRanks.Pure : Prop := ∀ (l0 : List Int) (a1 : Int) (a2 : Int), l0.length ≤ maxLen → l0.length * 8 ≤ 140737488351232 → (∀ x ∈ l0, (Lit.int .i64 x).wf = true) → (Lit.int .i64 a1).wf = true → (Lit.int .i64 a2).wf = true → ∃ k, pomadelaw03_ChairsRanks.f k l0 a1 a2 = some true
theorem pomadelaw03_ChairsRanks.walk (P : pomadelaw03_ChairsRanks.Pure) (a0 : Option Addr) (len0 cap0 : Nat) (z0 : List Int) (a1 : Int) (a2 : Int) (w : World) (w0 : (a0 = none ∧ len0 = 0 ∧ cap0 = 0 ∧ z0 = []) ∨ ∃ x, a0 = some x ∧ len0 ≤ cap0 ∧ cap0 ≤ maxLen ∧ z0.length = cap0 ∧ (∀ i, i < z0.length → w.cell? (x.add i) = some (.int .i64 (z0.getD i 0))) ∧ ∀ n ∈ z0, (Lit.int .i64 n).wf = true) (y0 : len0 * 8 ≤ 140737488351232) (w1 : (Lit.int .i64 a1).wf = true) (w2 : (Lit.int .i64 a2).wf = true) :
  Calls Try.prog 14 #[.slice a0 len0 cap0, .int .i64 a1, .int .i64 a2] w fun e w' => e = .returned (.bool true) ∧ Below w.heap.size w w' := by
 obtain ⟨l0, rfl, hr0, hm0, hw0, hc0⟩ := ReadsInt.ofRowC w0
 obtain ⟨k, h⟩ := P l0 a1 a2 hm0 y0 hw0 w1 w2
 refine (pomadelaw03_ChairsRanks.calls k _ _ l0 a1 a2 true w (Kd.C_of_reads (d := (0 : Int)) (h1 := fun _ => rfl) hr0) hc0 h).mono ?_
 rintro e w' ⟨rfl, hd⟩
 exact ⟨rfl, hd⟩
end Go.Proofs.Ytfopeenjpdaacaa.PC
end
section
/- Chairs: the errors of wishes, and who sits where, by the program and by the specification. -/
namespace Go.Proofs.Ytfopeenjpdaacaa.L
open Go.RowKit Go.Proofs.Ytfopeenjpdaacaa.PC Go.Proofs.YtfopeenjpdaacaaW.PrintWords Go.Proofs.YtfopeenjpdaacaaW.PrintLast
theorem w64 {x : Int} (h0 : -9223372036854775808 ≤ x) (h1 : x ≤ 9223372036854775807) : wrap64 x = x := by unfold wrap64; omega
/-- the errors of a row and wishes -/
def rowV (m : Int) (l : List Int) : Int := if m < 1 ∨ m > 30 then 2 else if (l.length : Int) > m then 3 else if l.all (fun w => decide (0 ≤ w ∧ w < m)) = true then 0 else 2
theorem wished_ev (m : Int) (l : List Int) : chairs_wished.f m l = some (rowV m l) := by
  unfold chairs_wished.f rowV
  split
  · rfl
  · split
    · rfl
    · split <;> rfl
structure Row (m : Int) (l : List Int) : Prop where
  m1 : 1 ≤ m
  m30 : m ≤ 30
  len : (l.length : Int) ≤ m
  all : ∀ w ∈ l, 0 ≤ w ∧ w < m
theorem row_iff (m : Int) (l : List Int) : rowV m l = 0 ↔ Row m l := by
  unfold rowV
  constructor
  · intro h
    split at h
    · omega
    · split at h
      · omega
      · split at h
        · rename_i h1 h2 h3
          exact ⟨by omega, by omega, by omega, fun w hw => by simpa using List.all_eq_true.1 h3 w hw⟩
        · omega
  · rintro ⟨a, b, c, d⟩
    rw [if_neg (by omega), if_neg (by omega), if_pos (List.all_eq_true.2 fun w hw => by simpa using d w hw)]
theorem rd_mem (l : List Int) (q : Nat) (h : q < l.length) : rd l (q : Int) ∈ l := by simp [rd, List.getD_eq_getElem?_getD, h]
theorem drop_rd (l : List Int) (q : Nat) (h : q < l.length) : l.drop q = rd l (q : Int) :: l.drop (q + 1) := by
  rw [List.drop_eq_getElem_cons h]; simp [rd, List.getD_eq_getElem?_getD, h]
theorem row_loop (m : Int) (l : List Int) (hl : l.length ≤ 1000000) (d : Nat) : ∀ q : Nat, q + d = l.length → Ev (fun k => pomaderef03_Row.l0 k m l (q : Int)) (if (l.drop q).all (fun w => decide (0 ≤ w ∧ w < m)) = true then 0 else 2) := by
  induction d with
  | zero =>
    intro q hq
    rw [List.drop_of_length_le (by omega)]
    refine Ev.step (f := fun _ => some 0) (fun k => ?_) (Ev.now _)
    simp only [pomaderef03_Row.l0]
    rw [if_neg (by omega)]
  | succ d ih =>
    intro q hq
    rw [drop_rd l q (by omega), List.all_cons]
    by_cases c1 : rd l (q : Int) < 0
    · rw [show decide (0 ≤ rd l (q : Int) ∧ rd l (q : Int) < m) = false from decide_eq_false (by omega), Bool.false_and, if_neg (by simp)]
      refine Ev.step (f := fun _ => some 2) (fun k => ?_) (Ev.now _)
      simp only [pomaderef03_Row.l0]
      rw [if_pos (by omega), if_pos (by omega), if_pos c1]
    by_cases c2 : rd l (q : Int) ≥ m
    · rw [show decide (0 ≤ rd l (q : Int) ∧ rd l (q : Int) < m) = false from decide_eq_false (by omega), Bool.false_and, if_neg (by simp)]
      refine Ev.step (f := fun _ => some 2) (fun k => ?_) (Ev.now _)
      simp only [pomaderef03_Row.l0]
      rw [if_pos (by omega), if_pos (by omega), if_neg c1, if_pos c2]
    rw [show decide (0 ≤ rd l (q : Int) ∧ rd l (q : Int) < m) = true from decide_eq_true (by omega), Bool.true_and]
    refine Ev.step (fun k => ?_) (ih (q + 1) (by omega))
    simp only [pomaderef03_Row.l0]
    rw [if_pos (by omega), if_pos (by omega), if_neg c1, if_neg c2, w64 (by omega) (by omega)]
    rfl
theorem row_ev (m : Int) (l : List Int) (hl : l.length ≤ 1000000) : Ev (fun k => pomaderef03_Row.f k m l) (rowV m l) := by
  unfold rowV
  by_cases c1 : m < 1
  · rw [if_pos (Or.inl c1)]
    refine Ev.congr (fun k => by unfold pomaderef03_Row.f; rw [if_pos c1]) (Ev.step (f := fun _ => some 2) (fun k => ?_) (Ev.now _))
    simp only [pomaderef03_Row.j0]; rw [if_pos trivial]
  by_cases c2 : m > 30
  · rw [if_pos (Or.inr c2)]
    refine Ev.congr (fun k => by unfold pomaderef03_Row.f; rw [if_neg c1, decide_eq_true c2]) (Ev.step (f := fun _ => some 2) (fun k => ?_) (Ev.now _))
    simp only [pomaderef03_Row.j0]; rw [if_pos trivial]
  rw [if_neg (by omega)]
  refine Ev.congr (fun k => by unfold pomaderef03_Row.f; rw [if_neg c1, decide_eq_false c2]) ?_
  by_cases c3 : (l.length : Int) > m
  · rw [if_pos c3]
    refine Ev.step (f := fun _ => some 3) (fun k => ?_) (Ev.now _)
    simp only [pomaderef03_Row.j0]; rw [if_neg (by simp), if_pos c3]
  rw [if_neg c3]
  refine Ev.step (fun k => ?_) (row_loop m l hl l.length 0 (by omega))
  simp only [pomaderef03_Row.j0]; rw [if_neg (by simp), if_neg c3]
  rfl
/-! ### the chair of each customer -/
/-- the first free chair from c on -/
def seat (T : List Bool) : Nat → Int → Int
  | 0, c => c
  | d + 1, c => if rdOf false T c = true then seat T d (c + 1) else c
theorem seat_range (T : List Bool) (d : Nat) : ∀ c : Int, c ≤ seat T d c ∧ seat T d c ≤ c + d := by
  induction d with
  | zero => intro c; simp [seat]
  | succ d ih =>
    intro c
    simp only [seat]
    split
    · have := ih (c + 1); omega
    · omega
/-- the chairs of all; false: somebody finds none -/
def sitL (m : Int) : List Int → List Bool → List Int → List Int × Bool
  | [], _, out => (out, true)
  | w :: ws, T, out => if seat T (m - w).toNat w = m then ([], false) else sitL m ws (T.set (seat T (m - w).toNat w).toNat true) (out ++ [seat T (m - w).toNat w])
theorem psit1 (m : Int) (T : List Bool) (hT : (T.length : Int) = m) (hm : m ≤ 1000000) (out l : List Int) (ho : out.length ≤ 1000000) (L i : Int) (hi : 0 ≤ i) (hi2 : i ≤ 1000000) (r : List Int × Bool) (d : Nat) : ∀ c s : Int, 0 ≤ c → c + d = m → seat T d c = s →
    (if s = m then r = ([], false) else Ev (fun k => chairs_sit.l0 k m (T.set s.toNat true) (out ++ [s]) l L (i + 1)) r) →
    Ev (fun k => chairs_sit.l1 k m T out c l L i) r := by
  induction d with
  | zero =>
    intro c s h0 hc hs h
    obtain rfl : c = m := by omega
    simp only [seat] at hs
    subst hs
    rw [if_pos rfl] at h
    subst h
    refine Ev.step (f := fun _ => some ([], false)) (fun k => ?_) (Ev.now _)
    simp only [chairs_sit.l1]
    rw [if_neg (by omega), if_pos trivial]
  | succ d ih =>
    intro c s h0 hc hs h
    simp only [seat] at hs
    by_cases c1 : rdOf false T c = true
    · rw [if_pos c1] at hs
      refine Ev.step (fun k => ?_) (ih (c + 1) s (by omega) (by omega) hs h)
      simp only [chairs_sit.l1]
      rw [if_pos (by omega), if_pos h0, if_pos (by omega), if_pos c1, w64 (by omega) (by omega)]
    · rw [if_neg c1] at hs
      subst hs
      rw [if_neg (by omega)] at h
      refine Ev.step (fun k => ?_) h
      simp only [chairs_sit.l1]
      rw [if_pos (by omega), if_pos h0, if_pos (by omega), if_neg c1, if_neg (by omega), if_pos (by omega), w64 (by omega) (by omega)]
theorem psit0 (m : Int) (hm : m ≤ 1000000) (l : List Int) (hl : l.length ≤ 1000000) (hw : ∀ w ∈ l, 0 ≤ w ∧ w < m) (d : Nat) : ∀ (q : Nat) (T : List Bool) (out : List Int), q + d = l.length → (T.length : Int) = m → out.length = q →
    Ev (fun k => chairs_sit.l0 k m T out l (l.length : Int) (q : Int)) (sitL m (l.drop q) T out) := by
  induction d with
  | zero =>
    intro q T out hq hT ho
    rw [List.drop_of_length_le (by omega)]
    refine Ev.step (f := fun _ => some (out, true)) (fun k => ?_) (Ev.now _)
    simp only [chairs_sit.l0]
    rw [if_neg (by omega)]
  | succ d ih =>
    intro q T out hq hT ho
    have hr := hw _ (rd_mem l q (by omega))
    refine Ev.step (f := fun k => chairs_sit.l1 k m T out (rd l (q : Int)) l (l.length : Int) (q : Int)) (fun k => ?_) ?_
    · simp only [chairs_sit.l0]
      rw [if_pos (by omega), if_pos (by omega), if_pos (by omega)]
    refine psit1 m T hT hm out l (by omega) _ _ (by omega) (by omega) _ (m - rd l (q : Int)).toNat (rd l (q : Int)) _ hr.1 (by omega) rfl ?_
    rw [drop_rd l q (by omega)]
    simp only [sitL]
    split
    · rfl
    · refine Ev.congr (fun k => ?_) (ih (q + 1) _ _ (by omega) (by rw [List.length_set]; exact hT) (by simp; omega))
      rfl
theorem rsit1 (m : Int) (T : List Bool) (hT : (T.length : Int) = m) (hm : m ≤ 1000000) (out l : List Int) (ho : out.length ≤ 1000000) (i : Int) (hi : 0 ≤ i) (hi2 : i ≤ 1000000) (r : List Int × Bool) (d : Nat) : ∀ c s : Int, 0 ≤ c → c + d = m → seat T d c = s →
    (if s = m then r = ([], false) else Ev (fun k => pomaderef03_sit.l0 k m l (T.set s.toNat true) (out ++ [s]) (i + 1)) r) →
    Ev (fun k => pomaderef03_sit.l1 k m l T out i c) r := by
  induction d with
  | zero =>
    intro c s h0 hc hs h
    obtain rfl : c = m := by omega
    simp only [seat] at hs
    subst hs
    rw [if_pos rfl] at h
    subst h
    refine Ev.step (f := fun _ => some ([], false)) (fun k => ?_) (Ev.now _)
    simp only [pomaderef03_sit.l1]
    rw [if_neg (by omega), if_pos trivial]
  | succ d ih =>
    intro c s h0 hc hs h
    simp only [seat] at hs
    by_cases c1 : rdOf false T c = true
    · rw [if_pos c1] at hs
      refine Ev.step (fun k => ?_) (ih (c + 1) s (by omega) (by omega) hs h)
      simp only [pomaderef03_sit.l1]
      rw [if_pos (by omega), if_pos h0, if_pos (by omega), if_pos c1, w64 (by omega) (by omega)]
    · rw [if_neg c1] at hs
      subst hs
      rw [if_neg (by omega)] at h
      refine Ev.step (fun k => ?_) h
      simp only [pomaderef03_sit.l1]
      rw [if_pos (by omega), if_pos h0, if_pos (by omega), if_neg c1, if_neg (by omega), if_pos (by omega), w64 (by omega) (by omega)]
theorem rsit0 (m : Int) (hm : m ≤ 1000000) (l : List Int) (hl : l.length ≤ 1000000) (hw : ∀ w ∈ l, 0 ≤ w ∧ w < m) (d : Nat) : ∀ (q : Nat) (T : List Bool) (out : List Int), q + d = l.length → (T.length : Int) = m → out.length = q →
    Ev (fun k => pomaderef03_sit.l0 k m l T out (q : Int)) (sitL m (l.drop q) T out) := by
  induction d with
  | zero =>
    intro q T out hq hT ho
    rw [List.drop_of_length_le (by omega)]
    refine Ev.step (f := fun _ => some (out, true)) (fun k => ?_) (Ev.now _)
    simp only [pomaderef03_sit.l0]
    rw [if_neg (by omega)]
  | succ d ih =>
    intro q T out hq hT ho
    have hr := hw _ (rd_mem l q (by omega))
    refine Ev.step (f := fun k => pomaderef03_sit.l1 k m l T out (q : Int) (rd l (q : Int))) (fun k => ?_) ?_
    · simp only [pomaderef03_sit.l0]
      rw [if_pos (by omega), if_pos (by omega)]
    refine rsit1 m T hT hm out l (by omega) _ (by omega) (by omega) _ (m - rd l (q : Int)).toNat (rd l (q : Int)) _ hr.1 (by omega) rfl ?_
    rw [drop_rd l q (by omega)]
    simp only [sitL]
    split
    · rfl
    · refine Ev.congr (fun k => ?_) (ih (q + 1) _ _ (by omega) (by rw [List.length_set]; exact hT) (by simp; omega))
      rfl
/-- who sits where -/
def sitV (m : Int) (l : List Int) : List Int × Bool := sitL m l (List.replicate m.toNat false) []
theorem psit_ev (m : Int) (l : List Int) (h : Row m l) : Ev (fun k => chairs_sit.f k m l) (sitV m l) := by
  have h1 := h.m1; have h2 := h.m30; have h3 := h.len
  refine Ev.congr (fun k => ?_) (psit0 m (by omega) l (by omega) h.all l.length 0 _ [] (by omega) (by simp; omega) rfl)
  unfold chairs_sit.f
  rw [if_pos (by omega), if_pos (by omega)]
  rfl
theorem rsit_ev (m : Int) (l : List Int) (h : Row m l) : Ev (fun k => pomaderef03_sit.f k m l) (sitV m l) := by
  have h1 := h.m1; have h2 := h.m30; have h3 := h.len
  refine Ev.congr (fun k => ?_) (rsit0 m (by omega) l (by omega) h.all l.length 0 _ [] (by omega) (by simp; omega) rfl)
  unfold pomaderef03_sit.f
  rw [if_pos (by omega), if_pos (by omega)]
  rfl
theorem same_loop (l : List Int) (hl : l.length ≤ 1000000) (d : Nat) : ∀ q : Nat, q + d = l.length → Ev (fun k => pomadelaw03_same.l0 k l l (q : Int)) true := by
  induction d with
  | zero =>
    intro q hq
    refine Ev.step (f := fun _ => some true) (fun k => ?_) (Ev.now _)
    simp only [pomadelaw03_same.l0]
    rw [if_neg (by omega)]
  | succ d ih =>
    intro q hq
    refine Ev.step (fun k => ?_) (ih (q + 1) (by omega))
    simp only [pomadelaw03_same.l0]
    rw [if_pos (by omega), if_pos (by omega), if_pos (by omega), w64 (by omega) (by omega)]
    simp
theorem same_ev (l : List Int) (hl : l.length ≤ 1000000) : Ev (fun k => pomadelaw03_same.f k l l) true :=
  Ev.congr (fun k => by unfold pomadelaw03_same.f; rw [if_pos rfl]; rfl) (same_loop l hl l.length 0 (by omega))
end Go.Proofs.Ytfopeenjpdaacaa.L
end
section
/- Parking, in plain numbers: customers who walk on to the next free chair. In whatever order they come, the same chairs are taken; everybody sits below n exactly if for each k at least k wish a chair below k. -/
namespace Go.Proofs.Ytfopeenjpdaacaa.MPark
/-- c is the first chair from w on that is free -/
structure Nx (S : Nat → Bool) (w c : Nat) : Prop where
  le : w ≤ c
  free : S c = false
  full : ∀ j, w ≤ j → j < c → S j = true
def up (S : Nat → Bool) (c : Nat) : Nat → Bool := fun j => if j = c then true else S j
theorem up_eq (S : Nat → Bool) (c : Nat) : up S c c = true := by simp [up]
theorem up_ne {S : Nat → Bool} {c j : Nat} (h : j ≠ c) : up S c j = S j := by simp [up, h]
theorem Nx.uniq {S : Nat → Bool} {w c d : Nat} (h : Nx S w c) (k : Nx S w d) : c = d := by
  rcases Nat.lt_trichotomy c d with e | e | e
  · have := k.full c h.le e; rw [h.free] at this; cases this
  · exact e
  · have := h.full d k.le e; rw [k.free] at this; cases this
theorem Nx.ex {S : Nat → Bool} {B : Nat} (hB : ∀ c, B ≤ c → S c = false) : ∀ (d w : Nat), B ≤ w + d → ∃ c, Nx S w c
  | 0, w, h => ⟨w, Nat.le_refl _, hB w h, fun j h1 h2 => by omega⟩
  | d + 1, w, h => by
    cases hw : S w with
    | false => exact ⟨w, Nat.le_refl _, hw, fun j h1 h2 => by omega⟩
    | true =>
      obtain ⟨c, h1, h2, h3⟩ := Nx.ex hB d (w + 1) (by omega)
      refine ⟨c, by omega, h2, fun j h4 h5 => ?_⟩
      by_cases e : j = w
      · rw [e]; exact hw
      · exact h3 j (by omega) h5
/-- all come one after the other: the wishes, what is taken before and behind, the chairs -/
inductive Park : List Nat → (Nat → Bool) → (Nat → Bool) → List Nat → Prop
  | nil (S : Nat → Bool) : Park [] S S []
  | cons {S S' : Nat → Bool} {w c : Nat} {ws cs : List Nat} (h : Nx S w c) (k : Park ws (up S c) S' cs) : Park (w :: ws) S S' (c :: cs)
theorem Park.ex (ws : List Nat) : ∀ (S : Nat → Bool) (B : Nat), (∀ c, B ≤ c → S c = false) → ∃ S' cs, Park ws S S' cs := by
  induction ws with
  | nil => exact fun S _ _ => ⟨S, [], .nil S⟩
  | cons w ws ih =>
    intro S B hB
    obtain ⟨c, hc⟩ := Nx.ex hB B w (by omega)
    obtain ⟨S', cs, h⟩ := ih (up S c) (max B (c + 1)) (fun j hj => by rw [up_ne (by omega)]; exact hB j (by omega))
    exact ⟨S', c :: cs, .cons hc h⟩
theorem Park.uniq {ws : List Nat} : ∀ {S S1 S2 : Nat → Bool} {cs ds : List Nat}, Park ws S S1 cs → Park ws S S2 ds → S1 = S2 ∧ cs = ds := by
  induction ws with
  | nil => intro S S1 S2 cs ds h k; cases h; cases k; exact ⟨rfl, rfl⟩
  | cons w ws ih =>
    intro S S1 S2 cs ds h k
    cases h with
    | cons h h' =>
      cases k with
      | cons k k' =>
        obtain rfl := h.uniq k
        obtain ⟨e1, e2⟩ := ih h' k'
        exact ⟨e1, by rw [e2]⟩
theorem Park.length {ws : List Nat} {S S1 : Nat → Bool} {cs : List Nat} (h : Park ws S S1 cs) : cs.length = ws.length := by
  induction h with
  | nil => rfl
  | cons _ _ ih => simp [ih]
/-- how often a chair is given -/
theorem Park.count {ws : List Nat} {S S1 : Nat → Bool} {cs : List Nat} (h : Park ws S S1 cs) (j : Nat) : cs.count j + (if S j = true then 1 else 0) = if S1 j = true then 1 else 0 := by
  induction h with
  | nil => simp
  | @cons S S' w c ws cs h _ ih =>
    rw [← ih, List.count_cons]
    by_cases e : j = c
    · subst e
      rw [up_eq, h.free]; simp
    · rw [up_ne e]
      have : (c == j) = false := beq_eq_false_iff_ne.2 (fun g => e g.symm)
      rw [this]; simp
/-- those that are taken below a chair -/
def cnt (S : Nat → Bool) : Nat → Nat
  | 0 => 0
  | k + 1 => cnt S k + if S k = true then 1 else 0
theorem cnt_le (S : Nat → Bool) (k : Nat) : cnt S k ≤ k := by
  induction k with
  | zero => simp [cnt]
  | succ k ih => simp only [cnt]; split <;> omega
theorem cnt_up {S : Nat → Bool} {c : Nat} (h : S c = false) (k : Nat) : cnt (up S c) k = cnt S k + if c < k then 1 else 0 := by
  induction k with
  | zero => simp [cnt]
  | succ k ih =>
    simp only [cnt, ih]
    by_cases e : k = c
    · subst e; rw [up_eq, h]; simp
    · rw [up_ne e]
      split <;> split <;> split <;> omega
theorem cnt_full {S : Nat → Bool} (n : Nat) (h : cnt S n = n) : ∀ j, j < n → S j = true := by
  induction n with
  | zero => intro j hj; omega
  | succ n ih =>
    simp only [cnt] at h
    have := cnt_le S n
    intro j hj
    cases hs : S n with
    | false => rw [hs] at h; simp at h; omega
    | true =>
      rw [hs] at h; simp at h
      by_cases e : j = n
      · rw [e]; exact hs
      · exact ih h j (by omega)
theorem cnt_of_full {S : Nat → Bool} (n : Nat) (h : ∀ j, j < n → S j = true) : cnt S n = n := by
  induction n with
  | zero => rfl
  | succ n ih => simp only [cnt]; rw [ih (fun j hj => h j (by omega)), h n (by omega)]; simp
theorem cnt_gap {S : Nat → Bool} (n : Nat) (h : cnt S n < n) : ∃ c, c < n ∧ S c = false := by
  induction n with
  | zero => omega
  | succ n ih =>
    cases hs : S n with
    | false => exact ⟨n, by omega, hs⟩
    | true =>
      simp only [cnt] at h
      rw [hs] at h; simp at h
      obtain ⟨c, h1, h2⟩ := ih (by omega)
      exact ⟨c, by omega, h2⟩
theorem Park.cnt {ws : List Nat} {S S1 : Nat → Bool} {cs : List Nat} (h : Park ws S S1 cs) (k : Nat) : cnt S1 k = cnt S k + cs.countP (fun c => decide (c < k)) := by
  induction h with
  | nil => simp
  | @cons S S' w c ws cs h _ ih => rw [ih, cnt_up h.free, List.countP_cons]; by_cases e : c < k <;> simp [e] <;> omega
theorem Park.cnt_le {ws : List Nat} {S S1 : Nat → Bool} {cs : List Nat} (h : Park ws S S1 cs) (k : Nat) : MPark.cnt S1 k ≤ MPark.cnt S k + ws.countP (fun c => decide (c < k)) := by
  induction h with
  | nil => simp
  | @cons S S' w c ws cs h _ ih =>
    have := h.le
    rw [cnt_up h.free] at ih
    rw [List.countP_cons]
    by_cases e : w < k <;> by_cases e' : c < k <;> simp [e, e'] at ih ⊢ <;> omega
theorem Park.keep {ws : List Nat} {S S1 : Nat → Bool} {cs : List Nat} (h : Park ws S S1 cs) (j : Nat) (hj : S1 j = false) : S j = false := by
  have := h.count j
  rw [hj] at this
  cases hs : S j with
  | false => rfl
  | true => rw [hs] at this; simp at this
/-- nobody passes a chair that stays free -/
theorem Park.free {ws : List Nat} {S S1 : Nat → Bool} {cs : List Nat} (h : Park ws S S1 cs) (e : Nat) (he : S1 e = false) : MPark.cnt S1 e = MPark.cnt S e + ws.countP (fun c => decide (c < e + 1)) := by
  induction h with
  | nil => simp
  | @cons S S' w c ws cs h k ih =>
    rw [ih he, cnt_up h.free, List.countP_cons]
    have h1 := k.keep e he
    have hne : e ≠ c := fun g => by rw [g, up_eq] at h1; cases h1
    rw [up_ne hne] at h1
    have h2 := h.le
    by_cases a : w < e + 1
    · have : c < e := by
        rcases Nat.lt_or_ge e c with g | g
        · have := h.full e (by omega) g; rw [h1] at this; cases this
        · omega
      simp [a, this]; omega
    · simp [a, show ¬ c < e by omega]
theorem countP_all {l : List Nat} {p : Nat → Bool} : l.countP p = l.length ↔ ∀ c ∈ l, p c = true := List.countP_eq_length
/-- no chair is taken -/
def no : Nat → Bool := fun _ => false
theorem cnt_no (k : Nat) : cnt no k = 0 := by
  induction k with
  | zero => rfl
  | succ k ih => simp [cnt, ih, no]
/-- n customers for n chairs: everybody sits below n exactly if for each k at least k wish a chair below k -/
theorem good_iff {ws : List Nat} {S1 : Nat → Bool} {cs : List Nat} (h : Park ws no S1 cs) : (∀ c ∈ cs, c < ws.length) ↔ ∀ k, 1 ≤ k → k ≤ ws.length → k ≤ ws.countP (fun c => decide (c < k)) := by
  constructor
  · intro hc k h1 h2
    have e1 := h.cnt ws.length
    rw [cnt_no, countP_all.2 (fun c hm => by simpa using hc c hm), h.length, Nat.zero_add] at e1
    have e2 := cnt_of_full k (fun j hj => cnt_full _ e1 j (by omega))
    have e3 := h.cnt_le k
    rw [cnt_no] at e3
    omega
  · intro hk
    refine Classical.byContradiction fun hn => ?_
    have e1 := h.cnt ws.length
    rw [cnt_no, Nat.zero_add] at e1
    have e2 : cs.countP (fun c => decide (c < ws.length)) ≤ cs.length := List.countP_le_length
    rw [h.length] at e2
    have e3 : cs.countP (fun c => decide (c < ws.length)) ≠ ws.length := fun e => hn fun c hm => by
      have := countP_all.1 (e.trans h.length.symm) c hm
      simpa using this
    obtain ⟨c, h1, h2⟩ := cnt_gap (S := S1) ws.length (by omega)
    have e4 := h.free c h2
    have e5 := cnt_le S1 c
    have e6 := hk (c + 1) (by omega) (by omega)
    rw [cnt_no] at e4
    omega
/-- everybody who wishes a free chair of his own stays there -/
theorem Park.same {cs : List Nat} : ∀ {S : Nat → Bool}, (∀ c ∈ cs, S c = false) → cs.Nodup → ∃ S1, Park cs S S1 cs := by
  induction cs with
  | nil => exact fun _ _ => ⟨_, .nil _⟩
  | cons c cs ih =>
    intro S h1 h2
    rw [List.nodup_cons] at h2
    obtain ⟨S1, h3⟩ := ih (S := up S c) (fun x hx => by rw [up_ne (fun e => h2.1 (by rw [← e]; exact hx))]; exact h1 x (List.mem_cons_of_mem _ hx)) h2.2
    exact ⟨S1, .cons ⟨Nat.le_refl _, h1 c List.mem_cons_self, fun j a b => by omega⟩ h3⟩
theorem Park.nodup {ws : List Nat} {S S1 : Nat → Bool} {cs : List Nat} (h : Park ws S S1 cs) : cs.Nodup := by
  rw [List.nodup_iff_count]
  intro j
  have := h.count j
  split at this <;> split at this <;> omega
end Go.Proofs.Ytfopeenjpdaacaa.MPark
end
section
/- Who sits where, told by the plain parking: the program's row of chairs and the plain one. -/
namespace Go.Proofs.Ytfopeenjpdaacaa.L
open Go.RowKit Go.Proofs.Ytfopeenjpdaacaa.PC Go.Proofs.YtfopeenjpdaacaaW.PrintWords Go.Proofs.YtfopeenjpdaacaaW.PrintLast Go.Proofs.Ytfopeenjpdaacaa.MPark
theorem seat_nx (m : Int) (T : List Bool) (S : Nat → Bool) (hS : ∀ j, S j = T.getD j false) (d : Nat) : ∀ c : Int, 0 ≤ c → c + d = m →
    (seat T d c < m → Nx S c.toNat (seat T d c).toNat) ∧ (seat T d c = m → ∀ j : Nat, c.toNat ≤ j → (j : Int) < m → S j = true) := by
  induction d with
  | zero =>
    intro c h0 hc
    simp only [seat]
    exact ⟨fun h => by omega, fun _ j h1 h2 => by omega⟩
  | succ d ih =>
    intro c h0 hc
    simp only [seat]
    have e : rdOf false T c = S c.toNat := by rw [hS]; rfl
    rw [e]
    cases hs : S c.toNat with
    | false =>
      simp only [Bool.false_eq_true, if_false]
      exact ⟨fun _ => ⟨Nat.le_refl _, hs, fun j h1 h2 => by omega⟩, fun h => by omega⟩
    | true =>
      simp only [if_true]
      obtain ⟨h1, h2⟩ := ih (c + 1) (by omega) (by omega)
      refine ⟨fun h => ?_, fun h j h3 h4 => ?_⟩
      · obtain ⟨a, b, f⟩ := h1 h
        refine ⟨by omega, b, fun j h3 h4 => ?_⟩
        by_cases g : j = c.toNat
        · rw [g]; exact hs
        · exact f j (by omega) h4
      · by_cases g : j = c.toNat
        · rw [g]; exact hs
        · exact h2 h j (by omega) h4
theorem sitL_park (m : Int) (l : List Int) : ∀ (T : List Bool) (S S' : Nat → Bool) (cs : List Nat) (out : List Int), (T.length : Int) = m → (∀ w ∈ l, 0 ≤ w ∧ w < m) → (∀ j, S j = T.getD j false) → Park (l.map Int.toNat) S S' cs →
    sitL m l T out = if cs.all (fun c => decide ((c : Int) < m)) = true then (out ++ cs.map (fun c : Nat => (c : Int)), true) else ([], false) := by
  induction l with
  | nil =>
    intro T S S' cs out hT hall hS hP
    cases hP
    simp [sitL]
  | cons w ws ih =>
    intro T S S' cs out hT hall hS hP
    obtain ⟨w0, w1⟩ := hall w List.mem_cons_self
    rw [List.map_cons] at hP
    cases hP with
    | @cons _ _ _ c _ cs hN hP =>
      obtain ⟨h1, h2⟩ := seat_nx m T S hS (m - w).toNat w w0 (by omega)
      have hr := seat_range T (m - w).toNat w
      simp only [sitL]
      by_cases e : seat T (m - w).toNat w = m
      · rw [if_pos e]
        have hc : ¬ (c : Int) < m := fun hc => by
          have := h2 e c hN.le hc
          rw [hN.free] at this
          cases this
        rw [if_neg]
        simp [hc]
      · rw [if_neg e]
        have hlt : seat T (m - w).toNat w < m := by omega
        have hc := (h1 hlt).uniq hN
        have hci : seat T (m - w).toNat w = (c : Int) := by omega
        rw [hci, Int.toNat_natCast]
        rw [ih (T.set c true) (up S c) S' cs (out ++ [(c : Int)]) (by rw [List.length_set]; exact hT) (fun x hx => hall x (List.mem_cons_of_mem _ hx)) (fun j => by
          unfold up
          by_cases g : j = c
          · rw [if_pos g, g, List.getD_eq_getElem?_getD, List.getElem?_set_self (by omega)]; rfl
          · rw [if_neg g, hS j, List.getD_eq_getElem?_getD, List.getD_eq_getElem?_getD, List.getElem?_set_ne (Ne.symm g)]) hP]
        have hcm : decide ((c : Int) < m) = true := decide_eq_true (by omega)
        simp [hcm]
/-- who sits where, by the plain parking -/
theorem sitV_park (m : Int) (l : List Int) (h : Row m l) : ∃ S' cs, Park (l.map Int.toNat) no S' cs ∧ sitV m l = if cs.all (fun c => decide ((c : Int) < m)) = true then (cs.map (fun c : Nat => (c : Int)), true) else ([], false) := by
  obtain ⟨S', cs, hP⟩ := Park.ex (l.map Int.toNat) no 0 (fun _ _ => rfl)
  refine ⟨S', cs, hP, ?_⟩
  have h1 := h.m1
  have := sitL_park m l (List.replicate m.toNat false) no S' cs [] (by simp; omega) h.all (fun j => by
    unfold no
    rw [List.getD_eq_getElem?_getD, List.getElem?_replicate]
    split <;> rfl) hP
  simpa [sitV] using this
/-- how many wish a chair below k -/
def below (l : List Int) (k : Int) : Nat := l.countP (fun w => decide (w < k))
theorem below_nat (l : List Int) (h : ∀ w ∈ l, 0 ≤ w) (k : Nat) : (l.map Int.toNat).countP (fun c => decide (c < k)) = below l (k : Int) := by
  unfold below
  rw [List.countP_map]
  refine List.countP_congr fun w hw => ?_
  have := h w hw
  simp
  omega
/-- wishes of n customers for n chairs are good exactly if at least k of them are below k, for each k -/
theorem good_below (l : List Int) (h : Row (l.length : Int) l) : (sitV (l.length : Int) l).2 = true ↔ ∀ k : Nat, 1 ≤ k → k ≤ l.length → k ≤ below l (k : Int) := by
  obtain ⟨S', cs, hP, e⟩ := sitV_park _ l h
  have hg := good_iff hP
  rw [List.length_map] at hg
  have e2 : (sitV (l.length : Int) l).2 = true ↔ ∀ c ∈ cs, c < l.length := by
    rw [e]
    by_cases c : cs.all (fun c => decide ((c : Int) < (l.length : Int))) = true
    · rw [if_pos c]
      simpa using c
    · rw [if_neg c]
      simpa using c
  rw [e2, hg]
  constructor
  · intro g k h1 h2
    have := g k h1 h2
    rwa [below_nat l (fun w hw => (h.all w hw).1)] at this
  · intro g k h1 h2
    rw [below_nat l (fun w hw => (h.all w hw).1)]
    exact g k h1 h2
theorem whole_ev (l : List Int) (hl : l.length ≤ 1000000) : Ev (fun k => pomaderef03_Whole.f k l) (if l.length = 0 ∨ l.length > 30 then 3 else rowV (l.length : Int) l) := by
  by_cases c1 : l.length = 0
  · rw [if_pos (Or.inl c1)]
    exact Ev.congr (fun k => by unfold pomaderef03_Whole.f; rw [if_pos (by omega)]) (Ev.now _)
  by_cases c2 : l.length > 30
  · rw [if_pos (Or.inr c2)]
    exact Ev.congr (fun k => by unfold pomaderef03_Whole.f; rw [if_neg (by omega), if_pos (by omega)]) (Ev.now _)
  rw [if_neg (by omega)]
  refine Ev.congr (fun k => by unfold pomaderef03_Whole.f; rw [if_neg (by omega), if_neg (by omega)]) ?_
  exact Ev.bind (row_ev _ l hl) (Ev.now _)
end Go.Proofs.Ytfopeenjpdaacaa.L
end
section
/- Lists of wishes that begin with some: how many go on to good ones, chair by chair; the same number one wish later. -/
namespace Go.Proofs.Ytfopeenjpdaacaa.MRank
/-- how many choices of m out of j -/
def C : Nat → Nat → Nat
  | _, 0 => 1
  | 0, _ + 1 => 0
  | j + 1, m + 1 => C j m + C j (m + 1)
theorem C_zero (j : Nat) : C j 0 = 1 := by cases j <;> rfl
theorem C_gt : ∀ j m, j < m → C j m = 0
  | _, 0, h => by omega
  | 0, _ + 1, _ => rfl
  | j + 1, m + 1, h => by simp only [C]; rw [C_gt j m (by omega), C_gt j (m + 1) (by omega)]
/-- a sum over 0 .. n - 1 -/
def sm (n : Nat) (f : Nat → Nat) : Nat := match n with
  | 0 => 0
  | n + 1 => sm n f + f n
theorem sm_congr {f g : Nat → Nat} : ∀ n, (∀ i, i < n → f i = g i) → sm n f = sm n g
  | 0, _ => rfl
  | n + 1, h => by simp only [sm]; rw [sm_congr n (fun i hi => h i (by omega)), h n (by omega)]
theorem sm_add (f g : Nat → Nat) : ∀ n, sm n (fun i => f i + g i) = sm n f + sm n g
  | 0 => rfl
  | n + 1 => by simp only [sm]; rw [sm_add f g n]; omega
theorem sm_mul (a : Nat) (f : Nat → Nat) : ∀ n, sm n (fun i => a * f i) = a * sm n f
  | 0 => rfl
  | n + 1 => by simp only [sm]; rw [sm_mul a f n, Nat.mul_add]
theorem sm_mulr (a : Nat) (f : Nat → Nat) (n : Nat) : sm n (fun i => f i * a) = sm n f * a := by
  rw [Nat.mul_comm, ← sm_mul]; exact sm_congr n (fun i _ => Nat.mul_comm _ _)
theorem sm_zero : ∀ n, sm n (fun _ => 0) = 0
  | 0 => rfl
  | n + 1 => by simp only [sm]; rw [sm_zero n]
theorem sm_front (f : Nat → Nat) : ∀ n, sm (n + 1) f = f 0 + sm n (fun i => f (i + 1))
  | 0 => by simp [sm]
  | n + 1 => by rw [sm, sm_front f n]; simp only [sm]; omega
theorem sm_swap (f : Nat → Nat → Nat) (m : Nat) : ∀ n, sm n (fun i => sm m (fun j => f i j)) = sm m (fun j => sm n (fun i => f i j))
  | 0 => (sm_zero m).symm
  | n + 1 => by
    simp only [sm]
    rw [sm_swap f m n, ← sm_add]
theorem sm_le {f g : Nat → Nat} : ∀ n, (∀ i, i < n → f i ≤ g i) → sm n f ≤ sm n g
  | 0, _ => Nat.le_refl _
  | n + 1, h => by simp only [sm]; have := sm_le n (fun i hi => h i (by omega)); have := h n (by omega); omega
theorem sm_one {f : Nat → Nat} {i : Nat} : ∀ n, i < n → f i ≤ sm n f
  | 0, h => by omega
  | n + 1, h => by
    simp only [sm]
    by_cases e : i = n
    · rw [e]; omega
    · have := sm_one (f := f) n (show i < n by omega); omega
theorem sm_more {f : Nat → Nat} {m : Nat} : ∀ n, m ≤ n → sm m f ≤ sm n f
  | 0, h => by have : m = 0 := by omega
               rw [this]; exact Nat.le_refl _
  | n + 1, h => by
    by_cases e : m = n + 1
    · rw [e]; exact Nat.le_refl _
    · have := sm_more (f := f) n (show m ≤ n by omega); simp only [sm]; omega
theorem sm_cut {f : Nat → Nat} {m : Nat} : ∀ n, m ≤ n → (∀ i, m ≤ i → i < n → f i = 0) → sm n f = sm m f
  | 0, h, _ => by have : m = 0 := by omega
                  rw [this]
  | n + 1, h, z => by
    by_cases e : m = n + 1
    · rw [e]
    · simp only [sm]; rw [sm_cut n (show m ≤ n by omega) (fun i a b => z i a (by omega)), z n (by omega) (by omega)]; omega
/-- d chairs are left, g e of the wishes that are known are for the last e of them, j others wish: so many lists are good -/
def E (g : Nat → Nat) : Nat → Nat → Nat
  | 0, j => if j = 0 then 1 else 0
  | d + 1, j => sm (j + 1) fun m => C j m * (if g d + m ≤ d then E g d m else 0)
theorem E_congr {g h : Nat → Nat} : ∀ d, (∀ e, e < d → g e = h e) → ∀ j, E g d j = E h d j
  | 0, _, j => rfl
  | d + 1, H, j => by
    simp only [E]
    refine sm_congr _ (fun m _ => ?_)
    rw [H d (by omega), E_congr d (fun e he => H e (by omega)) m]
/-- one more wish, for the chair with y - 1 chairs behind it -/
def up (g : Nat → Nat) (y : Nat) : Nat → Nat := fun e => g e + if y ≤ e then 1 else 0
theorem E_one (g : Nat → Nat) : ∀ d j, E g d (j + 1) = sm d (fun y => E (up g (y + 1)) d j)
  | 0, j => by simp [E, sm]
  | d + 1, j => by
    have hp : ∀ a : Nat → Nat, sm (j + 2) (fun m => C (j + 1) m * a m) = sm (j + 1) (fun m => C j m * a m) + sm (j + 1) (fun m => C j m * a (m + 1)) := by
      intro a
      rw [sm_front, sm_congr (j + 1) (g := fun m => C j m * a (m + 1) + C j (m + 1) * a (m + 1)) (fun m _ => by simp only [C]; rw [Nat.add_mul]), sm_add, C_zero]
      have e := sm_front (fun m => C j m * a m) (j + 1)
      simp only [sm, C_gt j (j + 1) (by omega), C_zero] at e ⊢
      omega
    show sm (j + 2) _ = sm d _ + E (up g (d + 1)) (d + 1) j
    rw [hp (fun m => if g d + m ≤ d then E g d m else 0), Nat.add_comm]
    congr 1
    · have : ∀ y, y < d → E (up g (y + 1)) (d + 1) j = sm (j + 1) (fun m => C j m * (if g d + (m + 1) ≤ d then E (up g (y + 1)) d m else 0)) := by
        intro y hy
        simp only [E]
        refine sm_congr _ (fun m _ => ?_)
        have : up g (y + 1) d + m = g d + (m + 1) := by unfold up; rw [if_pos (by omega)]; omega
        rw [this]
      rw [sm_congr d this, sm_swap]
      refine sm_congr _ (fun m _ => ?_)
      rw [sm_mul]
      congr 1
      split
      · exact E_one g d m
      · exact (sm_zero d).symm
    · simp only [E]
      refine sm_congr _ (fun m _ => ?_)
      have h0 : up g (d + 1) d = g d := by unfold up; rw [if_neg (by omega)]; rfl
      rw [h0, E_congr d (g := g) (h := up g (d + 1)) (fun e he => by unfold up; rw [if_neg (by omega)]; rfl) m]
/-- forward: now r = how many ways there are up to here so that r are left; the next chair, with d chairs behind it -/
def fw (g : Nat → Nat) (L d : Nat) (now : Nat → Nat) : Nat → Nat := fun m => if g d + m ≤ d then sm (L + 1) (fun r => now r * C r m) else 0
theorem fw_keep (g : Nat → Nat) (L d : Nat) (now : Nat → Nat) : sm (L + 1) (fun m => fw g L d now m * E g d m) = sm (L + 1) (fun r => now r * E g (d + 1) r) := by
  have h : ∀ r, r < L + 1 → now r * E g (d + 1) r = sm (L + 1) (fun m => now r * C r m * (if g d + m ≤ d then E g d m else 0)) := by
    intro r hr
    simp only [E]
    rw [← sm_mul, sm_congr (r + 1) (g := fun m => now r * C r m * (if g d + m ≤ d then E g d m else 0)) (fun m _ => by rw [Nat.mul_assoc])]
    refine (sm_cut (L + 1) (by omega) (fun m a b => ?_)).symm
    rw [C_gt r m (by omega)]; simp
  rw [sm_congr (L + 1) h, sm_swap]
  refine sm_congr _ (fun m _ => ?_)
  unfold fw
  split
  · rw [sm_mulr]
  · simp [sm_zero]
/-- the forward table, c chairs on -/
def Fw (g : Nat → Nat) (n L : Nat) : Nat → Nat → Nat
  | 0 => fun r => if r = L then 1 else 0
  | c + 1 => fw g L (n - c - 1) (Fw g n L c)
theorem Fw_keep (g : Nat → Nat) (n L : Nat) : ∀ c, c ≤ n → sm (L + 1) (fun r => Fw g n L c r * E g (n - c) r) = E g n L
  | 0, _ => by
    simp only [Fw, sm, if_true, Nat.one_mul, Nat.sub_zero]
    rw [sm_congr L (g := fun _ => 0) (fun i hi => by rw [if_neg (by omega)]; simp), sm_zero]; omega
  | c + 1, h => by
    have := Fw_keep g n L c (by omega)
    rw [show n - c = (n - c - 1) + 1 by omega, ← fw_keep] at this
    simp only [Fw]
    rw [show n - (c + 1) = n - c - 1 by omega]
    exact this
theorem Fw_end (g : Nat → Nat) (n L : Nat) : Fw g n L n 0 = E g n L := by
  have h := Fw_keep g n L n (Nat.le_refl _)
  rw [Nat.sub_self, sm_front, sm_congr L (g := fun _ => 0) (fun i _ => by simp [E]), sm_zero] at h
  simpa [E] using h
/-- no number of the table is great -/
theorem binom (x : Nat) : ∀ r, sm (r + 1) (fun m => C r m * x ^ m) = (1 + x) ^ r
  | 0 => by simp [sm, C]
  | r + 1 => by
    rw [sm_front, sm_congr (r + 1) (g := fun m => x * (C r m * x ^ m) + C r (m + 1) * x ^ (m + 1)) (fun m _ => by simp only [C]; rw [Nat.pow_succ]; rw [Nat.add_mul]; congr 1; rw [← Nat.mul_assoc, Nat.mul_comm]), sm_add, sm_mul, binom x r]
    have e := sm_front (fun m => C r m * x ^ m) (r + 1)
    have e2 := binom x r
    simp only [sm, C_gt r (r + 1) (by omega), C_zero] at e e2 ⊢
    rw [Nat.pow_succ (1 + x) r, Nat.mul_add, Nat.mul_comm _ x]
    simp only [Nat.pow_zero] at e ⊢
    omega
theorem Fw_sum (g : Nat → Nat) (n L : Nat) : ∀ c x, sm (L + 1) (fun r => Fw g n L c r * x ^ r) ≤ (c + x) ^ L
  | 0, x => by
    simp only [Fw, sm, if_true, Nat.one_mul, Nat.zero_add]
    rw [sm_congr L (g := fun _ => 0) (fun i hi => by rw [if_neg (by omega)]; simp), sm_zero]; omega
  | c + 1, x => by
    have h := Fw_sum g n L c (1 + x)
    rw [show c + 1 + x = c + (1 + x) by omega]
    refine Nat.le_trans ?_ h
    have h1 : ∀ r, r < L + 1 → Fw g n L c r * (1 + x) ^ r = sm (L + 1) (fun m => Fw g n L c r * C r m * x ^ m) := by
      intro r hr
      rw [← binom, ← sm_mul, sm_congr (r + 1) (g := fun m => Fw g n L c r * C r m * x ^ m) (fun m _ => by rw [Nat.mul_assoc])]
      refine (sm_cut (L + 1) (by omega) (fun m a b => ?_)).symm
      rw [C_gt r m (by omega)]; simp
    rw [sm_congr (L + 1) h1, sm_swap]
    refine sm_le _ (fun m _ => ?_)
    simp only [Fw, fw]
    split
    · rw [← sm_mulr]; exact Nat.le_refl _
    · simp
theorem Fw_le (g : Nat → Nat) (n L c r : Nat) (hr : r ≤ L) : Fw g n L c r ≤ (c + 1) ^ L := by
  refine Nat.le_trans ?_ (Fw_sum g n L c 1)
  have := sm_one (f := fun r => Fw g n L c r * 1 ^ r) (L + 1) (show r < L + 1 by omega)
  simpa using this
end Go.Proofs.Ytfopeenjpdaacaa.MRank
end
section
/- Ranks of good lists, and the list with a rank: plainly, over any numbers that are the sums of those of the lists that are longer by one. -/
namespace Go.Proofs.Ytfopeenjpdaacaa.MRanked
open Go.Proofs.Ytfopeenjpdaacaa.MRank
/-- how many good lists come before p ++ xs among those that begin with p -/
def rk (c : List Nat → Nat) (p : List Nat) : List Nat → Nat
  | [] => 0
  | x :: xs => sm x (fun y => c (p ++ [y])) + rk c (p ++ [x]) xs
/-- the first x whose lists hold the rank r, and the rest of r -/
def pick (c : List Nat → Nat) (p : List Nat) : Nat → Nat → Nat → Nat × Nat
  | 0, x, r => (x, r)
  | f + 1, x, r => if r < c (p ++ [x]) then (x, r) else pick c p f (x + 1) (r - c (p ++ [x]))
def atL (c : List Nat → Nat) (n : Nat) (p : List Nat) : Nat → Nat → List Nat
  | 0, _ => []
  | d + 1, r => (pick c p n 0 r).1 :: atL c n (p ++ [(pick c p n 0 r).1]) d (pick c p n 0 r).2
structure Tree (c : List Nat → Nat) (n : Nat) : Prop where
  sum : ∀ p : List Nat, p.length < n → (∀ x ∈ p, x < n) → c p = sm n (fun x => c (p ++ [x]))
  leaf : ∀ p : List Nat, p.length = n → c p ≤ 1
variable {c : List Nat → Nat} {n : Nat}
theorem pick_spec (p : List Nat) : ∀ f x r, x + f = n → sm x (fun y => c (p ++ [y])) + r < sm n (fun y => c (p ++ [y])) →
    ((pick c p f x r).1 < n ∧ (pick c p f x r).2 < c (p ++ [(pick c p f x r).1]) ∧ sm (pick c p f x r).1 (fun y => c (p ++ [y])) + (pick c p f x r).2 = sm x (fun y => c (p ++ [y])) + r)
  | 0, x, r, h, hr => by
    have : x = n := by omega
    rw [this] at hr; omega
  | f + 1, x, r, h, hr => by
    simp only [pick]
    split
    · exact ⟨by omega, by assumption, rfl⟩
    · have e : sm (x + 1) (fun y => c (p ++ [y])) = sm x (fun y => c (p ++ [y])) + c (p ++ [x]) := rfl
      obtain ⟨a, b, d⟩ := pick_spec p f (x + 1) (r - c (p ++ [x])) (by omega) (by omega)
      exact ⟨a, b, by omega⟩
theorem at_spec (T : Tree c n) : ∀ d (p : List Nat) r, p.length + d = n → (∀ x ∈ p, x < n) → r < c p →
    (atL c n p d r).length = d ∧ (∀ x ∈ atL c n p d r, x < n) ∧ c (p ++ atL c n p d r) = 1 ∧ rk c p (atL c n p d r) = r
  | 0, p, r, h, _, hr => by
    have := T.leaf p (by omega)
    exact ⟨rfl, fun x hx => by simp [atL] at hx, by simp only [atL, List.append_nil]; omega, by simp only [atL, rk]; omega⟩
  | d + 1, p, r, h, hp, hr => by
    rw [T.sum p (by omega) hp] at hr
    obtain ⟨a, b, e⟩ := pick_spec (c := c) (n := n) p n 0 r (by omega) (by simpa [sm] using hr)
    obtain ⟨h1, h2, h3, h4⟩ := at_spec T d (p ++ [(pick c p n 0 r).1]) (pick c p n 0 r).2 (by simp; omega) (fun x hx => by
      rcases List.mem_append.1 hx with k | k
      · exact hp x k
      · rw [List.mem_singleton.1 k]; exact a) b
    refine ⟨by simp only [atL, List.length_cons, h1], fun x hx => ?_, ?_, ?_⟩
    · simp only [atL] at hx
      rcases List.mem_cons.1 hx with k | k
      · rw [k]; exact a
      · exact h2 x k
    · simp only [atL]
      rw [List.append_assoc] at h3
      exact h3
    · simp only [atL, rk, h4]
      simpa [sm] using e
theorem rk_lt (T : Tree c n) : ∀ (xs p : List Nat), p.length + xs.length = n → (∀ x ∈ p ++ xs, x < n) → c (p ++ xs) = 1 → rk c p xs < c p
  | [], p, _, _, h => by simp only [List.append_nil] at h; simp only [rk]; omega
  | x :: xs, p, hl, hx, h => by
    have e : p ++ x :: xs = (p ++ [x]) ++ xs := by simp
    have h1 := rk_lt T xs (p ++ [x]) (by simp at hl ⊢; omega) (by rw [← e]; exact hx) (by rw [← e]; exact h)
    have xn : x < n := hx x (by simp)
    rw [T.sum p (by simp at hl; omega) (fun y hy => hx y (List.mem_append_left _ hy))]
    have e2 : sm (x + 1) (fun y => c (p ++ [y])) = sm x (fun y => c (p ++ [y])) + c (p ++ [x]) := rfl
    have := sm_more (f := fun y => c (p ++ [y])) (m := x + 1) n (by omega)
    simp only [rk]; omega
/-- how many good lists of n wishes begin with p -/
def gof (n : Nat) (p : List Nat) : Nat → Nat := fun d => p.countP (fun x => decide (n ≤ x + d))
def cnt (n : Nat) (p : List Nat) : Nat := E (gof n p) n (n - p.length)
theorem gof_add (n : Nat) (p : List Nat) (x : Nat) (hx : x < n) : gof n (p ++ [x]) = up (gof n p) (n - x) := by
  funext d
  simp only [gof, up, List.countP_append, List.countP_singleton]
  congr 1
  by_cases h : n ≤ x + d
  · rw [if_pos (by simpa using h), if_pos (by omega)]
  · rw [if_neg (by simpa using h), if_neg (by omega)]
theorem sm_rev (f : Nat → Nat) : ∀ n, sm n (fun i => f (n - 1 - i)) = sm n f
  | 0 => rfl
  | n + 1 => by
    rw [sm_front]
    simp only [sm]
    have e := sm_rev f n
    rw [sm_congr n (g := fun i => f (n - 1 - i)) (fun i hi => by congr 1; omega), e]
    simp [Nat.add_comm]
theorem E_leaf (g : Nat → Nat) : ∀ d, E g d 0 = if (∀ e, e < d → g e ≤ e) then 1 else 0
  | 0 => by simp [E]
  | d + 1 => by
    simp only [E, sm, C, Nat.zero_add, Nat.add_zero, Nat.one_mul]
    rw [E_leaf g d]
    by_cases h : ∀ e, e < d + 1 → g e ≤ e
    · rw [if_pos h, if_pos (h d (by omega)), if_pos (fun e he => h e (by omega))]
    · rw [if_neg h]
      split
      · rw [if_neg (fun k => h (fun e he => by
          by_cases q : e = d
          · subst q; assumption
          · exact k e (by omega)))]
      · rfl
theorem cnt_tree (n : Nat) : Tree (cnt n) n where
  sum := fun p hl hp => by
    unfold cnt
    rw [show n - p.length = (n - p.length - 1) + 1 by omega, E_one, ← sm_rev]
    refine sm_congr n (fun i hi => ?_)
    rw [gof_add n p i hi, List.length_append, List.length_singleton]
    rw [show n - 1 - i + 1 = n - i by omega, show n - (p.length + 1) = n - p.length - 1 by omega]
  leaf := fun p hl => by
    unfold cnt
    rw [hl, Nat.sub_self, E_leaf]
    split <;> omega
theorem cnt_good (n : Nat) (p : List Nat) (hl : p.length = n) : cnt n p = 1 ↔ ∀ d, d < n → gof n p d ≤ d := by
  unfold cnt
  rw [hl, Nat.sub_self, E_leaf]
  split <;> simp_all
end Go.Proofs.Ytfopeenjpdaacaa.MRanked
end
section
/- How many lists go on from some wishes: the program's number and the specification's are the plain one. -/
namespace Go.Proofs.Ytfopeenjpdaacaa.L
open Go.RowKit Go.Proofs.Ytfopeenjpdaacaa.PC Go.Proofs.YtfopeenjpdaacaaW.PrintWords Go.Proofs.YtfopeenjpdaacaaW.PrintLast Go.Proofs.Ytfopeenjpdaacaa.MRank Go.Proofs.Ytfopeenjpdaacaa.MRanked
set_option maxRecDepth 100000
/-- a row of these numbers -/
def prow : Nat → List Nat
  | 0 => [1]
  | n + 1 => List.zipWith (· + ·) (0 :: prow n) (prow n ++ [0])
theorem prow_len : ∀ n, (prow n).length = n + 1
  | 0 => rfl
  | n + 1 => by simp [prow, prow_len n]
theorem C_row : ∀ n k, C n k = (prow n).getD k 0
  | 0, 0 => rfl
  | 0, k + 1 => by simp [C, prow]
  | n + 1, 0 => by
    have h := C_row n 0
    rw [C_zero] at h ⊢
    have hl := prow_len n
    cases hp : prow n with
    | nil => rw [hp] at hl; simp at hl
    | cons a t => rw [hp] at h; simp [prow, hp] at h ⊢; exact h
  | n + 1, k + 1 => by
    have h1 := C_row n k
    have h2 := C_row n (k + 1)
    have hl := prow_len n
    simp only [C, h1, h2, prow, List.getD_eq_getElem?_getD, List.getElem?_zipWith, List.getElem?_cons_succ, List.getElem?_append]
    by_cases c1 : k + 1 < (prow n).length
    · rw [if_pos c1]; simp [show k < (prow n).length by omega, c1]
    · rw [if_neg c1]
      by_cases c2 : k < (prow n).length
      · have : k + 1 - (prow n).length = 0 := by omega
        rw [List.getElem?_eq_none (show (prow n).length ≤ k + 1 by omega)]
        simp [c2, this]
      · simp [List.getElem?_eq_none (show (prow n).length ≤ k by omega), List.getElem?_eq_none (show (prow n).length ≤ k + 1 by omega)]
theorem choose_p0 : ∀ n : Nat, n < 17 → ∀ k : Nat, k ≤ n → chairs_choose.f 20 (n : Int) (k : Int) = some (((prow n).getD k 0 : Nat) : Int) := by decide +kernel
theorem choose_r0 : ∀ n : Nat, n < 17 → ∀ k : Nat, k ≤ n → pomaderef03_choose.f 20 (n : Int) (k : Int) = some (((prow n).getD k 0 : Nat) : Int) := by decide +kernel
theorem row_sym : ∀ n : Nat, n < 17 → ∀ k : Nat, k ≤ n → (prow n).getD (n - k) 0 = (prow n).getD k 0 := by decide +kernel
theorem wsub {r k : Nat} (h : k ≤ r) (hr : r ≤ 1000000) : wrap64 ((r : Int) - (k : Int)) = ((r - k : Nat) : Int) := by rw [w64 (by omega) (by omega)]; omega
theorem wadd {a b : Nat} (h : a + b ≤ 1000000) : wrap64 ((a : Int) + (b : Int)) = ((a + b : Nat) : Int) := by rw [w64 (by omega) (by omega)]; rfl
theorem w1 {a : Nat} (h : a ≤ 1000000) : wrap64 ((a : Int) + 1) = ((a + 1 : Nat) : Int) := by rw [w64 (by omega) (by omega)]; rfl
theorem choose_p (n : Nat) (hn : n < 17) (k : Nat) (hk : k ≤ n) : chairs_choose.f 20 (n : Int) (k : Int) = some ((C n k : Nat) : Int) := by rw [C_row]; exact choose_p0 n hn k hk
theorem choose_r (n : Nat) (hn : n < 17) (k : Nat) (hk : k ≤ n) : pomaderef03_choose.f 20 (n : Int) (k : Int) = some ((C n k : Nat) : Int) := by rw [C_row]; exact choose_r0 n hn k hk
theorem C_sym (n : Nat) (hn : n < 17) (k : Nat) (hk : k ≤ n) : C n (n - k) = C n k := by rw [C_row, C_row]; exact row_sym n hn k hk
theorem chooseP_ev {n k : Nat} (hn : n ≤ 16) (hk : k ≤ n) : Ev (fun q => chairs_choose.f q (n : Int) (k : Int)) ((C n k : Nat) : Int) := Ev.of (chairs_choose.mono _ _) (choose_p n (by omega) k hk)
theorem chooseR_ev {n k : Nat} (hn : n ≤ 16) (hk : k ≤ n) : Ev (fun q => pomaderef03_choose.f q (n : Int) (k : Int)) ((C n k : Nat) : Int) := Ev.of (pomaderef03_choose.mono _ _) (choose_r n (by omega) k hk)
/-- a table of numbers -/
def tabL (L : Nat) (F : Nat → Nat) : List Int := (List.range (L + 1)).map fun t => ((F t : Nat) : Int)
theorem tab_len (L : Nat) (F : Nat → Nat) : (tabL L F).length = L + 1 := by simp [tabL]
theorem tab_rd {L : Nat} {F : Nat → Nat} {t : Nat} (h : t ≤ L) : rd (tabL L F) (t : Int) = ((F t : Nat) : Int) := by
  simp [rd, tabL, List.getD_eq_getElem?_getD, List.getElem?_range, show t < L + 1 by omega]
theorem tab_congr {L : Nat} {F G : Nat → Nat} (h : ∀ t, t ≤ L → F t = G t) : tabL L F = tabL L G := by
  unfold tabL
  refine List.map_congr_left (fun t ht => ?_)
  rw [h t (by have := List.mem_range.1 ht; omega)]
theorem tab_set {L : Nat} {F : Nat → Nat} {t v : Nat} (h : t ≤ L) : (tabL L F).set t ((v : Nat) : Int) = tabL L (fun i => if i = t then v else F i) := by
  apply List.ext_getElem?
  intro i
  simp only [tabL, List.getElem?_set, List.length_map, List.length_range, List.getElem?_map, List.getElem?_range]
  by_cases e : t = i
  · subst e
    simp [show t < L + 1 by omega]
  · rw [if_neg e]
    by_cases k : i < L + 1
    · simp [k, show i ≠ t by omega]
    · simp [List.getElem?_range, k]
theorem tab_zero (L : Nat) : List.replicate (L + 1) (0 : Int) = tabL L (fun _ => 0) := by
  apply List.ext_getElem?
  intro i
  simp only [tabL, List.getElem?_replicate, List.getElem?_map]
  by_cases k : i < L + 1
  · simp [k]
  · simp [List.getElem?_range, k]
/-- the new row, r of the old one and k of its choices on -/
def P (g : Nat → Nat) (d : Nat) (F : Nat → Nat) (r k m : Nat) : Nat := if g d + m ≤ d then sm r (fun q => F q * C q m) + (if r < m + k ∧ m ≤ r then F r * C r m else 0) else 0
theorem P_end (g : Nat → Nat) (d : Nat) (F : Nat → Nat) (r m : Nat) : P g d F r (r + 1) m = P g d F (r + 1) 0 m := by
  unfold P
  split
  · simp only [sm]
    rw [if_neg (show ¬ (r + 1 < m + 0 ∧ m ≤ r + 1) by omega)]
    by_cases h : m ≤ r
    · rw [if_pos ⟨by omega, h⟩]; omega
    · rw [if_neg (by omega), C_gt r m (by omega)]; omega
  · rfl
theorem P_le {g : Nat → Nat} {L d : Nat} {F : Nat → Nat} {r k m : Nat} (hr : r ≤ L) : P g d F r k m ≤ fw g L d F m := by
  unfold P fw
  split
  · have := sm_more (f := fun q => F q * C q m) (m := r + 1) (L + 1) (by omega)
    simp only [sm] at this ⊢
    split <;> omega
  · exact Nat.le_refl _
theorem P_all (g : Nat → Nat) (L d : Nat) (F : Nat → Nat) (m : Nat) : P g d F (L + 1) 0 m = fw g L d F m := by
  unfold P fw
  split
  · rw [if_neg (by omega)]; omega
  · rfl
section
variable {n L c d cm : Nat} {g F : Nat → Nat} {H : List Int} {res : Int}
theorem going_l3 (hn : n ≤ 16) (hL : L ≤ 15) (hc : c < n) (hd : d + c + 1 = n) (hcm : cm + L + g d = n) (hb : ∀ m, m ≤ L → fw g L d F m ≤ 9000000000000000000) (r : Nat) (hr : r ≤ L)
    (h : Ev (fun q => pomaderef03_going.l2 q (n : Int) H (L : Int) (tabL L F) (cm : Int) (c : Int) (tabL L (P g d F (r + 1) 0)) ((r + 1 : Nat) : Int)) res) :
    ∀ e k, k + e = r + 1 → Ev (fun q => pomaderef03_going.l3 q (n : Int) H (L : Int) (tabL L F) (cm : Int) (c : Int) (tabL L (P g d F r k)) (r : Int) (k : Int)) res := by
  intro e
  induction e with
  | zero =>
    intro k hk
    obtain rfl : k = r + 1 := by omega
    rw [tab_congr (fun t _ => P_end g d F r t)]
    refine Ev.step (fun q => ?_) h
    simp only [pomaderef03_going.l3]
    rw [if_neg (by omega), w64 (x := (r : Int) + 1) (by omega) (by omega)]
    rfl
  | succ e ih =>
    intro k hk
    have hi := ih (k + 1) (by omega)
    by_cases cond : g d + (r - k) ≤ d
    · have hP : ∀ t, t ≤ L → (if t = r - k then P g d F r k (r - k) + F r * C r k else P g d F r k t) = P g d F r (k + 1) t := by
        intro t ht
        by_cases et : t = r - k
        · subst et
          rw [if_pos rfl]
          unfold P
          rw [if_pos cond, if_pos cond, if_neg (by omega), if_pos (by omega), C_sym r (by omega) k (by omega)]; omega
        · rw [if_neg et]
          unfold P
          split
          · by_cases q1 : r < t + k ∧ t ≤ r
            · rw [if_pos q1, if_pos (by omega)]
            · rw [if_neg q1, if_neg (by omega)]
          · rfl
      have hle : P g d F r k (r - k) + F r * C r k ≤ 9000000000000000000 := by
        have h1 := hP (r - k) (by omega)
        rw [if_pos rfl] at h1
        rw [h1]
        exact Nat.le_trans (P_le hr) (hb _ (by omega))
      refine Ev.step (f := fun q => (pomaderef03_choose.f q (r : Int) (k : Int)).bind fun t => pomaderef03_going.l3 q (n : Int) H (L : Int) (tabL L F) (cm : Int) (c : Int) ((tabL L (P g d F r k)).set (r - k) (wrap64 (((P g d F r k (r - k) : Nat) : Int) + wrap64 (((F r : Nat) : Int) * t)))) (r : Int) ((k + 1 : Nat) : Int)) (fun q => ?_) (Ev.bind (chooseR_ev (by omega) (by omega)) ?_)
      · simp only [pomaderef03_going.l3, wsub (show k ≤ r by omega) (show r ≤ 1000000 by omega), wadd (show cm + L ≤ 1000000 by omega), wsub (show r - k ≤ cm + L by omega) (show cm + L ≤ 1000000 by omega), w1 (show c ≤ 1000000 by omega), w1 (show k ≤ 1000000 by omega)]
        rw [if_pos (by omega), if_pos (by omega), if_pos (by omega), if_pos (by rw [tab_len]; omega), if_pos (by omega), if_pos (by rw [tab_len]; omega), tab_rd (by omega), tab_rd hr, Int.toNat_natCast]
      · have e6 : ((F r : Nat) : Int) * ((C r k : Nat) : Int) = ((F r * C r k : Nat) : Int) := (Int.natCast_mul _ _).symm
        rw [e6, w64 (x := ((F r * C r k : Nat) : Int)) (by omega) (by omega), w64 (by omega) (by omega), ← Int.natCast_add, tab_set (by omega), tab_congr hP]
        exact hi
    · have hP : tabL L (P g d F r k) = tabL L (P g d F r (k + 1)) := by
        refine tab_congr (fun t ht => ?_)
        unfold P
        split
        · by_cases q1 : r < t + k ∧ t ≤ r
          · rw [if_pos q1, if_pos (by omega)]
          · rw [if_neg q1, if_neg (fun q2 => by
              have : t = r - k := by omega
              subst this; exact cond (by assumption))]
        · rfl
      rw [hP]
      refine Ev.step (fun q => ?_) hi
      simp only [pomaderef03_going.l3, wsub (show k ≤ r by omega) (show r ≤ 1000000 by omega), wadd (show cm + L ≤ 1000000 by omega), wsub (show r - k ≤ cm + L by omega) (show cm + L ≤ 1000000 by omega), w1 (show c ≤ 1000000 by omega), w1 (show k ≤ 1000000 by omega)]
      rw [if_pos (by omega), if_neg (by omega)]
theorem going_l2 (hn : n ≤ 16) (hL : L ≤ 15) (hc : c < n) (hd : d + c + 1 = n) (hcm : cm + L + g d = n) (hb : ∀ m, m ≤ L → fw g L d F m ≤ 9000000000000000000)
    (h : Ev (fun q => pomaderef03_going.l1 q (n : Int) H (L : Int) (tabL L (fw g L d F)) (cm : Int) ((c + 1 : Nat) : Int)) res) :
    ∀ e r, r + e = L + 1 → Ev (fun q => pomaderef03_going.l2 q (n : Int) H (L : Int) (tabL L F) (cm : Int) (c : Int) (tabL L (P g d F r 0)) (r : Int)) res := by
  intro e
  induction e with
  | zero =>
    intro r hr
    obtain rfl : r = L + 1 := by omega
    rw [tab_congr (fun t _ => P_all g L d F t)]
    refine Ev.step (fun q => ?_) h
    simp only [pomaderef03_going.l2]
    rw [if_neg (by omega), w64 (x := (c : Int) + 1) (by omega) (by omega)]
    rfl
  | succ e ih =>
    intro r hr
    refine Ev.step (fun q => ?_) (going_l3 hn hL hc hd hcm hb r (by omega) (ih (r + 1) (by omega)) (r + 1) 0 (by omega))
    simp only [pomaderef03_going.l2]
    rw [if_pos (by omega)]
    rfl
end
/-- how many of the wishes are below c -/
def bl (p : List Nat) (c : Nat) : Nat := p.countP fun x => decide (x < c)
theorem bl_gof (n : Nat) (p : List Nat) (c : Nat) (hc : c ≤ n) : bl p c + gof n p (n - c) = p.length := by
  unfold bl gof
  induction p with
  | nil => rfl
  | cons x p ih =>
    rw [List.countP_cons, List.countP_cons, List.length_cons]
    by_cases h : x < c
    · rw [if_pos (by simpa using h), if_neg (by simp; omega)]; omega
    · rw [if_neg (by simpa using h), if_pos (by simp; omega)]; omega
/-- how many of the wishes are x -/
def at1 (p : List Nat) (x : Nat) : Nat := p.countP fun y => decide (y = x)
theorem bl_step (p : List Nat) (c : Nat) : bl p (c + 1) = bl p c + at1 p c := by
  unfold bl at1
  induction p with
  | nil => rfl
  | cons x p ih =>
    rw [List.countP_cons, List.countP_cons, List.countP_cons]
    by_cases h : x < c
    · rw [if_pos (by simp; omega), if_pos (by simpa using h), if_neg (by simp; omega)]; omega
    · by_cases h2 : x = c
      · rw [if_pos (by simp; omega), if_neg (by simpa using h), if_pos (by simpa using h2)]; omega
      · rw [if_neg (by simp; omega), if_neg (by simpa using h), if_neg (by simpa using h2)]; omega
theorem pow_small : ∀ c : Nat, c < 17 → ∀ L : Nat, L < 16 → (c + 1) ^ L ≤ 2862423051509815793 := by decide +kernel
theorem Fw_small (g : Nat → Nat) {n L c r : Nat} (hc : c ≤ 16) (hL : L ≤ 15) (hr : r ≤ L) : Fw g n L c r ≤ 9000000000000000000 := by
  have h1 := Fw_le g n L c r hr
  have h2 := pow_small c (by omega) L (by omega)
  omega
theorem going_l1 {n L : Nat} {p : List Nat} (hn : n ≤ 16) (n1 : 1 ≤ n) (hL : L ≤ 15) (hp : p.length + L = n) :
    ∀ e c, c + e = n → Ev (fun q => pomaderef03_going.l1 q (n : Int) (tabL (n - 1) (at1 p)) (L : Int) (tabL L (Fw (gof n p) n L c)) (bl p c : Int) (c : Int)) ((cnt n p : Nat) : Int) := by
  intro e
  induction e with
  | zero =>
    intro c hc
    obtain rfl : c = n := by omega
    have h0 : Fw (gof c p) c L c 0 = cnt c p := by
      rw [Fw_end]; unfold cnt; congr 1; omega
    refine Ev.step (f := fun _ => some (((cnt c p : Nat) : Int))) (fun q => ?_) (Ev.now _)
    simp only [pomaderef03_going.l1]
    rw [if_neg (by omega), if_pos (by rw [tab_len]; omega), ← h0]
    have := tab_rd (L := L) (F := Fw (gof c p) c L c) (t := 0) (by omega)
    rw [← this]
    rfl
  | succ e ih =>
    intro c hc
    have hi := ih (c + 1) (by omega)
    have hg := bl_gof n p (c + 1) (by omega)
    have hb : ∀ m, m ≤ L → fw (gof n p) L (n - c - 1) (Fw (gof n p) n L c) m ≤ 9000000000000000000 := fun m hm => Fw_small (gof n p) (n := n) (L := L) (c := c + 1) (r := m) (by omega) hL hm
    have h2 := going_l2 (n := n) (L := L) (c := c) (d := n - c - 1) (cm := bl p (c + 1)) (g := gof n p) (F := Fw (gof n p) n L c) (H := tabL (n - 1) (at1 p)) hn hL (by omega) (by omega)
      (by rw [show n - (c + 1) = n - c - 1 by omega] at hg; omega) hb hi (L + 1) 0 (by omega)
    have hz : tabL L (P (gof n p) (n - c - 1) (Fw (gof n p) n L c) 0 0) = List.replicate (L + 1) (0 : Int) := by
      rw [tab_zero]
      refine tab_congr (fun t _ => ?_)
      unfold P
      split
      · rw [if_neg (by omega)]; rfl
      · rfl
    rw [hz] at h2
    refine Ev.step (fun q => ?_) h2
    simp only [pomaderef03_going.l1, w1 (show L ≤ 1000000 by omega), Int.toNat_natCast]
    rw [if_pos (by omega), if_pos (by omega), if_pos (by rw [tab_len]; omega), if_pos (by omega), if_pos (by omega), tab_rd (by omega)]
    have hbl := bl_step p c
    have hlt : bl p (c + 1) ≤ p.length := List.countP_le_length
    rw [wadd (by omega), ← hbl]
    rfl
theorem at1_app (p : List Nat) (x y : Nat) : at1 (p ++ [x]) y = if y = x then at1 p x + 1 else at1 p y := by
  unfold at1
  rw [List.countP_append, List.countP_singleton]
  by_cases h : y = x
  · subst h; simp
  · rw [if_neg h, if_neg (by simp; omega)]; rfl
theorem going_l0 {n : Nat} {l : List Int} (hn : n ≤ 16) (n1 : 1 ≤ n) (hl : 1 ≤ l.length) (hln : l.length ≤ n) (hw : ∀ x ∈ l, 0 ≤ x ∧ x < (n : Int)) :
    ∀ e i, i + e = l.length → Ev (fun q => pomaderef03_going.l0 q (n : Int) l (tabL (n - 1) (at1 ((l.take i).map Int.toNat))) (i : Int)) ((cnt n (l.map Int.toNat) : Nat) : Int) := by
  intro e
  induction e with
  | zero =>
    intro i hi
    obtain rfl : i = l.length := by omega
    rw [List.take_length]
    have h := going_l1 (n := n) (L := n - l.length) (p := l.map Int.toNat) hn n1 (by omega) (by simp; omega) n 0 (by omega)
    refine Ev.step (fun q => ?_) h
    simp only [pomaderef03_going.l0, wsub (show l.length ≤ n by omega) (show n ≤ 1000000 by omega), w1 (show n - l.length ≤ 1000000 by omega), Option.bind_some, Int.toNat_natCast]
    rw [if_neg (by omega), if_pos (by omega), if_pos (by omega), if_pos (by omega), if_pos (by rw [List.length_replicate]; omega)]
    congr 1
    · rw [tab_zero, show (1 : Int) = ((1 : Nat) : Int) by rfl, tab_set (by omega)]
      exact tab_congr (fun t ht => by simp only [Fw])
    · rw [show bl (l.map Int.toNat) 0 = 0 by unfold bl; simp]
      rfl
  | succ e ih =>
    intro i hi
    have h := ih (i + 1) (by omega)
    have hm := hw _ (rd_mem l i (by omega))
    have et : (l.take (i + 1)).map Int.toNat = (l.take i).map Int.toNat ++ [(rd l (i : Int)).toNat] := by
      rw [List.take_succ_eq_append_getElem (by omega), List.map_append]; congr 1; simp [rd, List.getD_eq_getElem?_getD, show i < l.length by omega]
    rw [et] at h
    refine Ev.step (fun q => ?_) h
    obtain ⟨v, hv⟩ : ∃ v : Nat, rd l (i : Int) = (v : Int) := ⟨(rd l (i : Int)).toNat, by omega⟩
    simp only [pomaderef03_going.l0, w1 (show i ≤ 1000000 by omega)]
    rw [hv] at hm
    rw [if_pos (by omega), if_pos (by omega), hv, if_pos (by omega), if_pos (by rw [tab_len]; omega), tab_rd (by omega), Int.toNat_natCast]
    have hle : at1 ((l.take i).map Int.toNat) v ≤ l.length := by
      have h1 : at1 ((l.take i).map Int.toNat) v ≤ ((l.take i).map Int.toNat).length := List.countP_le_length
      rw [List.length_map, List.length_take] at h1; omega
    rw [w64 (by omega) (by omega), show (((at1 ((l.take i).map Int.toNat) v : Nat) : Int) + 1) = ((at1 ((l.take i).map Int.toNat) v + 1 : Nat) : Int) by omega, tab_set (by omega)]
    congr 1
    exact tab_congr (fun t ht => (at1_app _ v t).symm)
theorem going_ev {n : Nat} {l : List Int} (hn : n ≤ 16) (n1 : 1 ≤ n) (hl : 1 ≤ l.length) (hln : l.length ≤ n) (hw : ∀ x ∈ l, 0 ≤ x ∧ x < (n : Int)) :
    Ev (fun q => pomaderef03_going.f q (n : Int) l) ((cnt n (l.map Int.toNat) : Nat) : Int) := by
  refine Ev.congr (fun q => ?_) (going_l0 hn n1 hl hln hw l.length 0 (by omega))
  unfold pomaderef03_going.f
  rw [if_pos (by omega), if_pos (by omega), Int.toNat_natCast]
  congr 1
  rw [show n = (n - 1) + 1 by omega, tab_zero]
  exact tab_congr (fun t _ => rfl)
end Go.Proofs.Ytfopeenjpdaacaa.L
end
section
/- The program's number of lists that go on from some wishes is the plain one. -/
namespace Go.Proofs.Ytfopeenjpdaacaa.L
open Go.RowKit Go.Proofs.Ytfopeenjpdaacaa.PC Go.Proofs.YtfopeenjpdaacaaW.PrintWords Go.Proofs.YtfopeenjpdaacaaW.PrintLast Go.Proofs.Ytfopeenjpdaacaa.MRank Go.Proofs.Ytfopeenjpdaacaa.MRanked
/-- the new table, u of the old one and k of its choices on -/
def Q (g : Nat → Nat) (L d : Nat) (F : Nat → Nat) (u k t : Nat) : Nat :=
  if g d + (L - t) ≤ d then sm u (fun q => F (L - q) * C (L - q) (L - t)) + (if u ≤ t ∧ t < u + k then F (L - u) * C (L - u) (L - t) else 0) else 0
theorem Q_end {g : Nat → Nat} {L d : Nat} {F : Nat → Nat} {u t : Nat} (hu : u ≤ L) (ht : t ≤ L) : Q g L d F u (L - u + 1) t = Q g L d F (u + 1) 0 t := by
  unfold Q
  split
  · simp only [sm]
    rw [if_neg (show ¬ (u + 1 ≤ t ∧ t < u + 1 + 0) by omega)]
    by_cases h : u ≤ t
    · rw [if_pos ⟨h, by omega⟩]; omega
    · rw [if_neg (by omega), C_gt (L - u) (L - t) (by omega)]; omega
  · rfl
theorem Q_none {g : Nat → Nat} {L d : Nat} {F : Nat → Nat} {u t : Nat} (h0 : F (L - u) = 0) : Q g L d F u 0 t = Q g L d F (u + 1) 0 t := by
  unfold Q
  split
  · simp only [sm]
    rw [if_neg (show ¬ (u + 1 ≤ t ∧ t < u + 1 + 0) by omega), if_neg (by omega), h0]; omega
  · rfl
theorem Q_le {g : Nat → Nat} {L d : Nat} {F : Nat → Nat} {u k t : Nat} (hu : u ≤ L) : Q g L d F u k t ≤ fw g L d F (L - t) := by
  unfold Q fw
  split
  · have h1 := sm_rev (fun r => F r * C r (L - t)) (L + 1)
    rw [sm_congr (L + 1) (g := fun q => F (L - q) * C (L - q) (L - t)) (fun i _ => by rw [show L + 1 - 1 - i = L - i by omega])] at h1
    have h2 := sm_more (f := fun q => F (L - q) * C (L - q) (L - t)) (m := u + 1) (L + 1) (by omega)
    simp only [sm] at h1 h2 ⊢
    split <;> omega
  · exact Nat.le_refl _
theorem Q_all (g : Nat → Nat) (L d : Nat) (F : Nat → Nat) (t : Nat) : Q g L d F (L + 1) 0 t = fw g L d F (L - t) := by
  unfold Q fw
  split
  · have h1 := sm_rev (fun r => F r * C r (L - t)) (L + 1)
    rw [sm_congr (L + 1) (g := fun q => F (L - q) * C (L - q) (L - t)) (fun i _ => by rw [show L + 1 - 1 - i = L - i by omega])] at h1
    rw [if_neg (by omega), h1]; omega
  · rfl
section
variable {n L c d cm : Nat} {g F : Nat → Nat} {p : List Nat} {res : Int}
theorem ways_l4 (hn : n ≤ 16) (hL : L ≤ 15) (hc : c < n) (hd : d + c + 1 = n) (hcm : bl p (c + 1) + L + g d = n) (hb : ∀ m, m ≤ L → fw g L d F m ≤ 9000000000000000000) (u : Nat) (hu : u ≤ L) (hF : 1 ≤ F (L - u))
    (h : Ev (fun q => chairs_ways.l3 q (n : Int) (tabL n (bl p)) (L : Int) ((c + 1 : Nat) : Int) (tabL L (Q g L d F (u + 1) 0)) (tabL L fun t => F (L - t)) ((L : Int) + 1) ((u + 1 : Nat) : Int)) res) :
    ∀ e k, k + e = L - u + 1 → Ev (fun q => chairs_ways.l4 q (n : Int) (tabL n (bl p)) (L : Int) ((c + 1 : Nat) : Int) (tabL L (Q g L d F u k)) (u : Int) ((F (L - u) : Nat) : Int) (k : Int) (tabL L fun t => F (L - t)) ((L : Int) + 1) (u : Int)) res := by
  intro e
  induction e with
  | zero =>
    intro k hk
    obtain rfl : k = L - u + 1 := by omega
    rw [tab_congr (fun t ht => Q_end hu ht)]
    refine Ev.step (f := fun q => chairs_ways.j5 q (n : Int) (tabL n (bl p)) (L : Int) ((c + 1 : Nat) : Int) (tabL L (Q g L d F (u + 1) 0)) (u : Int) ((F (L - u) : Nat) : Int) ((L - u + 1 : Nat) : Int) (tabL L fun t => F (L - t)) ((L : Int) + 1) (u : Int) false) (fun q => ?_) (Ev.step (fun q => ?_) h)
    · simp only [chairs_ways.l4, wadd (show u + (L - u + 1) ≤ 1000000 by omega)]
      rw [if_pos (by omega), decide_eq_false (by omega)]
    · simp only [chairs_ways.j5, w1 (show u ≤ 1000000 by omega), Bool.false_eq_true, if_false]
  | succ e ih =>
    intro k hk
    have hi := ih (k + 1) (by omega)
    refine Ev.step (f := fun q => chairs_ways.j5 q (n : Int) (tabL n (bl p)) (L : Int) ((c + 1 : Nat) : Int) (tabL L (Q g L d F u k)) (u : Int) ((F (L - u) : Nat) : Int) (k : Int) (tabL L fun t => F (L - t)) ((L : Int) + 1) (u : Int) true) (fun q => ?_) ?_
    · simp only [chairs_ways.l4, wadd (show u + k ≤ 1000000 by omega)]
      rw [if_pos (by omega), decide_eq_true (by omega)]
    by_cases cond : g d + (L - (u + k)) ≤ d
    · have hP : ∀ t, t ≤ L → (if t = u + k then Q g L d F u k (u + k) + F (L - u) * C (L - u) k else Q g L d F u k t) = Q g L d F u (k + 1) t := by
        intro t ht
        by_cases et : t = u + k
        · subst et
          rw [if_pos rfl]
          unfold Q
          rw [if_pos cond, if_pos cond, if_neg (by omega), if_pos (by omega), show L - (u + k) = L - u - k by omega, C_sym (L - u) (by omega) k (by omega)]; omega
        · rw [if_neg et]
          unfold Q
          split
          · by_cases q1 : u ≤ t ∧ t < u + k
            · rw [if_pos q1, if_pos (by omega)]
            · rw [if_neg q1, if_neg (by omega)]
          · rfl
      have hle : Q g L d F u k (u + k) + F (L - u) * C (L - u) k ≤ 9000000000000000000 := by
        have h1 := hP (u + k) (by omega)
        rw [if_pos rfl] at h1
        rw [h1]
        exact Nat.le_trans (Q_le hu) (hb _ (by omega))
      refine Ev.step (f := fun q => (chairs_choose.f q ((L - u : Nat) : Int) (k : Int)).bind fun t => chairs_ways.l4 q (n : Int) (tabL n (bl p)) (L : Int) ((c + 1 : Nat) : Int) ((tabL L (Q g L d F u k)).set (u + k) (wrap64 (((Q g L d F u k (u + k) : Nat) : Int) + wrap64 (((F (L - u) : Nat) : Int) * t)))) (u : Int) ((F (L - u) : Nat) : Int) ((k + 1 : Nat) : Int) (tabL L fun t => F (L - t)) ((L : Int) + 1) (u : Int)) (fun q => ?_) (Ev.bind (chooseP_ev (by omega) (by omega)) ?_)
      · simp only [chairs_ways.j5, if_true]
        rw [if_pos (by omega), if_pos (by rw [tab_len]; omega), tab_rd (by omega), wadd (show bl p (c + 1) + u ≤ 1000000 by omega), wadd (show bl p (c + 1) + u + k ≤ 1000000 by omega), wadd (show u + k ≤ 1000000 by omega), wsub hu (by omega), w1 (show k ≤ 1000000 by omega),
          if_pos (by omega), if_pos (by omega), if_pos (by rw [tab_len]; omega), tab_rd (by omega), Int.toNat_natCast]
      · have e6 : ((F (L - u) : Nat) : Int) * ((C (L - u) k : Nat) : Int) = ((F (L - u) * C (L - u) k : Nat) : Int) := (Int.natCast_mul _ _).symm
        rw [e6, w64 (x := ((F (L - u) * C (L - u) k : Nat) : Int)) (by omega) (by omega), w64 (by omega) (by omega), ← Int.natCast_add, tab_set (by omega), tab_congr hP]
        exact hi
    · have hP : tabL L (Q g L d F u k) = tabL L (Q g L d F u (k + 1)) := by
        refine tab_congr (fun t ht => ?_)
        unfold Q
        split
        · by_cases q1 : u ≤ t ∧ t < u + k
          · rw [if_pos q1, if_pos (by omega)]
          · rw [if_neg q1, if_neg (fun q2 => by
              have : t = u + k := by omega
              subst this; exact cond (by assumption))]
        · rfl
      rw [hP]
      refine Ev.step (fun q => ?_) hi
      simp only [chairs_ways.j5, if_true]
      rw [if_pos (by omega), if_pos (by rw [tab_len]; omega), tab_rd (by omega), wadd (show bl p (c + 1) + u ≤ 1000000 by omega), wadd (show bl p (c + 1) + u + k ≤ 1000000 by omega), w1 (show k ≤ 1000000 by omega), if_neg (by omega)]
theorem ways_l3 (hn : n ≤ 16) (hL : L ≤ 15) (hc : c < n) (hd : d + c + 1 = n) (hcm : bl p (c + 1) + L + g d = n) (hb : ∀ m, m ≤ L → fw g L d F m ≤ 9000000000000000000)
    (h : Ev (fun q => chairs_ways.l2 q (n : Int) (tabL n (bl p)) (L : Int) (tabL L fun t => fw g L d F (L - t)) ((c + 1 + 1 : Nat) : Int)) res) :
    ∀ e u, u + e = L + 1 → Ev (fun q => chairs_ways.l3 q (n : Int) (tabL n (bl p)) (L : Int) ((c + 1 : Nat) : Int) (tabL L (Q g L d F u 0)) (tabL L fun t => F (L - t)) ((L : Int) + 1) (u : Int)) res := by
  intro e
  induction e with
  | zero =>
    intro u hu
    obtain rfl : u = L + 1 := by omega
    rw [tab_congr (fun t _ => Q_all g L d F t)]
    refine Ev.step (fun q => ?_) h
    simp only [chairs_ways.l3, w1 (show c + 1 ≤ 1000000 by omega)]
    rw [if_neg (by omega)]
  | succ e ih =>
    intro u hu
    have hi := ih (u + 1) (by omega)
    by_cases hF : 1 ≤ F (L - u)
    · refine Ev.step (fun q => ?_) (ways_l4 hn hL hc hd hcm hb u (by omega) hF hi (L - u + 1) 0 (by omega))
      simp only [chairs_ways.l3]
      rw [if_pos (by omega), if_pos (by omega), if_pos (by rw [tab_len]; omega), tab_rd (F := fun t => F (L - t)) (by omega)]
      rfl
    · have h0 : F (L - u) = 0 := by omega
      rw [tab_congr (fun t _ => Q_none h0)]
      refine Ev.step (f := fun q => chairs_ways.l4 q (n : Int) (tabL n (bl p)) (L : Int) ((c + 1 : Nat) : Int) (tabL L (Q g L d F (u + 1) 0)) (u : Int) 0 0 (tabL L fun t => F (L - t)) ((L : Int) + 1) (u : Int)) (fun q => ?_) (Ev.step (f := fun q => chairs_ways.j5 q (n : Int) (tabL n (bl p)) (L : Int) ((c + 1 : Nat) : Int) (tabL L (Q g L d F (u + 1) 0)) (u : Int) 0 0 (tabL L fun t => F (L - t)) ((L : Int) + 1) (u : Int) false) (fun q => ?_) (Ev.step (fun q => ?_) hi))
      · simp only [chairs_ways.l3]
        rw [if_pos (by omega), if_pos (by omega), if_pos (by rw [tab_len]; omega), tab_rd (F := fun t => F (L - t)) (by omega), h0]
        rfl
      · simp only [chairs_ways.l4]
        rw [if_neg (by omega)]
      · simp only [chairs_ways.j5, w1 (show u ≤ 1000000 by omega), Bool.false_eq_true, if_false]
end
theorem ways_l2 {n L : Nat} {p : List Nat} (hn : n ≤ 16) (hL : L ≤ 15) (hp : p.length + L = n) :
    ∀ e c, c + e = n → Ev (fun q => chairs_ways.l2 q (n : Int) (tabL n (bl p)) (L : Int) (tabL L fun t => Fw (gof n p) n L c (L - t)) ((c + 1 : Nat) : Int)) ((cnt n p : Nat) : Int) := by
  intro e
  induction e with
  | zero =>
    intro c hc
    obtain rfl : c = n := by omega
    have h0 : Fw (gof c p) c L c 0 = cnt c p := by
      rw [Fw_end]; unfold cnt; congr 1; omega
    refine Ev.step (f := fun _ => some (((cnt c p : Nat) : Int))) (fun q => ?_) (Ev.now _)
    simp only [chairs_ways.l2]
    rw [if_neg (by omega), if_pos (by omega), if_pos (by rw [tab_len]; omega), tab_rd (by omega), Nat.sub_self, h0]
  | succ e ih =>
    intro c hc
    have hi := ih (c + 1) (by omega)
    have hg := bl_gof n p (c + 1) (by omega)
    have hb : ∀ m, m ≤ L → fw (gof n p) L (n - c - 1) (Fw (gof n p) n L c) m ≤ 9000000000000000000 := fun m hm => Fw_small (gof n p) (n := n) (L := L) (c := c + 1) (r := m) (by omega) hL hm
    have h2 := ways_l3 (n := n) (L := L) (c := c) (d := n - c - 1) (g := gof n p) (F := Fw (gof n p) n L c) (p := p) hn hL (by omega) (by omega)
      (by rw [show n - (c + 1) = n - c - 1 by omega] at hg; omega) hb hi (L + 1) 0 (by omega)
    have hz : tabL L (Q (gof n p) L (n - c - 1) (Fw (gof n p) n L c) 0 0) = List.replicate (L + 1) (0 : Int) := by
      rw [tab_zero]
      refine tab_congr (fun t _ => ?_)
      unfold Q
      split
      · rw [if_neg (by omega)]; rfl
      · rfl
    rw [hz] at h2
    refine Ev.step (fun q => ?_) h2
    simp only [chairs_ways.l2, w1 (show L ≤ 1000000 by omega), Int.toNat_natCast]
    rw [if_pos (by omega), if_pos (by omega), if_pos (by omega), tab_len]
    rfl
theorem bl_app (p : List Nat) (w t : Nat) : bl (p ++ [w]) t = bl p t + if w < t then 1 else 0 := by
  unfold bl
  rw [List.countP_append, List.countP_singleton]
  by_cases h : w < t <;> simp [h]
theorem ways_l1 {n : Nat} {l : List Int} {res : Int} (hn : n ≤ 16) (p : List Nat) (hp : p.length ≤ 16) (w i : Nat) (hw : w < n) (hi : i ≤ 1000)
    (h : Ev (fun q => chairs_ways.l0 q (n : Int) l (tabL n (bl (p ++ [w]))) l (l.length : Int) ((i + 1 : Nat) : Int)) res) :
    ∀ e j, j + e = n + 1 → w + 1 ≤ j → Ev (fun q => chairs_ways.l1 q (n : Int) l (tabL n (fun t => bl p t + if w < t ∧ t < j then 1 else 0)) (j : Int) l (l.length : Int) (i : Int)) res := by
  intro e
  induction e with
  | zero =>
    intro j hj hw1
    obtain rfl : j = n + 1 := by omega
    have : tabL n (fun t => bl p t + if w < t ∧ t < n + 1 then 1 else 0) = tabL n (bl (p ++ [w])) := tab_congr (fun t ht => by
      rw [bl_app]
      by_cases q : w < t
      · rw [if_pos ⟨q, by omega⟩, if_pos q]
      · rw [if_neg (by omega), if_neg q])
    rw [this]
    refine Ev.step (fun q => ?_) h
    simp only [chairs_ways.l1, w1 (show i ≤ 1000000 by omega)]
    rw [if_neg (by omega)]
  | succ e ih =>
    intro j hj hw1
    have h1 := ih (j + 1) (by omega) (by omega)
    have hle : bl p j ≤ p.length := List.countP_le_length
    refine Ev.step (fun q => ?_) h1
    simp only [chairs_ways.l1, w1 (show j ≤ 1000000 by omega)]
    rw [if_pos (by omega), if_pos (by omega), if_pos (by rw [tab_len]; omega), tab_rd (by omega), Int.toNat_natCast, if_neg (show ¬ (w < j ∧ j < j) by omega), Nat.add_zero, w1 (show bl p j ≤ 1000000 by omega), tab_set (by omega)]
    congr 1
    refine tab_congr (fun t ht => ?_)
    by_cases et : t = j
    · subst et; rw [if_pos rfl, if_pos (by omega)]
    · rw [if_neg et]
      congr 1
      by_cases q1 : w < t ∧ t < j
      · rw [if_pos q1, if_pos (by omega)]
      · rw [if_neg q1, if_neg (by omega)]
theorem ways_l0 {n : Nat} {l : List Int} (hn : n ≤ 16) (hl : 1 ≤ l.length) (hln : l.length ≤ n) (hw : ∀ x ∈ l, 0 ≤ x ∧ x < (n : Int)) :
    ∀ e i, i + e = l.length → Ev (fun q => chairs_ways.l0 q (n : Int) l (tabL n (bl ((l.take i).map Int.toNat))) l (l.length : Int) (i : Int)) ((cnt n (l.map Int.toNat) : Nat) : Int) := by
  intro e
  induction e with
  | zero =>
    intro i hi
    obtain rfl : i = l.length := by omega
    rw [List.take_length]
    have h := ways_l2 (n := n) (L := n - l.length) (p := l.map Int.toNat) hn (by omega) (by simp; omega) n 0 (by omega)
    refine Ev.step (fun q => ?_) h
    simp only [chairs_ways.l0, wsub (show l.length ≤ n by omega) (show n ≤ 1000000 by omega), w1 (show n - l.length ≤ 1000000 by omega), Option.bind_some, Int.toNat_natCast]
    rw [if_neg (by omega), if_pos (by omega), if_pos (by omega), if_pos (by rw [List.length_replicate]; omega)]
    congr 1
    rw [tab_zero, show (1 : Int) = ((1 : Nat) : Int) by rfl, show (0 : Int).toNat = 0 by rfl, tab_set (by omega)]
    refine tab_congr (fun t ht => ?_)
    simp only [Fw]
    by_cases q : t = 0
    · rw [if_pos q, if_pos (by omega)]
    · rw [if_neg q, if_neg (by omega)]
  | succ e ih =>
    intro i hi
    have h := ih (i + 1) (by omega)
    have hm := hw _ (rd_mem l i (by omega))
    have et : (l.take (i + 1)).map Int.toNat = (l.take i).map Int.toNat ++ [(rd l (i : Int)).toNat] := by
      rw [List.take_succ_eq_append_getElem (by omega), List.map_append]; congr 1; simp [rd, List.getD_eq_getElem?_getD, show i < l.length by omega]
    rw [et] at h
    obtain ⟨v, hv⟩ : ∃ v : Nat, rd l (i : Int) = (v : Int) := ⟨(rd l (i : Int)).toNat, by omega⟩
    rw [hv, Int.toNat_natCast] at h
    rw [hv] at hm
    refine Ev.step (fun q => ?_) (ways_l1 (n := n) hn ((l.take i).map Int.toNat) (by rw [List.length_map, List.length_take]; omega) v i (by omega) (by omega) h (n - v) (v + 1) (by omega) (Nat.le_refl _))
    simp only [chairs_ways.l0]
    rw [if_pos (by omega), if_pos (by omega), if_pos (by omega), hv, w1 (show v ≤ 1000000 by omega)]
    congr 1
    refine tab_congr (fun t ht => ?_)
    rw [if_neg (by omega)]; rfl
theorem ways_ev {n : Nat} {l : List Int} (hn : n ≤ 16) (hl : 1 ≤ l.length) (hln : l.length ≤ n) (hw : ∀ x ∈ l, 0 ≤ x ∧ x < (n : Int)) :
    Ev (fun q => chairs_ways.f q (n : Int) l) ((cnt n (l.map Int.toNat) : Nat) : Int) := by
  refine Ev.congr (fun q => ?_) (ways_l0 hn hl hln hw l.length 0 (by omega))
  unfold chairs_ways.f
  rw [w1 (show n ≤ 1000000 by omega), if_pos (by omega), if_pos (by omega), Int.toNat_natCast, tab_zero]
  congr 1
end Go.Proofs.Ytfopeenjpdaacaa.L
end
section
/- How many good lists of n wishes there are, for n up to 16. -/
namespace Go.Proofs.Ytfopeenjpdaacaa.MTotal
open Go.Proofs.Ytfopeenjpdaacaa.MRank Go.Proofs.Ytfopeenjpdaacaa.MRanked
def prow : Nat → List Nat
  | 0 => [1]
  | n + 1 => List.zipWith (· + ·) (0 :: prow n) (prow n ++ [0])
theorem prow_len : ∀ n, (prow n).length = n + 1
  | 0 => rfl
  | n + 1 => by simp [prow, prow_len n]
theorem C_row : ∀ n k, C n k = (prow n).getD k 0
  | 0, 0 => rfl
  | 0, k + 1 => by simp [C, prow]
  | n + 1, 0 => by
    have h := C_row n 0
    rw [C_zero] at h ⊢
    have hl := prow_len n
    cases hp : prow n with
    | nil => rw [hp] at hl; simp at hl
    | cons a t => rw [hp] at h; simp [prow, hp] at h ⊢; exact h
  | n + 1, k + 1 => by
    have h1 := C_row n k
    have h2 := C_row n (k + 1)
    have hl := prow_len n
    simp only [C, h1, h2, prow, List.getD_eq_getElem?_getD, List.getElem?_zipWith, List.getElem?_cons_succ, List.getElem?_append]
    by_cases c1 : k + 1 < (prow n).length
    · rw [if_pos c1]; simp [show k < (prow n).length by omega, c1]
    · rw [if_neg c1]
      by_cases c2 : k < (prow n).length
      · have : k + 1 - (prow n).length = 0 := by omega
        rw [List.getElem?_eq_none (show (prow n).length ≤ k + 1 by omega)]
        simp [c2, this]
      · simp [List.getElem?_eq_none (show (prow n).length ≤ k by omega), List.getElem?_eq_none (show (prow n).length ≤ k + 1 by omega)]
def ssum (f : Nat → Nat) (n : Nat) : Nat := ((List.range n).map f).sum
theorem ssum_sm (f : Nat → Nat) : ∀ n, ssum f n = sm n f
  | 0 => rfl
  | n + 1 => by
    have := ssum_sm f n
    unfold ssum at this ⊢
    rw [List.range_succ, List.map_append, List.sum_append, this]
    simp [sm]
/-- one row on, as a list -/
def fwl (pr : List (List Nat)) (L d : Nat) (now : List Nat) : List Nat := (List.range (L + 1)).map fun m => if m ≤ d then ssum (fun r => now.getD r 0 * (pr.getD r []).getD m 0) (L + 1) else 0
def all (pr : List (List Nat)) (n L : Nat) : Nat → List Nat
  | 0 => (List.range (L + 1)).map fun r => if r = L then 1 else 0
  | c + 1 => fwl pr L (n - c - 1) (all pr n L c)
theorem all_at (n L : Nat) : ∀ c m, m ≤ L → (all ((List.range (L + 1)).map prow) n L c).getD m 0 = Fw (fun _ => 0) n L c m
  | 0, m, h => by simp [all, Fw, List.getD_eq_getElem?_getD, show m < L + 1 by omega]
  | c + 1, m, h => by
    simp only [all, fwl, Fw, fw, List.getD_eq_getElem?_getD]
    simp only [List.getElem?_map, List.getElem?_range (show m < L + 1 by omega), Option.map_some, Option.getD_some, Nat.zero_add]
    split
    · rw [ssum_sm]
      refine sm_congr _ (fun r hr => ?_)
      have h1 := all_at n L c r (by omega)
      rw [List.getD_eq_getElem?_getD] at h1
      rw [h1, List.getElem?_range hr]
      simp only [Option.map_some, Option.getD_some]
      rw [C_row, List.getD_eq_getElem?_getD]
    · rfl
theorem totals : ∀ n : Nat, n < 16 → (all ((List.range (n + 1 + 1)).map prow) (n + 1) (n + 1) (n + 1)).getD 0 0 = (n + 2) ^ n := by decide +kernel
theorem cnt_nil (n : Nat) (h1 : 1 ≤ n) (h2 : n ≤ 16) : cnt n [] = (n + 1) ^ (n - 1) := by
  have h := totals (n - 1) (by omega)
  rw [show n - 1 + 1 = n by omega, show n - 1 + 2 = n + 1 by omega, all_at n n n 0 (by omega)] at h
  rw [← h, Fw_end]
  unfold cnt
  have : gof n [] = fun _ => 0 := by funext d; simp [gof]
  rw [this]; simp
theorem tot_small : ∀ n : Nat, n < 17 → (n + 1) ^ (n - 1) ≤ 2862423051509815793 := by decide +kernel
theorem cnt_nil_le (n : Nat) (h1 : 1 ≤ n) (h2 : n ≤ 16) : cnt n [] ≤ 2862423051509815793 := by
  rw [cnt_nil n h1 h2]; exact tot_small n (by omega)
end Go.Proofs.Ytfopeenjpdaacaa.MTotal
end
section
/- Rank and At, by the program and by the specification: both are the plain ones. -/
namespace Go.Proofs.Ytfopeenjpdaacaa.L
open Go.RowKit Go.Proofs.Ytfopeenjpdaacaa.PC Go.Proofs.YtfopeenjpdaacaaW.PrintWords Go.Proofs.YtfopeenjpdaacaaW.PrintLast Go.Proofs.Ytfopeenjpdaacaa.MRank Go.Proofs.Ytfopeenjpdaacaa.MRanked Go.Proofs.Ytfopeenjpdaacaa.MTotal
set_option maxRecDepth 100000
def ints (p : List Nat) : List Int := p.map fun x : Nat => (x : Int)
theorem ints_nat (p : List Nat) : (ints p).map Int.toNat = p := by
  unfold ints
  rw [List.map_map]
  conv => rhs; rw [← List.map_id p]
  rfl
theorem nat_ints (l : List Int) (h : ∀ x ∈ l, 0 ≤ x) : ints (l.map Int.toNat) = l := by
  unfold ints
  rw [List.map_map]
  conv => rhs; rw [← List.map_id l]
  refine List.map_congr_left (fun x hx => ?_)
  have := h x hx
  simp; omega
theorem ints_len (p : List Nat) : (ints p).length = p.length := by simp [ints]
theorem ints_take (p : List Nat) (i : Nat) : (ints p).take i = ints (p.take i) := by simp [ints, List.map_take]
theorem ints_app (p : List Nat) (x : Nat) : ints p ++ [(x : Int)] = ints (p ++ [x]) := by simp [ints]
theorem ints_rd (p : List Nat) (i : Nat) (h : i < p.length) : rd (ints p) (i : Int) = ((p.getD i 0 : Nat) : Int) := by
  simp [rd, ints, List.getD_eq_getElem?_getD, h]
theorem ints_mem {p : List Nat} {n : Nat} (h : ∀ x ∈ p, x < n) : ∀ x ∈ ints p, 0 ≤ x ∧ x < (n : Int) := by
  intro x hx
  unfold ints at hx
  obtain ⟨y, hy, rfl⟩ := List.mem_map.1 hx
  have := h y hy
  omega
theorem cut_f (l : List Int) (i : Nat) (x : Int) (h : i ≤ l.length) (hl : l.length ≤ 1000000) : slices_IndexFunc_int_int.f l (i : Int) x = some (l.take i ++ [x]) := by
  unfold slices_IndexFunc_int_int.f
  rw [if_pos ⟨by omega, by omega, hl⟩, Int.toNat_natCast]
section
variable {n : Nat}
theorem ways_p (hn : n ≤ 16) (p : List Nat) (x : Nat) (hl : p.length < n) (hp : ∀ y ∈ p, y < n) (hx : x < n) : Ev (fun q => chairs_ways.f q (n : Int) (ints (p ++ [x]))) ((cnt n (p ++ [x]) : Nat) : Int) := by
  have h := ways_ev (n := n) (l := ints (p ++ [x])) hn (by simp [ints]) (by simp [ints]; omega) (ints_mem (fun y hy => by
    rcases List.mem_append.1 hy with k | k
    · exact hp y k
    · rw [List.mem_singleton.1 k]; exact hx))
  rwa [ints_nat] at h
theorem going_p (hn : n ≤ 16) (p : List Nat) (x : Nat) (hl : p.length < n) (hp : ∀ y ∈ p, y < n) (hx : x < n) : Ev (fun q => pomaderef03_going.f q (n : Int) (ints (p ++ [x]))) ((cnt n (p ++ [x]) : Nat) : Int) := by
  have h := going_ev (n := n) (l := ints (p ++ [x])) hn (by omega) (by simp [ints]) (by simp [ints]; omega) (ints_mem (fun y hy => by
    rcases List.mem_append.1 hy with k | k
    · exact hp y k
    · rw [List.mem_singleton.1 k]; exact hx))
  rwa [ints_nat] at h
/- Rank -/
theorem take_mem {w : List Nat} (hw : ∀ y ∈ w, y < n) (i : Nat) : ∀ y ∈ w.take i, y < n := fun y hy => hw y (List.mem_of_mem_take hy)
theorem prank_l1 (hn : n ≤ 16) (w : List Nat) (hl : w.length = n) (hw : ∀ y ∈ w, y < n) (i x : Nat) (hi : i < n) (hx : x < n) (acc : Nat) (r : Int × Int)
    (hb : acc + sm x (fun y => cnt n (w.take i ++ [y])) ≤ 9000000000000000000)
    (h : Ev (fun q => chairs_Rank.l0 q (ints w) (n : Int) ((acc + sm x (fun y => cnt n (w.take i ++ [y])) : Nat) : Int) (ints w) (n : Int) ((i + 1 : Nat) : Int)) r) :
    ∀ e y, y + e = x → Ev (fun q => chairs_Rank.l1 q (ints w) (n : Int) ((acc + sm y (fun y => cnt n (w.take i ++ [y])) : Nat) : Int) (i : Int) (ints w) (n : Int) (i : Int) (x : Int) (y : Int)) r := by
  intro e
  induction e with
  | zero =>
    intro y hy
    obtain rfl : y = x := by omega
    refine Ev.step (fun q => ?_) h
    simp only [chairs_Rank.l1, w1 (show i ≤ 1000000 by omega)]
    rw [if_neg (by omega)]
  | succ e ih =>
    intro y hy
    have hi2 := ih (y + 1) (by omega)
    have hs : sm (y + 1) (fun y => cnt n (w.take i ++ [y])) = sm y (fun y => cnt n (w.take i ++ [y])) + cnt n (w.take i ++ [y]) := rfl
    have hm := sm_more (f := fun y => cnt n (w.take i ++ [y])) (m := y + 1) x (by omega)
    refine Ev.step (f := fun q => (chairs_ways.f q (n : Int) (ints (w.take i ++ [y]))).bind fun t592 => chairs_Rank.l1 q (ints w) (n : Int) (wrap64 (((acc + sm y (fun y => cnt n (w.take i ++ [y])) : Nat) : Int) + t592)) (i : Int) (ints w) (n : Int) (i : Int) (x : Int) ((y + 1 : Nat) : Int)) (fun q => ?_) (Ev.bind (ways_p hn (w.take i) y (by rw [List.length_take]; omega) (take_mem hw i) (by omega)) ?_)
    · simp only [chairs_Rank.l1, w1 (show y ≤ 1000000 by omega)]
      rw [if_pos (by omega), cut_f _ i _ (by rw [ints_len]; omega) (by rw [ints_len]; omega), Option.bind_some, ints_take, ints_app]
    · rw [w64 (by omega) (by omega), ← Int.natCast_add, Nat.add_assoc, ← hs]
      exact hi2
theorem prank_l0 (hn : n ≤ 16) (w : List Nat) (hl : w.length = n) (hw : ∀ y ∈ w, y < n) : ∀ e i acc, i + e = n → acc + rk (cnt n) (w.take i) (w.drop i) ≤ 9000000000000000000 →
    Ev (fun q => chairs_Rank.l0 q (ints w) (n : Int) (acc : Nat) (ints w) (n : Int) (i : Int)) (((acc + rk (cnt n) (w.take i) (w.drop i) : Nat) : Int), 0) := by
  intro e
  induction e with
  | zero =>
    intro i acc hi hb
    obtain rfl : i = n := by omega
    have hd : w.drop i = [] := List.drop_eq_nil_of_le (by omega)
    rw [hd]
    refine Ev.step (f := fun _ => some ((((acc + 0 : Nat) : Int)), 0)) (fun q => ?_) (Ev.now _)
    simp only [chairs_Rank.l0]
    rw [if_neg (by omega)]
    rfl
  | succ e ih =>
    intro i acc hi hb
    have hd : w.drop i = w.getD i 0 :: w.drop (i + 1) := by
      rw [List.drop_eq_getElem_cons (by omega)]; simp [List.getD_eq_getElem?_getD, show i < w.length by omega]
    have ht : w.take (i + 1) = w.take i ++ [w.getD i 0] := by
      rw [List.take_succ_eq_append_getElem (by omega)]; simp [List.getD_eq_getElem?_getD, show i < w.length by omega]
    have hx : w.getD i 0 < n := hw _ (by simp [List.getD_eq_getElem?_getD, show i < w.length by omega])
    rw [hd] at hb ⊢
    simp only [rk] at hb ⊢
    rw [← ht] at hb ⊢
    have h0 := ih (i + 1) (acc + sm (w.getD i 0) (fun y => cnt n (w.take i ++ [y]))) (by omega) (by omega)
    rw [Nat.add_assoc acc] at h0
    refine Ev.step (fun q => ?_) (prank_l1 hn w hl hw i (w.getD i 0) (by omega) hx acc _ (by omega) h0 (w.getD i 0) 0 (by omega))
    simp only [chairs_Rank.l0]
    rw [if_pos (by omega), if_pos (by omega), if_pos (by rw [ints_len]; omega), ints_rd w i (by omega)]
    rfl
theorem rrank_l1 (hn : n ≤ 16) (w : List Nat) (hl : w.length = n) (hw : ∀ y ∈ w, y < n) (i x : Nat) (hi : i < n) (hx : x < n) (hxi : w.getD i 0 = x) (acc : Nat) (r : Int × Int)
    (hb : acc + sm x (fun y => cnt n (w.take i ++ [y])) ≤ 9000000000000000000)
    (h : Ev (fun q => pomaderef03_Rank.l0 q (ints w) ((acc + sm x (fun y => cnt n (w.take i ++ [y])) : Nat) : Int) ((i + 1 : Nat) : Int)) r) :
    ∀ e y, y + e = x → Ev (fun q => pomaderef03_Rank.l1 q (ints w) ((acc + sm y (fun y => cnt n (w.take i ++ [y])) : Nat) : Int) (i : Int) (y : Int)) r := by
  intro e
  induction e with
  | zero =>
    intro y hy
    obtain rfl : y = x := by omega
    refine Ev.step (fun q => ?_) h
    simp only [pomaderef03_Rank.l1, w1 (show i ≤ 1000000 by omega)]
    rw [if_pos (by omega), if_pos (by rw [ints_len]; omega), ints_rd w i (by omega), hxi, if_neg (by omega)]
  | succ e ih =>
    intro y hy
    have hi2 := ih (y + 1) (by omega)
    have hs : sm (y + 1) (fun y => cnt n (w.take i ++ [y])) = sm y (fun y => cnt n (w.take i ++ [y])) + cnt n (w.take i ++ [y]) := rfl
    have hm := sm_more (f := fun y => cnt n (w.take i ++ [y])) (m := y + 1) x (by omega)
    refine Ev.step (f := fun q => (pomaderef03_going.f q (n : Int) (ints (w.take i ++ [y]))).bind fun t592 => pomaderef03_Rank.l1 q (ints w) (wrap64 (((acc + sm y (fun y => cnt n (w.take i ++ [y])) : Nat) : Int) + t592)) (i : Int) ((y + 1 : Nat) : Int)) (fun q => ?_) (Ev.bind (going_p hn (w.take i) y (by rw [List.length_take]; omega) (take_mem hw i) (by omega)) ?_)
    · simp only [pomaderef03_Rank.l1, w1 (show y ≤ 1000000 by omega)]
      rw [if_pos (by omega), if_pos (by rw [ints_len]; omega), ints_rd w i (by omega), hxi, if_pos (by omega), cut_f _ i _ (by rw [ints_len]; omega) (by rw [ints_len]; omega), Option.bind_some, ints_take, ints_app, ints_len, hl]
    · rw [w64 (by omega) (by omega), ← Int.natCast_add, Nat.add_assoc, ← hs]
      exact hi2
theorem rrank_l0 (hn : n ≤ 16) (w : List Nat) (hl : w.length = n) (hw : ∀ y ∈ w, y < n) : ∀ e i acc, i + e = n → acc + rk (cnt n) (w.take i) (w.drop i) ≤ 9000000000000000000 →
    Ev (fun q => pomaderef03_Rank.l0 q (ints w) (acc : Nat) (i : Int)) (((acc + rk (cnt n) (w.take i) (w.drop i) : Nat) : Int), 0) := by
  intro e
  induction e with
  | zero =>
    intro i acc hi hb
    obtain rfl : i = n := by omega
    have hd : w.drop i = [] := List.drop_eq_nil_of_le (by omega)
    rw [hd]
    refine Ev.step (f := fun _ => some ((((acc + 0 : Nat) : Int)), 0)) (fun q => ?_) (Ev.now _)
    simp only [pomaderef03_Rank.l0]
    rw [if_neg (by rw [ints_len]; omega)]
    rfl
  | succ e ih =>
    intro i acc hi hb
    have hd : w.drop i = w.getD i 0 :: w.drop (i + 1) := by
      rw [List.drop_eq_getElem_cons (by omega)]; simp [List.getD_eq_getElem?_getD, show i < w.length by omega]
    have ht : w.take (i + 1) = w.take i ++ [w.getD i 0] := by
      rw [List.take_succ_eq_append_getElem (by omega)]; simp [List.getD_eq_getElem?_getD, show i < w.length by omega]
    have hx : w.getD i 0 < n := hw _ (by simp [List.getD_eq_getElem?_getD, show i < w.length by omega])
    rw [hd] at hb ⊢
    simp only [rk] at hb ⊢
    rw [← ht] at hb ⊢
    have h0 := ih (i + 1) (acc + sm (w.getD i 0) (fun y => cnt n (w.take i ++ [y]))) (by omega) (by omega)
    rw [Nat.add_assoc acc] at h0
    refine Ev.step (fun q => ?_) (rrank_l1 hn w hl hw i (w.getD i 0) (by omega) hx rfl acc _ (by omega) h0 (w.getD i 0) 0 (by omega))
    simp only [pomaderef03_Rank.l0]
    rw [if_pos (by rw [ints_len]; omega)]
    rfl
/- At -/
theorem pat_l1 (hn : n ≤ 16) (p : List Nat) (hl : p.length < n) (hp : ∀ y ∈ p, y < n) (res : List Int × Int) : ∀ f x r, x + f = n → sm x (fun y => cnt n (p ++ [y])) + r < sm n (fun y => cnt n (p ++ [y])) → r ≤ 9000000000000000000 →
    Ev (fun q => chairs_At.l0 q (n : Int) ((pick (cnt n) p f x r).2 : Nat) (ints (p ++ [(pick (cnt n) p f x r).1]))) res → Ev (fun q => chairs_At.l1 q (n : Int) (r : Int) (ints p) (x : Int)) res
  | 0, x, r, h, hr, _, _ => by
    have : x = n := by omega
    rw [this] at hr; omega
  | f + 1, x, r, h, hr, hb, hE => by
    have e : sm (x + 1) (fun y => cnt n (p ++ [y])) = sm x (fun y => cnt n (p ++ [y])) + cnt n (p ++ [x]) := rfl
    refine Ev.step (f := fun q => (chairs_ways.f q (n : Int) (ints (p ++ [x]))).bind fun t626 => if (r : Int) < t626 then chairs_At.l0 q (n : Int) (r : Int) (ints (p ++ [x])) else chairs_At.l1 q (n : Int) (wrap64 ((r : Int) - t626)) (ints p) ((x + 1 : Nat) : Int)) (fun q => ?_) (Ev.bind (ways_p hn p x hl hp (by omega)) ?_)
    · simp only [chairs_At.l1, w1 (show x ≤ 1000000 by omega)]
      rw [cut_f _ _ _ (Nat.le_refl _) (by rw [ints_len]; omega), Option.bind_some, List.take_length, ints_app]
    · simp only [pick] at hE
      by_cases c : r < cnt n (p ++ [x])
      · rw [if_pos c] at hE
        exact Ev.congr (fun q => by rw [if_pos (by omega)]) hE
      · rw [if_neg c] at hE
        have h2 := pat_l1 hn p hl hp res f (x + 1) (r - cnt n (p ++ [x])) (by omega) (by omega) (by omega) hE
        refine Ev.congr (fun q => ?_) h2
        rw [if_neg (by omega), w64 (by omega) (by omega), show (r : Int) - ((cnt n (p ++ [x]) : Nat) : Int) = ((r - cnt n (p ++ [x]) : Nat) : Int) by omega]
theorem pat_l0 (hn : n ≤ 16) : ∀ d (p : List Nat) r, p.length + d = n → (∀ x ∈ p, x < n) → r < cnt n p → r ≤ 9000000000000000000 → Ev (fun q => chairs_At.l0 q (n : Int) (r : Int) (ints p)) (ints (p ++ atL (cnt n) n p d r), 0)
  | 0, p, r, h, _, _, _ => by
    simp only [atL, List.append_nil]
    refine Ev.step (f := fun _ => some (ints p, 0)) (fun q => ?_) (Ev.now _)
    simp only [chairs_At.l0]
    rw [if_neg (by rw [ints_len]; omega)]
  | d + 1, p, r, h, hp, hr, hb => by
    have hs := hr
    rw [(cnt_tree n).sum p (by omega) hp] at hs
    obtain ⟨a, b, e⟩ := pick_spec (c := cnt n) (n := n) p n 0 r (by omega) (by simpa [sm] using hs)
    have h2 := pat_l0 hn d (p ++ [(pick (cnt n) p n 0 r).1]) (pick (cnt n) p n 0 r).2 (by simp; omega) (fun x hx => by
      rcases List.mem_append.1 hx with k | k
      · exact hp x k
      · rw [List.mem_singleton.1 k]; exact a) b (by simp only [sm, Nat.zero_add] at e; omega)
    simp only [atL]
    rw [List.append_assoc, List.singleton_append] at h2
    refine Ev.step (fun q => ?_) (pat_l1 hn p (by omega) hp _ n 0 r (by omega) (by simpa [sm] using hs) hb h2)
    simp only [chairs_At.l0]
    rw [if_pos (by rw [ints_len]; omega)]
    rfl
theorem rat_l1 (hn : n ≤ 16) (p : List Nat) (hl : p.length < n) (hp : ∀ y ∈ p, y < n) (res : List Int × Int) : ∀ f x r, x + f = n → sm x (fun y => cnt n (p ++ [y])) + r < sm n (fun y => cnt n (p ++ [y])) → r ≤ 9000000000000000000 →
    Ev (fun q => pomaderef03_At.l0 q (n : Int) ((pick (cnt n) p f x r).2 : Nat) (ints (p ++ [(pick (cnt n) p f x r).1]))) res → Ev (fun q => pomaderef03_At.l1 q (n : Int) (r : Int) (ints p) (x : Int)) res
  | 0, x, r, h, hr, _, _ => by
    have : x = n := by omega
    rw [this] at hr; omega
  | f + 1, x, r, h, hr, hb, hE => by
    have e : sm (x + 1) (fun y => cnt n (p ++ [y])) = sm x (fun y => cnt n (p ++ [y])) + cnt n (p ++ [x]) := rfl
    refine Ev.step (f := fun q => (pomaderef03_going.f q (n : Int) (ints (p ++ [x]))).bind fun t626 => if (r : Int) < t626 then pomaderef03_At.l0 q (n : Int) (r : Int) (ints (p ++ [x])) else pomaderef03_At.l1 q (n : Int) (wrap64 ((r : Int) - t626)) (ints p) ((x + 1 : Nat) : Int)) (fun q => ?_) (Ev.bind (going_p hn p x hl hp (by omega)) ?_)
    · simp only [pomaderef03_At.l1, w1 (show x ≤ 1000000 by omega)]
      rw [cut_f _ _ _ (Nat.le_refl _) (by rw [ints_len]; omega), Option.bind_some, List.take_length, ints_app, if_pos (show (ints p).length < 17592186044416 by rw [ints_len]; omega)]
    · simp only [pick] at hE
      by_cases c : r < cnt n (p ++ [x])
      · rw [if_pos c] at hE
        exact Ev.congr (fun q => by rw [if_pos (by omega)]) hE
      · rw [if_neg c] at hE
        have h2 := rat_l1 hn p hl hp res f (x + 1) (r - cnt n (p ++ [x])) (by omega) (by omega) (by omega) hE
        refine Ev.congr (fun q => ?_) h2
        rw [if_neg (by omega), w64 (by omega) (by omega), show (r : Int) - ((cnt n (p ++ [x]) : Nat) : Int) = ((r - cnt n (p ++ [x]) : Nat) : Int) by omega]
theorem rat_l0 (hn : n ≤ 16) : ∀ d (p : List Nat) r, p.length + d = n → (∀ x ∈ p, x < n) → r < cnt n p → r ≤ 9000000000000000000 → Ev (fun q => pomaderef03_At.l0 q (n : Int) (r : Int) (ints p)) (ints (p ++ atL (cnt n) n p d r), 0)
  | 0, p, r, h, _, _, _ => by
    simp only [atL, List.append_nil]
    refine Ev.step (f := fun _ => some (ints p, 0)) (fun q => ?_) (Ev.now _)
    simp only [pomaderef03_At.l0]
    rw [if_neg (by rw [ints_len]; omega)]
  | d + 1, p, r, h, hp, hr, hb => by
    have hs := hr
    rw [(cnt_tree n).sum p (by omega) hp] at hs
    obtain ⟨a, b, e⟩ := pick_spec (c := cnt n) (n := n) p n 0 r (by omega) (by simpa [sm] using hs)
    have h2 := rat_l0 hn d (p ++ [(pick (cnt n) p n 0 r).1]) (pick (cnt n) p n 0 r).2 (by simp; omega) (fun x hx => by
      rcases List.mem_append.1 hx with k | k
      · exact hp x k
      · rw [List.mem_singleton.1 k]; exact a) b (by simp only [sm, Nat.zero_add] at e; omega)
    simp only [atL]
    rw [List.append_assoc, List.singleton_append] at h2
    refine Ev.step (fun q => ?_) (rat_l1 hn p (by omega) hp _ n 0 r (by omega) (by simpa [sm] using hs) hb h2)
    simp only [pomaderef03_At.l0]
    rw [if_pos (by rw [ints_len]; omega)]
    rfl
end
/-- good wishes, by the count -/
theorem sit_cnt (l : List Int) (h : Row (l.length : Int) l) : (sitV (l.length : Int) l).2 = true ↔ cnt l.length (l.map Int.toNat) = 1 := by
  rw [good_below l h, cnt_good l.length (l.map Int.toNat) (by simp)]
  have hb : ∀ k : Nat, k ≤ l.length → below l (k : Int) + gof l.length (l.map Int.toNat) (l.length - k) = l.length := fun k hk => by
    have h1 := bl_gof l.length (l.map Int.toNat) k hk
    rw [List.length_map] at h1
    have h2 := below_nat l (fun w hw => (h.all w hw).1) k
    unfold bl at h1
    omega
  constructor
  · intro hk d hd
    have h1 := hk (l.length - d) (by omega) (by omega)
    have h2 := hb (l.length - d) (by omega)
    rw [show l.length - (l.length - d) = d by omega] at h2
    omega
  · intro hd k h1 h2
    have h3 := hd (l.length - k) (by omega)
    have h4 := hb k h2
    omega
/-- Rank, plainly -/
def RankV (l : List Int) : Int × Int :=
  if l.length = 0 ∨ l.length > 16 then (0, 3) else if rowV (l.length : Int) l = 0 then (if (sitV (l.length : Int) l).2 = true then (((rk (cnt l.length) [] (l.map Int.toNat) : Nat) : Int), 0) else (0, 10)) else (0, rowV (l.length : Int) l)
theorem chairs_same_ev (l : List Int) : chairs_same.f l = some (if l.length = 0 ∨ l.length > 30 then 3 else rowV (l.length : Int) l) := by
  unfold chairs_same.f
  by_cases c : l.length = 0
  · simp [c]
  · by_cases c2 : l.length > 30
    · simp [c, c2]; omega
    · simp [c, c2, wished_ev]; omega
theorem rk_small (l : List Int) (h : Row (l.length : Int) l) (hl : l.length ≤ 16) (hg : (sitV (l.length : Int) l).2 = true) : rk (cnt l.length) [] (l.map Int.toNat) < cnt l.length [] ∧ cnt l.length [] ≤ 2862423051509815793 := by
  have h1 := h.m1
  have hc := (sit_cnt l h).1 hg
  refine ⟨rk_lt (cnt_tree l.length) (l.map Int.toNat) [] (by simp) (fun x hx => ?_) (by simpa using hc), cnt_nil_le _ (by omega) hl⟩
  simp only [List.nil_append] at hx
  obtain ⟨y, hy, rfl⟩ := List.mem_map.1 hx
  have := h.all y hy
  omega
theorem nat_row {l : List Int} {n : Nat} (h : ∀ w ∈ l, 0 ≤ w ∧ w < (n : Int)) : ∀ y ∈ l.map Int.toNat, y < n := by
  intro y hy
  obtain ⟨x, hx, rfl⟩ := List.mem_map.1 hy
  have := h x hx
  omega
theorem Rank_ev (l : List Int) : Ev (fun k => chairs_Rank.f k l) (RankV l) := by
  unfold RankV
  by_cases c0 : l.length = 0
  · rw [if_pos (Or.inl c0)]
    refine Ev.congr (fun k => ?_) (Ev.now _)
    unfold chairs_Rank.f
    rw [chairs_same_ev, Option.bind_some, if_neg (by omega), if_pos (Or.inl c0), if_neg (by omega)]
  by_cases c1 : l.length > 16
  · rw [if_pos (Or.inr c1)]
    refine Ev.congr (fun k => ?_) (Ev.now _)
    unfold chairs_Rank.f
    rw [chairs_same_ev, Option.bind_some, if_pos (by omega)]
  rw [if_neg (by omega)]
  have hf : ∀ k, chairs_Rank.f k l = if rowV (l.length : Int) l = 0 then ((chairs_sit.f k (l.length : Int) l).bind fun bt584 => (if bt584.2 = true then (chairs_Rank.l0 k l (l.length : Int) 0 l (l.length : Int) 0) else (some (0, 10)))) else some (0, rowV (l.length : Int) l) := fun k => by
    unfold chairs_Rank.f
    rw [chairs_same_ev, Option.bind_some, if_neg (show ¬ (l.length : Int) > 16 by omega), if_neg (show ¬ (l.length = 0 ∨ l.length > 30) by omega)]
  by_cases cr : rowV (l.length : Int) l = 0
  · have h := (row_iff _ l).1 cr
    rw [if_pos cr]
    refine Ev.congr (fun k => by rw [hf, if_pos cr]) (Ev.bind (psit_ev _ l h) ?_)
    by_cases cg : (sitV (l.length : Int) l).2 = true
    · rw [if_pos cg]
      obtain ⟨b1, b2⟩ := rk_small l h (by omega) cg
      have h0 := prank_l0 (n := l.length) (by omega) (l.map Int.toNat) (by simp) (nat_row h.all) l.length 0 0 (by omega) (by simp only [List.take_zero, List.drop_zero]; omega)
      rw [nat_ints l (fun x hx => (h.all x hx).1), List.take_zero, List.drop_zero, Nat.zero_add] at h0
      exact Ev.congr (fun k => by rw [if_pos cg]; rfl) h0
    · rw [if_neg cg]
      exact Ev.congr (fun k => by rw [if_neg cg]) (Ev.now _)
  · rw [if_neg cr]
    exact Ev.congr (fun k => by rw [hf, if_neg cr]) (Ev.now _)
theorem rRank_ev (l : List Int) (hl : l.length ≤ 1000000) : Ev (fun k => pomaderef03_Rank.f k l) (RankV l) := by
  unfold RankV
  by_cases c0 : l.length = 0
  · rw [if_pos (Or.inl c0)]
    refine Ev.congr (f := fun k => pomaderef03_Rank.j0 k l true) (fun k => ?_) (Ev.step (f := fun _ => some (0, 3)) (fun k => ?_) (Ev.now _))
    · unfold pomaderef03_Rank.f
      rw [if_pos (by omega)]
    · simp only [pomaderef03_Rank.j0, if_true]
  have hf : ∀ k, pomaderef03_Rank.f k l = pomaderef03_Rank.j0 k l (decide ((l.length : Int) > 16)) := fun k => by
    unfold pomaderef03_Rank.f
    rw [if_neg (by omega)]
  by_cases c1 : l.length > 16
  · rw [if_pos (Or.inr c1)]
    refine Ev.congr (f := fun k => pomaderef03_Rank.j0 k l true) (fun k => ?_) (Ev.step (f := fun _ => some (0, 3)) (fun k => ?_) (Ev.now _))
    · rw [hf, decide_eq_true (by omega)]
    · simp only [pomaderef03_Rank.j0, if_true]
  rw [if_neg (by omega)]
  have hw := whole_ev l hl
  rw [if_neg (show ¬ (l.length = 0 ∨ l.length > 30) by omega)] at hw
  refine Ev.congr (f := fun k => pomaderef03_Rank.j0 k l false) (fun k => by rw [hf, decide_eq_false (by omega)]) ?_
  refine Ev.step (f := fun k => (pomaderef03_Whole.f k l).bind fun t612 => (if t612 = 0 then ((pomaderef03_sit.f k (l.length : Int) l).bind fun bt613 => (if bt613.2 = true then (pomaderef03_Rank.l0 k l 0 0) else (some (0, 10)))) else (some (0, t612)))) (fun k => by simp only [pomaderef03_Rank.j0, Bool.false_eq_true, if_false]) (Ev.bind hw ?_)
  by_cases cr : rowV (l.length : Int) l = 0
  · have h := (row_iff _ l).1 cr
    rw [if_pos cr]
    refine Ev.congr (fun k => by rw [if_pos cr]) (Ev.bind (rsit_ev _ l h) ?_)
    by_cases cg : (sitV (l.length : Int) l).2 = true
    · rw [if_pos cg]
      obtain ⟨b1, b2⟩ := rk_small l h (by omega) cg
      have h0 := rrank_l0 (n := l.length) (by omega) (l.map Int.toNat) (by simp) (nat_row h.all) l.length 0 0 (by omega) (by simp only [List.take_zero, List.drop_zero]; omega)
      rw [nat_ints l (fun x hx => (h.all x hx).1), List.take_zero, List.drop_zero, Nat.zero_add] at h0
      exact Ev.congr (fun k => by rw [if_pos cg]; rfl) h0
    · rw [if_neg cg]
      exact Ev.congr (fun k => by rw [if_neg cg]) (Ev.now _)
  · rw [if_neg cr]
    exact Ev.congr (fun k => by rw [if_neg cr]) (Ev.now _)
theorem power_p : ∀ n : Nat, n < 17 → 1 ≤ n → chairs_power.f 20 (wrap64 ((n : Int) + 1)) (wrap64 ((n : Int) - 1)) = some (((n + 1) ^ (n - 1) : Nat) : Int) := by decide +kernel
theorem going_0 : ∀ n : Nat, n < 17 → 1 ≤ n → pomaderef03_going.f 4000 (n : Int) [] = some (((n + 1) ^ (n - 1) : Nat) : Int) := by decide +kernel
/-- At, plainly -/
def AtV (n r : Int) : List Int × Int :=
  if n < 1 ∨ n > 16 then ([], 2) else if r < 0 ∨ r ≥ ((cnt n.toNat [] : Nat) : Int) then ([], 4) else (ints (atL (cnt n.toNat) n.toNat [] n.toNat r.toNat), 0)
theorem At_ev (n r : Int) : Ev (fun k => chairs_At.f k n r) (AtV n r) := by
  unfold AtV
  by_cases c0 : n < 1
  · rw [if_pos (Or.inl c0)]
    refine Ev.congr (f := fun k => chairs_At.j0 k n r true) (fun k => by unfold chairs_At.f; rw [if_pos c0]) (Ev.step (f := fun _ => some ([], 2)) (fun k => by simp only [chairs_At.j0, if_true]) (Ev.now _))
  by_cases c1 : n > 16
  · rw [if_pos (Or.inr c1)]
    refine Ev.congr (f := fun k => chairs_At.j0 k n r true) (fun k => by unfold chairs_At.f; rw [if_neg c0, decide_eq_true c1]) (Ev.step (f := fun _ => some ([], 2)) (fun k => by simp only [chairs_At.j0, if_true]) (Ev.now _))
  rw [if_neg (by omega)]
  obtain ⟨m, rfl⟩ : ∃ m : Nat, n = (m : Int) := ⟨n.toNat, by omega⟩
  rw [Int.toNat_natCast]
  have h1 : 1 ≤ m := by omega
  have h2 : m ≤ 16 := by omega
  refine Ev.congr (f := fun k => chairs_At.j0 k (m : Int) r false) (fun k => by unfold chairs_At.f; rw [if_neg c0, decide_eq_false c1]) ?_
  by_cases c2 : r < 0
  · rw [if_pos (Or.inl c2)]
    exact Ev.step (f := fun _ => some ([], 4)) (fun k => by simp only [chairs_At.j0, Bool.false_eq_true, if_false]; rw [if_pos c2]) (Ev.now _)
  refine Ev.step (f := fun k => (chairs_power.f k (wrap64 ((m : Int) + 1)) (wrap64 ((m : Int) - 1))).bind fun t622 => (if r ≥ t622 then (some (([] : List Int), 4)) else (chairs_At.l0 k (m : Int) r ([] : List Int)))) (fun k => by simp only [chairs_At.j0, Bool.false_eq_true, if_false]; rw [if_neg c2]) (Ev.bind (Ev.of (chairs_power.mono _ _) (power_p m (by omega) h1)) ?_)
  rw [← cnt_nil m h1 h2]
  have hb := cnt_nil_le m h1 h2
  by_cases c3 : r ≥ ((cnt m [] : Nat) : Int)
  · rw [if_pos (Or.inr c3)]
    exact Ev.congr (fun k => by rw [if_pos c3]) (Ev.now _)
  · rw [if_neg (by omega)]
    obtain ⟨q, rfl⟩ : ∃ q : Nat, r = (q : Int) := ⟨r.toNat, by omega⟩
    rw [Int.toNat_natCast]
    have h0 := pat_l0 (n := m) h2 m [] q (by simp) (by simp) (by omega) (by omega)
    rw [List.nil_append] at h0
    exact Ev.congr (fun k => by rw [if_neg c3]; rfl) h0
theorem rAt_ev (n r : Int) : Ev (fun k => pomaderef03_At.f k n r) (AtV n r) := by
  unfold AtV
  by_cases c0 : n < 1
  · rw [if_pos (Or.inl c0)]
    refine Ev.congr (f := fun k => pomaderef03_At.j0 k n r true) (fun k => by unfold pomaderef03_At.f; rw [if_pos c0]) (Ev.step (f := fun _ => some ([], 2)) (fun k => by simp only [pomaderef03_At.j0, if_true]) (Ev.now _))
  by_cases c1 : n > 16
  · rw [if_pos (Or.inr c1)]
    refine Ev.congr (f := fun k => pomaderef03_At.j0 k n r true) (fun k => by unfold pomaderef03_At.f; rw [if_neg c0, decide_eq_true c1]) (Ev.step (f := fun _ => some ([], 2)) (fun k => by simp only [pomaderef03_At.j0, if_true]) (Ev.now _))
  rw [if_neg (by omega)]
  obtain ⟨m, rfl⟩ : ∃ m : Nat, n = (m : Int) := ⟨n.toNat, by omega⟩
  rw [Int.toNat_natCast]
  have h1 : 1 ≤ m := by omega
  have h2 : m ≤ 16 := by omega
  refine Ev.congr (f := fun k => pomaderef03_At.j0 k (m : Int) r false) (fun k => by unfold pomaderef03_At.f; rw [if_neg c0, decide_eq_false c1]) ?_
  have hj : ∀ k, pomaderef03_At.j1 (k + 1) (m : Int) r true = some ([], 4) := fun k => by simp only [pomaderef03_At.j1, if_true]
  have hj2 : ∀ k, pomaderef03_At.j1 (k + 1) (m : Int) r false = pomaderef03_At.l0 k (m : Int) r [] := fun k => by simp only [pomaderef03_At.j1, Bool.false_eq_true, if_false]
  by_cases c2 : r < 0
  · rw [if_pos (Or.inl c2)]
    exact Ev.step (f := fun k => pomaderef03_At.j1 k (m : Int) r true) (fun k => by simp only [pomaderef03_At.j0, Bool.false_eq_true, if_false]; rw [if_pos c2]) (Ev.step hj (Ev.now _))
  refine Ev.step (f := fun k => (pomaderef03_going.f k (m : Int) ([] : List Int)).bind fun t627 => (pomaderef03_At.j1 k (m : Int) r (decide (r ≥ t627)))) (fun k => by simp only [pomaderef03_At.j0, Bool.false_eq_true, if_false]; rw [if_neg c2]) (Ev.bind (Ev.of (pomaderef03_going.mono _ _) (going_0 m (by omega) h1)) ?_)
  rw [← cnt_nil m h1 h2]
  have hb := cnt_nil_le m h1 h2
  by_cases c3 : r ≥ ((cnt m [] : Nat) : Int)
  · rw [if_pos (Or.inr c3), decide_eq_true c3]
    exact Ev.step hj (Ev.now _)
  · rw [if_neg (by omega), decide_eq_false c3]
    obtain ⟨q, rfl⟩ : ∃ q : Nat, r = (q : Int) := ⟨r.toNat, by omega⟩
    rw [Int.toNat_natCast]
    have h0 := rat_l0 (n := m) h2 m [] q (by simp) (by simp) (by omega) (by omega)
    rw [List.nil_append] at h0
    exact Ev.step hj2 h0
theorem AtV_len (n r : Int) : (AtV n r).1.length ≤ 16 := by
  unfold AtV
  split
  · simp
  · split
    · simp
    · rename_i h1 h2
      obtain ⟨m, rfl⟩ : ∃ m : Nat, n = (m : Int) := ⟨n.toNat, by omega⟩
      obtain ⟨q, rfl⟩ : ∃ q : Nat, r = (q : Int) := ⟨r.toNat, by omega⟩
      rw [Int.toNat_natCast, Int.toNat_natCast] at *
      have := (at_spec (cnt_tree m) m [] q (by simp) (by simp) (by omega)).1
      rw [ints_len, this]; omega
end Go.Proofs.Ytfopeenjpdaacaa.L
end
section
/- Chairs: ChairsRanks. -/
namespace Go.Proofs.Ytfopeenjpdaacaa.L
open Go.RowKit Go.Proofs.Ytfopeenjpdaacaa.PC Go.Proofs.YtfopeenjpdaacaaW.PrintWords Go.Proofs.YtfopeenjpdaacaaW.PrintLast
theorem ChairsRanks_pure : pomadelaw03_ChairsRanks.Pure := by
  intro l a1 a2 _ _ _ _ _
  refine Ev.rounds ?_
  by_cases c : (l.length : Int) > 60
  · exact Ev.congr (fun k => by unfold pomadelaw03_ChairsRanks.f; rw [if_pos c]; rfl) (Ev.now true)
  refine Ev.congr (fun k => by unfold pomadelaw03_ChairsRanks.f; rw [if_neg c]) ?_
  refine Ev.bind (Rank_ev l) (Ev.bind (rRank_ev l (by omega)) ?_)
  simp only [if_true, bne_self_eq_false]
  refine Ev.step (f := fun k => (chairs_At.f k a1 a2).bind fun bt640 => ((pomaderef03_At.f k a1 a2).bind fun bt644 => ((pomadelaw03_same.f k bt640.1 bt644.1).bind fun t648 => (if t648 = true then (if bt640.2 = bt644.2 then ((pomadelaw03_alive.f).bind fun t649 => (some t649)) else (some false)) else (some false))))) (fun k => ?_) ?_
  · simp only [pomadelaw03_ChairsRanks.j0, Bool.false_eq_true, if_false]
  refine Ev.bind (At_ev a1 a2) (Ev.bind (rAt_ev a1 a2) (Ev.bind (same_ev _ (by have := AtV_len a1 a2; omega)) ?_))
  exact Ev.congr (fun k => by rw [if_pos rfl, if_pos rfl]; rfl) (Ev.now true)
end Go.Proofs.Ytfopeenjpdaacaa.L
namespace Go.Proofs.Ytfopeenjpdaacaa.Pure
theorem ChairsRanks : Go.Proofs.Ytfopeenjpdaacaa.PC.pomadelaw03_ChairsRanks.Pure := Go.Proofs.Ytfopeenjpdaacaa.L.ChairsRanks_pure
end Go.Proofs.Ytfopeenjpdaacaa.Pure
end
