/- A row of new numbers: how it is made; and the rows that are known. -/
import Derived.Test.YtfopeenjpdaacaaHChoose
namespace Go.Proofs.Ytfopeenjpdaacaa.PC
open Go.RowKit Go.Proofs.YtfopeenjpdaacaaW.PrintWords Go.Proofs.YtfopeenjpdaacaaW.PrintLast Go.Proofs.YtfopeenjpdaacaaW.PrintMore
/-- the row of M new numbers, of which those of ps are there -/
structure ISt (J : World → Prop) (Wr : World) (q M : Nat) (ps : List Nat) (W : World) : Prop where
  below : Below Wr.heap.size Wr W
  row : W.heap[q]? = some (.cells (ps.map ptr ++ List.replicate (M - ps.length) (Value.pointer none)).toArray 66 (0, 0))
  num : ∀ p ∈ ps, Num W p 0
  nodup : ps.Nodup
  hq : Wr.heap.size ≤ q
  hp : ∀ p ∈ ps, Wr.heap.size ≤ p
  hM : ps.length ≤ M
  j : J W
theorem made_ptr (M : Nat) : madeCells #[Value.pointer none] M = (List.replicate M (Value.pointer none)).toArray := by
  apply Array.ext
  · simp [madeCells]
  · intro i h1 h2
    simp [madeCells, Nat.mod_one]
theorem ISt.start {B0 : Nat} {J : World → Prop} (hJ : Stable B0 J) (Wr : World) (M : Nat) (h0 : J Wr) : ISt J Wr Wr.heap.size M [] (Wr.alloc (.cells (madeCells #[.pointer none] M) 66)) where
  below := (Below.refl _ _).alloc (Nat.le_refl _) _
  row := by rw [heap_alloc_new, made_ptr]; simp
  num := fun p hp => by cases hp
  nodup := List.nodup_nil
  hq := Nat.le_refl _
  hp := fun p hp => by cases hp
  hM := Nat.zero_le _
  j := hJ _ _ h0 (.of_below ((Below.refl _ _).alloc (Nat.le_refl _) _))
theorem ISt.cell {J : World → Prop} {Wr W : World} {q M : Nat} {ps : List Nat} (h : ISt J Wr q M ps W) (hi : ps.length < M) : W.cell? ⟨q, ps.length, none⟩ = some (.pointer none) ∧ W.frozen? ⟨q, ps.length, none⟩ = false := by
  constructor
  · obtain ⟨d, hd⟩ : ∃ d, M - ps.length = d + 1 := ⟨M - ps.length - 1, by omega⟩
    simp [World.cell?, h.row, hd, List.replicate_succ]
  · simp [World.frozen?, h.row]
theorem ISt.step {B0 : Nat} {J : World → Prop} (hJ : Stable B0 J) {Wr W : World} (hB0 : B0 ≤ Wr.heap.size) {q M : Nat} {ps : List Nat} (h : ISt J Wr q M ps W) (hi : ps.length < M) :
    ISt J Wr q M (ps ++ [W.heap.size]) ((W.alloc (.cells #[.bool false, .slice none 0 0] 82)).setCell ⟨q, ps.length, none⟩ (ptr W.heap.size)) := by
  obtain ⟨W1, hW1⟩ : ∃ W1, W.alloc (.cells #[.bool false, .slice none 0 0] 82) = W1 := ⟨_, rfl⟩
  have hb1 : Below W.heap.size W W1 := by rw [← hW1]; exact (Below.refl _ _).alloc (Nat.le_refl _) _
  have hs1 : W1.heap.size = W.heap.size + 1 := by rw [← hW1]; simp
  have hn1 : W1.heap[W.heap.size]? = some (.cells #[.bool false, .slice none 0 0] 82 (0, 0)) := by rw [← hW1]; exact heap_alloc_new _ _
  have hq := block_lt' h.row
  have hr1 := (hb1.block q hq).trans h.row
  have hg := grown_set W1 q ps.length (ptr W.heap.size)
  have hst : Stp B0 W1 (W1.setCell ⟨q, ps.length, none⟩ (ptr W.heap.size)) := ⟨_, hg, fun r e => by cases e; exact ⟨Nat.le_trans hB0 h.hq, _, _, hr1, .inr (.inl rfl)⟩⟩
  have keep : ∀ b, b ≠ q → (W1.setCell ⟨q, ps.length, none⟩ (ptr W.heap.size)).heap[b]? = W1.heap[b]? := fun b hb => Below.heap_setCell W1 _ _ b hb
  have dig : ∀ {s : Value} {v : Nat}, Dig W1 s v → Dig (W1.setCell ⟨q, ps.length, none⟩ (ptr W.heap.size)) s v := fun hd => hd.same fun g cells hc => keep g (by
    rintro rfl
    rw [hr1] at hc
    injection hc with hc
    injection hc with _ h2
    cases h2)
  have nonew : W.heap.size ∉ ps := fun hm => by have := (h.num _ hm).lt; omega
  rw [hW1]
  refine ⟨?_, ?_, ?_, ?_, h.hq, ?_, by simp; omega, hJ _ _ (hJ _ _ h.j (.of_below hb1)) hst⟩
  · exact (h.below.trans (hb1.mono h.below.size)).setCell (p := ⟨q, ps.length, none⟩) h.hq _
  · rw [heap_set hr1]
    congr 2
    obtain ⟨d, hd⟩ : ∃ d, M - ps.length = d + 1 := ⟨M - ps.length - 1, by omega⟩
    have hd2 : M - (ps ++ [W.heap.size]).length = d := by simp; omega
    rw [hd, hd2, List.replicate_succ]
    simp
  · intro p hp
    rw [List.mem_append] at hp
    rcases hp with hp | hp
    · obtain ⟨s, h1, h2⟩ := (h.num p hp).below hb1
      exact ⟨s, (keep p (by
        rintro rfl
        rw [hr1] at h1
        injection h1 with h1
        injection h1 with _ h2
        cases h2)).trans h1, dig h2⟩
    · rw [List.mem_singleton] at hp
      subst hp
      exact ⟨_, (keep _ (by omega)).trans hn1, .inl ⟨rfl, _, _, rfl, by omega⟩⟩
  · rw [List.nodup_append]
    refine ⟨h.nodup, by simp, ?_⟩
    intro a ha b hb e
    rw [List.mem_singleton] at hb
    exact nonew (by rw [← hb, ← e]; exact ha)
  · intro p hp
    rw [List.mem_append] at hp
    rcases hp with hp | hp
    · exact h.hp p hp
    · rw [List.mem_singleton] at hp
      have := h.below.size
      omega
theorem ISt.step' {B0 : Nat} {J : World → Prop} (hJ : Stable B0 J) {Wr W : World} (hB0 : B0 ≤ Wr.heap.size) {q M : Nat} {ps : List Nat} (h : ISt J Wr q M ps W) (hi : ps.length < M) :
    ISt J Wr q M (ps ++ [W.heap.size]) ((W.setCell ⟨q, ps.length, none⟩ (.pointer (some ⟨W.heap.size, 0, none⟩))).alloc (.cells #[.bool false, .slice none 0 0] 82)) := by
  have := h.step hJ hB0 hi
  rw [World.setCell_alloc_past _ _ _ _ (block_lt' h.row)] at this
  exact this
theorem ISt.done {J : World → Prop} {Wr W : World} {q M : Nat} {ps : List Nat} (h : ISt J Wr q M ps W) (hl : ps.length = M) : RSt J Wr q ps (List.replicate M 0) W where
  below := h.below
  row := ⟨by
    have := h.row
    rw [hl, Nat.sub_self] at this
    simpa [PRow] using this, by simp [hl], fun i hi => by
    rw [List.length_replicate] at hi
    rw [show (List.replicate M 0).getD i 0 = 0 by simp [List.getD_eq_getElem?_getD, hi]]
    exact h.num _ (getD_mem (by omega))⟩
  nodup := h.nodup
  hq := h.hq
  hp := h.hp
  j := h.j
/-- the rows that are known -/
def KnV (B0 : Nat) (W : World) (kv : Value) (rows : List (List Nat)) : Prop := ∃ vals : List Value, W.ownsRow B0 65 1 kv rows.length vals ∧ ∀ i, i < rows.length → RowV W (vals.getD i undef) (rows.getD i [])
theorem KnV.below {B0 : Nat} {W W' : World} {kv : Value} {rows : List (List Nat)} (h : KnV B0 W kv rows) (hb : Below W.heap.size W W') : KnV B0 W' kv rows := by
  obtain ⟨vals, h1, h2⟩ := h
  exact ⟨vals, pw_own_below h1 hb, fun i hi => (h2 i hi).below hb⟩
theorem KnV.start {B0 : Nat} {w' : World} {p0 : Nat} (h : Num w' p0 1) (hB0 : B0 ≤ w'.heap.size) : KnV B0 ((w'.alloc (.cells #[.pointer (some ⟨p0, 0, none⟩)] 66)).alloc (.cells #[.slice (some ⟨w'.heap.size, 0, none⟩) 1 1] 65)) (.slice (some ⟨w'.heap.size + 1, 0, none⟩) 1 1) [[1]] := by
  obtain ⟨W1, hW1⟩ : ∃ W1, w'.alloc (.cells #[.pointer (some ⟨p0, 0, none⟩)] 66) = W1 := ⟨_, rfl⟩
  have hb1 : Below w'.heap.size w' W1 := by rw [← hW1]; exact (Below.refl _ _).alloc (Nat.le_refl _) _
  have hs1 : W1.heap.size = w'.heap.size + 1 := by rw [← hW1]; simp
  have hn1 : W1.heap[w'.heap.size]? = some (.cells #[.pointer (some ⟨p0, 0, none⟩)] 66 (0, 0)) := by rw [← hW1]; exact heap_alloc_new _ _
  rw [hW1]
  refine ⟨[.slice (some ⟨w'.heap.size, 0, none⟩) 1 1], ?_, fun i hi => ?_⟩
  · have := World.ownsRow_lit (base := B0) (e := 65) (size := 1) W1 #[.slice (some ⟨w'.heap.size, 0, none⟩) 1 1] 1 (by omega) (by simp [maxLen]) (by simp)
    rw [hs1] at this
    exact this
  · simp only [List.length_cons, List.length_nil] at hi
    obtain rfl : i = 0 := by omega
    refine ⟨w'.heap.size, [p0], rfl, ?_⟩
    refine NRow.below (W := W1) ⟨hn1, rfl, fun j hj => ?_⟩ ((Below.refl _ _).alloc (Nat.le_refl _) _)
    simp only [List.length_cons, List.length_nil, List.getD_cons_zero] at hj
    obtain rfl : j = 0 := by omega
    exact h.below hb1
theorem KnV.form {B0 : Nat} {W : World} {kv : Value} {rows : List (List Nat)} (h : KnV B0 W kv rows) (hr : 0 < rows.length) : ∃ g cap, kv = .slice (some ⟨g, 0, none⟩) rows.length cap := by
  obtain ⟨vals, h1, h2⟩ := h
  obtain ⟨g, cap, e, _⟩ := h1.form hr
  exact ⟨g, cap, e⟩
/-- a row that is known: its place in the table, and its pointers -/
theorem KnV.at_ {B0 : Nat} {W : World} {g n cap : Nat} {rows : List (List Nat)} (h : KnV B0 W (.slice (some ⟨g, 0, none⟩) n cap) rows) (i : Nat) (hi : i < rows.length) :
    ∃ q ps, W.cell? ⟨g, i, none⟩ = some (.slice (some ⟨q, 0, none⟩) (rows.getD i []).length (rows.getD i []).length) ∧ NRow W q ps (rows.getD i []) := by
  obtain ⟨vals, h1, h2⟩ := h
  obtain ⟨q, ps, e, hn⟩ := h2 i hi
  refine ⟨q, ps, ?_, hn⟩
  have hl : vals.length = rows.length := by have := h1.1; omega
  have := h1.cells (g := g) rfl i (vals.getD i undef) (by simp [List.getD_eq_getElem?_getD, hl, hi])
  rw [add_plain] at this
  rw [this, e]
theorem RSt.kn {B0 : Nat} {J : World → Prop} {Wr W : World} {q : Nat} {ps vs : List Nat} (h : RSt J Wr q ps vs W) {kv : Value} {rows : List (List Nat)} (hK : KnV B0 Wr kv rows) : KnV B0 W kv rows := hK.below h.below
theorem RSt.notin {J : World → Prop} {Wr W : World} {q : Nat} {ps vs : List Nat} (h : RSt J Wr q ps vs W) {p : Nat} (hp : W.heap.size ≤ p) : p ∉ ps := fun hm => by
  obtain ⟨i, hi, rfl⟩ := List.getElem_of_mem hm
  have := (h.row.num i (by rw [← h.row.len]; exact hi)).lt
  simp only [List.getD_eq_getElem?_getD, List.getElem?_eq_getElem hi, Option.getD_some] at this
  omega
/-- two new numbers -/
abbrev zero82 : Obj := .cells #[.bool false, .slice none 0 0] 82
theorem two_new (w : World) : Slot ((w.alloc zero82).alloc zero82) w.heap.size ∧ Slot ((w.alloc zero82).alloc zero82) (w.heap.size + 1) ∧ Below w.heap.size w ((w.alloc zero82).alloc zero82) := by
  have h1 := heap_alloc_new w zero82
  have h2 := heap_alloc_new (w.alloc zero82) zero82
  have hs : (w.alloc zero82).heap.size = w.heap.size + 1 := by simp
  rw [hs] at h2
  refine ⟨⟨_, _, (Below.heap_alloc _ _ _ (by omega)).trans h1⟩, ⟨_, _, h2⟩, ((Below.refl _ _).alloc (Nat.le_refl _) _).alloc (by omega) _⟩
theorem below_num {B : Nat} {w w1 w2 : World} {p : Nat} (h : Below B w w1) (hB : B ≤ p) (hg : w1.grownBy w2 (some p)) (hw : B ≤ w.heap.size) : Below B w w2 :=
  ⟨hg.os.trans h.os, hg.tape.trans h.tape, hg.output.trans h.output, Nat.le_trans h.size hg.size, fun k hk => (hg.block k (by have := h.size; omega) (by rintro e; cases e; omega)).trans (h.block k hk)⟩
theorem Slot.grown {W W' : World} {p z : Nat} (h : Slot W p) (hne : p ≠ z) (hg : W.grownBy W' (some z)) : Slot W' p := by
  obtain ⟨b, s, h1⟩ := h
  exact ⟨b, s, (hg.block p (block_lt' h1) (by rintro e; cases e; exact hne rfl)).trans h1⟩
theorem choose_at (n i c : Nat) (hn : n < 10) (hi : i ≤ n) (hc : chairs_Spread.ch n i = c) (w : World) :
    Calls Try.prog 71 #[.int .i64 (n : Int), .int .i64 (i : Int)] w fun e w' => e = .returned (.int .i64 (c : Int)) ∧ w = w' := by
  rw [← hc]; exact choose_walk n i hn hi w
/-- a step that writes one block of a type leaves what is of other types -/
def Keep65 (W W' : World) : Prop := ∀ (r : Nat) (cells : Array Value) (t : Nat), W.heap[r]? = some (.cells cells t (0, 0)) → t = 66 ∨ t = 82 ∨ t = 92 → W'.heap[r]? = W.heap[r]?
theorem NRow.keep {W W' : World} {q : Nat} {ps vs : List Nat} (h : NRow W q ps vs) (k : Keep65 W W') : NRow W' q ps vs := by
  refine ⟨(k q _ _ h.row (.inl rfl)).trans h.row, h.len, fun i hi => ?_⟩
  obtain ⟨s, h1, h2⟩ := h.num i hi
  exact ⟨s, (k _ _ _ h1 (.inr (.inl rfl))).trans h1, h2.same fun g cells hc => k g cells 92 hc (.inr (.inr rfl))⟩
theorem RowV.keep {W W' : World} {v : Value} {vs : List Nat} (h : RowV W v vs) (k : Keep65 W W') : RowV W' v vs := by
  obtain ⟨q, ps, e, hn⟩ := h
  exact ⟨q, ps, e, hn.keep k⟩
theorem keep_of_own {W W' : World} {kv : Value} {n : Nat} {vals : List Value} {b : Nat} (h : W.ownsRow b 65 1 kv n vals) (hg : W.grownBy W' kv.ownBlock) : Keep65 W W' := fun r cells t hr ht => by
  refine hg.block r (block_lt' hr) fun e => ?_
  obtain ⟨cells', hc⟩ := own_typed h r e.symm
  rw [hr] at hc
  injection hc with hc
  injection hc with _ h2
  rw [h2] at ht
  rcases ht with ht | ht | ht <;> cases ht
theorem stp_of_own {W W' : World} {kv : Value} {n : Nat} {vals : List Value} {b : Nat} (h : W.ownsRow b 65 1 kv n vals) (hg : W.grownBy W' kv.ownBlock) : Stp b W W' := ⟨_, hg, fun r e => by
  obtain ⟨cells', hc⟩ := own_typed h r e
  exact ⟨own_base h r e, _, _, hc, .inl rfl⟩⟩
/-- the table of rows with one row more -/
theorem KnV.snoc {B0 : Nat} {W W1 : World} {kv v1 y : Value} {rows : List (List Nat)} {vals : List Value} {F : List Nat} (h1 : W.ownsRow B0 65 1 kv rows.length vals) (h2 : ∀ i, i < rows.length → RowV W (vals.getD i undef) (rows.getD i [])) (hy : RowV W y F)
    (hg : W.grownBy W1 kv.ownBlock) (ho : W1.ownsRow B0 65 1 v1 (vals ++ [y]).length (vals ++ [y])) : KnV B0 W1 v1 (rows ++ [F]) := by
  have hl : vals.length = rows.length := by have := h1.1; omega
  have hk := keep_of_own h1 hg
  refine ⟨vals ++ [y], by rw [List.length_append, ← hl] ; simpa using ho, fun i hi => ?_⟩
  by_cases e : i < rows.length
  · rw [show (vals ++ [y]).getD i undef = vals.getD i undef by simp [List.getD_eq_getElem?_getD, List.getElem?_append, hl, e], show (rows ++ [F]).getD i [] = rows.getD i [] by simp [List.getD_eq_getElem?_getD, List.getElem?_append, e]]
    exact (h2 i e).keep hk
  · rw [List.length_append, List.length_singleton] at hi
    obtain rfl : i = rows.length := by omega
    rw [show (vals ++ [y]).getD rows.length undef = y by simp [List.getD_eq_getElem?_getD, ← hl], show (rows ++ [F]).getD rows.length [] = F by simp [List.getD_eq_getElem?_getD]]
    exact hy.keep hk
theorem RSt.rowv {J : World → Prop} {Wr W : World} {q : Nat} {ps vs : List Nat} (h : RSt J Wr q ps vs W) (i : Nat) (hi : ps.length = i) : RowV W (.slice (some ⟨q, 0, none⟩) i i) vs := ⟨q, ps, by rw [← hi, h.row.len], h.row⟩
end Go.Proofs.Ytfopeenjpdaacaa.PC
