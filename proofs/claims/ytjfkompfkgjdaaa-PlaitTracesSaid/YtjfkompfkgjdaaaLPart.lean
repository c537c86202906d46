/- Arch systems: the partners of the points, and the closed curves of two of them, by the program and by the specification. -/
import Derived.Test.YtjfkompfkgjdaaaPCg5
import Derived.Test.YtjfkompfkgjdaaaPCg5
import Derived.Test.YtjfkompfkgjdaaaPCg6
import Derived.Test.YtjfkompfkgjdaaaPCg6
namespace Go.Proofs.Ytjfkompfkgjdaaa.L
open Go.RowKit Go.Proofs.Ytjfkompfkgjdaaa.PC Go.Proofs.YtjfkompfkgjdaaaW.PrintWords Go.Proofs.YtjfkompfkgjdaaaW.PrintLast
theorem pw64 {x : Int} (h0 : -9223372036854775808 ≤ x) (h1 : x ≤ 9223372036854775807) : wrap64 x = x := by unfold wrap64; omega
/-- how many opening brackets among the first i bytes -/
def opn (s : ByteArray) : Nat → Nat
  | 0 => 0
  | i + 1 => opn s i + if bt s (i : Int) = 40 then 1 else 0
theorem opn_le (s : ByteArray) (i : Nat) : opn s i ≤ i := by
  induction i with
  | zero => simp [opn]
  | succ i ih => simp only [opn]; split <;> omega
/-- the partners from byte q on: the list and the points that are still open -/
def partL (s : ByteArray) : Nat → Nat → List Int → List Int → Option (List Int × List Int)
  | 0, _, out, op => some (out, op)
  | d + 1, q, out, op =>
    if bt s (q : Int) = 40 then partL s d (q + 1) out (op ++ [(q : Int)])
    else if bt s (q : Int) = 41 then (if op.length = 0 then none else partL s d (q + 1) ((out.set q (rd op ((op.length : Int) - 1))).set (rd op ((op.length : Int) - 1)).toNat (q : Int)) (op.take (op.length - 1)))
    else none
structure Inv (s : ByteArray) (q : Nat) (out op : List Int) : Prop where
  len : out.length = s.size
  frng : ∀ x ∈ out, 0 ≤ x ∧ (x < (s.size : Int) ∨ s.size = 0)
  fop : ∀ x ∈ op, 0 ≤ x ∧ x < (q : Int)
  cnt : op.length + q = 2 * opn s q
  br : ∀ i : Nat, i < q → bt s (i : Int) = 40 ∨ bt s (i : Int) = 41
  dep : ∀ i : Nat, i ≤ q → i ≤ 2 * opn s i
theorem mem_set {l : List Int} {i : Nat} {v x : Int} (h : x ∈ l.set i v) : x ∈ l ∨ x = v := List.mem_or_eq_of_mem_set h
theorem Inv.open_ {s : ByteArray} {q : Nat} {out op : List Int} (h : Inv s q out op) (hb : bt s (q : Int) = 40) : Inv s (q + 1) out (op ++ [(q : Int)]) := by
  have hc : opn s (q + 1) = opn s q + 1 := by simp [opn, hb]
  refine ⟨h.len, h.frng, fun x hx => ?_, by have := h.cnt; simp; omega, fun i hi => ?_, fun i hi => ?_⟩
  · rcases List.mem_append.1 hx with hx | hx
    · have := h.fop x hx; omega
    · simp at hx; omega
  · by_cases e : i = q
    · rw [e]; exact Or.inl hb
    · exact h.br i (by omega)
  · by_cases e : i = q + 1
    · have := h.cnt; rw [e]; omega
    · exact h.dep i (by omega)
theorem rd_last {op : List Int} (h : op.length ≠ 0) : rd op ((op.length : Int) - 1) ∈ op := by
  have e : ((op.length : Int) - 1).toNat = op.length - 1 := by omega
  simp [rd, List.getD_eq_getElem?_getD, e, show op.length - 1 < op.length by omega]
theorem Inv.shut {s : ByteArray} {q : Nat} {out op : List Int} (h : Inv s q out op) (hq : q < s.size) (hb : bt s (q : Int) = 41) (ho : op.length ≠ 0) : Inv s (q + 1) ((out.set q (rd op ((op.length : Int) - 1))).set (rd op ((op.length : Int) - 1)).toNat (q : Int)) (op.take (op.length - 1)) := by
  have hc : opn s (q + 1) = opn s q := by simp [opn, hb]
  have hl := h.fop _ (rd_last ho)
  have hcnt := h.cnt
  refine ⟨by simpa using h.len, fun x hx => ?_, fun x hx => ?_, by rw [List.length_take]; omega, fun i hi => ?_, fun i hi => ?_⟩
  · rcases mem_set hx with hx | hx
    · rcases mem_set hx with hx | hx
      · exact h.frng x hx
      · omega
    · omega
  · have := h.fop x (List.mem_of_mem_take hx); omega
  · by_cases e : i = q
    · rw [e]; exact Or.inr hb
    · exact h.br i (by omega)
  · by_cases e : i = q + 1
    · rw [e]; omega
    · exact h.dep i (by omega)
theorem part_loop (s : ByteArray) (hs : s.size ≤ 1000) (d : Nat) : ∀ (q : Nat) (out op : List Int), q + d = s.size → Inv s q out op →
    match partL s d q out op with
    | none => Ev (fun k => plait_partners.l0 k s out op (s.size : Int) (q : Int)) ([], 5) ∧ Ev (fun k => pomaderef07_partners.l0 k s out op (q : Int)) ([], false)
    | some r => Ev (fun k => plait_partners.l0 k s out op (s.size : Int) (q : Int)) (if r.2.length = 0 ∧ s.size ≠ 0 then (r.1, 0) else ([], 5)) ∧ Ev (fun k => pomaderef07_partners.l0 k s out op (q : Int)) (r.1, decide (r.2.length = 0 ∧ s.size ≠ 0)) ∧ Inv s s.size r.1 r.2 := by
  induction d with
  | zero =>
    intro q out op hq hI
    obtain rfl : q = s.size := by omega
    simp only [partL]
    refine ⟨?_, ?_, hI⟩
    · refine Ev.step (f := fun _ => some (if op.length = 0 ∧ s.size ≠ 0 then (out, 0) else ([], 5))) (fun k => ?_) (Ev.now _)
      simp only [plait_partners.l0]
      rw [if_neg (by omega)]
      by_cases c : op.length = 0
      · rw [if_neg (by omega)]
        have e0 : s.toList = [] ↔ s.size = 0 := by
          rw [Go.ByteArray.toList_eq, ← List.length_eq_zero_iff]; simp
        by_cases c2 : s.size = 0
        · rw [if_pos (e0.2 c2), if_neg (by omega)]
        · rw [if_neg (fun e => c2 (e0.1 e)), if_pos ⟨c, c2⟩]
      · rw [if_pos (by omega), if_neg (by omega)]
    · refine Ev.step (f := fun _ => some (out, decide (op.length = 0 ∧ s.size ≠ 0))) (fun k => ?_) (Ev.now _)
      simp only [pomaderef07_partners.l0]
      rw [if_neg (by omega)]
      by_cases c2 : s.size = 0
      · rw [if_neg (by omega), decide_eq_false (by omega)]
      · rw [if_pos (by omega)]
        by_cases c : op.length = 0
        · rw [decide_eq_true ⟨c, c2⟩, beq_iff_eq.2 (by omega : (op.length : Int) = 0)]
        · rw [decide_eq_false (by omega), beq_eq_false_iff_ne.2 (by omega : (op.length : Int) ≠ 0)]
  | succ d ih =>
    intro q out op hq hI
    have hol : op.length ≤ 2000 := by have := hI.cnt; have := opn_le s q; omega
    have hlen := hI.len
    simp only [partL]
    by_cases c1 : bt s (q : Int) = 40
    · rw [if_pos c1]
      have h := ih (q + 1) out (op ++ [(q : Int)]) (by omega) (hI.open_ c1)
      have e1 : ∀ k, plait_partners.l0 (k + 1) s out op (s.size : Int) (q : Int) = plait_partners.l0 k s out (op ++ [(q : Int)]) (s.size : Int) ((q + 1 : Nat) : Int) := fun k => by
        simp only [plait_partners.l0]
        rw [if_pos (by omega), if_pos (by omega), if_pos (by omega), if_pos c1, if_pos (by omega), pw64 (by omega) (by omega)]
        rfl
      have e2 : ∀ k, pomaderef07_partners.l0 (k + 1) s out op (q : Int) = pomaderef07_partners.l0 k s out (op ++ [(q : Int)]) ((q + 1 : Nat) : Int) := fun k => by
        simp only [pomaderef07_partners.l0]
        rw [if_pos (by omega), if_pos (by omega), if_pos c1, if_pos (by omega), pw64 (by omega) (by omega)]
        rfl
      split at h
      · exact ⟨Ev.step e1 h.1, Ev.step e2 h.2⟩
      · exact ⟨Ev.step e1 h.1, Ev.step e2 h.2.1, h.2.2⟩
    · rw [if_neg c1]
      by_cases c2 : bt s (q : Int) = 41
      · rw [if_pos c2]
        by_cases c3 : op.length = 0
        · rw [if_pos c3]
          refine ⟨Ev.step (f := fun _ => some ([], 5)) (fun k => ?_) (Ev.now _), Ev.step (f := fun _ => some ([], false)) (fun k => ?_) (Ev.now _)⟩
          · simp only [plait_partners.l0]
            rw [if_pos (by omega), if_pos (by omega), if_pos (by omega), if_neg c1, if_pos c2, if_neg (by omega)]
          · simp only [pomaderef07_partners.l0]
            rw [if_pos (by omega), if_pos (by omega), if_neg c1, if_pos c2, if_neg (by omega)]
        · rw [if_neg c3]
          have h := ih (q + 1) _ _ (by omega) (hI.shut (by omega) c2 c3)
          have hl := hI.fop _ (rd_last c3)
          have ew : wrap64 ((op.length : Int) - 1) = (op.length : Int) - 1 := pw64 (by omega) (by omega)
          have et : ((op.length : Int) - 1).toNat = op.length - 1 := by omega
          have e1 : ∀ k, plait_partners.l0 (k + 1) s out op (s.size : Int) (q : Int) = plait_partners.l0 k s ((out.set q (rd op ((op.length : Int) - 1))).set (rd op ((op.length : Int) - 1)).toNat (q : Int)) (op.take (op.length - 1)) (s.size : Int) ((q + 1 : Nat) : Int) := fun k => by
            simp only [plait_partners.l0]
            rw [if_pos (by omega), if_pos (by omega), if_pos (by omega), if_neg c1, if_pos c2, if_pos (by omega), ew, if_pos (by omega), if_pos (by omega), if_pos (by omega), if_pos (by omega), if_pos (by omega), if_pos (by omega), et, pw64 (by omega) (by omega)]
            rfl
          have e2 : ∀ k, pomaderef07_partners.l0 (k + 1) s out op (q : Int) = pomaderef07_partners.l0 k s ((out.set q (rd op ((op.length : Int) - 1))).set (rd op ((op.length : Int) - 1)).toNat (q : Int)) (op.take (op.length - 1)) ((q + 1 : Nat) : Int) := fun k => by
            simp only [pomaderef07_partners.l0]
            rw [if_pos (by omega), if_pos (by omega), if_neg c1, if_pos c2, if_pos (by omega), ew, if_pos (by omega), if_pos (by omega), if_pos (by omega), if_pos (by omega), if_pos (by omega), if_pos (by omega), et, pw64 (by omega) (by omega)]
            rfl
          split at h
          · exact ⟨Ev.step e1 h.1, Ev.step e2 h.2⟩
          · exact ⟨Ev.step e1 h.1, Ev.step e2 h.2.1, h.2.2⟩
      · rw [if_neg c2]
        refine ⟨Ev.step (f := fun _ => some ([], 5)) (fun k => ?_) (Ev.now _), Ev.step (f := fun _ => some ([], false)) (fun k => ?_) (Ev.now _)⟩
        · simp only [plait_partners.l0]
          rw [if_pos (by omega), if_pos (by omega), if_pos (by omega), if_neg c1, if_neg c2]
        · simp only [pomaderef07_partners.l0]
          rw [if_pos (by omega), if_pos (by omega), if_neg c1, if_neg c2]
/-- what is known of an arch system and its partners -/
structure Arch (s : ByteArray) (o : List Int) : Prop where
  len : o.length = s.size
  pos : s.size ≠ 0
  rng : ∀ x ∈ o, 0 ≤ x ∧ x < (s.size : Int)
  br : ∀ i : Nat, i < s.size → bt s (i : Int) = 40 ∨ bt s (i : Int) = 41
  dep : ∀ i : Nat, i ≤ s.size → i ≤ 2 * opn s i
  bal : s.size = 2 * opn s s.size
theorem inv_start (s : ByteArray) : Inv s 0 (List.replicate s.size 0) [] :=
  ⟨by simp, (fun x hx => by rw [List.mem_replicate] at hx; omega), (fun x hx => by cases hx), by simp [opn], (fun i hi => by omega), (fun i hi => by omega)⟩
/-- partners, by the program and by the specification -/
theorem partners_both (s : ByteArray) (hs : s.size ≤ 1000) : (∃ o, Arch s o ∧ Ev (fun k => plait_partners.f k s) (if s.size > 24 then ([], 3) else (o, 0)) ∧ Ev (fun k => pomaderef07_partners.f k s) (o, true)) ∨
    (∃ o, Ev (fun k => plait_partners.f k s) (if s.size > 24 then ([], 3) else ([], 5)) ∧ Ev (fun k => pomaderef07_partners.f k s) (o, false)) := by
  have h := part_loop s hs s.size 0 _ _ (by omega) (inv_start s)
  have e1 : ∀ r, Ev (fun k => plait_partners.l0 k s (List.replicate s.size 0) [] (s.size : Int) ((0 : Nat) : Int)) r → Ev (fun k => plait_partners.f k s) (if s.size > 24 then ([], 3) else r) := fun r hr => by
    by_cases c : s.size > 24
    · rw [if_pos c]; exact Ev.congr (fun k => by unfold plait_partners.f; rw [if_pos (by omega)]) (Ev.now _)
    · rw [if_neg c]
      exact Ev.congr (fun k => by unfold plait_partners.f; rw [if_neg (by omega), if_pos (by omega), if_pos (by omega)]; rfl) hr
  have e2 : ∀ r, Ev (fun k => pomaderef07_partners.l0 k s (List.replicate s.size 0) [] ((0 : Nat) : Int)) r → Ev (fun k => pomaderef07_partners.f k s) r := fun r hr =>
    Ev.congr (fun k => by unfold pomaderef07_partners.f; rw [if_pos (by omega), if_pos (by omega)]; rfl) hr
  split at h
  · exact .inr ⟨[], e1 _ h.1, e2 _ h.2⟩
  · rename_i r _
    obtain ⟨h1, h2, hI⟩ := h
    by_cases c : r.2.length = 0 ∧ s.size ≠ 0
    · rw [if_pos c] at h1
      rw [decide_eq_true c] at h2
      have hcnt := hI.cnt
      exact .inl ⟨r.1, ⟨hI.len, c.2, fun x hx => by have := hI.frng x hx; omega, hI.br, hI.dep, by omega⟩, e1 _ h1, e2 _ h2⟩
    · rw [if_neg c] at h1
      rw [decide_eq_false c] at h2
      exact .inr ⟨r.1, e1 _ h1, e2 _ h2⟩
/-! ### closed curves -/
theorem count_set (T : List Bool) (i : Nat) (hi : i < T.length) (h : T.getD i false = false) : (T.set i true).count false + 1 = T.count false := by
  induction T generalizing i with
  | nil => simp at hi
  | cons x xs ih =>
    cases i with
    | zero => simp at h; subst h; simp
    | succ i =>
      have := ih i (by simpa using hi) (by simpa using h)
      cases x <;> simp [List.count_cons] at this ⊢ <;> omega
theorem count_set_le (T : List Bool) (i : Nat) : (T.set i true).count false ≤ T.count false := by
  by_cases hi : i < T.length
  · cases h : T.getD i false with
    | false => have := count_set T i hi h; omega
    | true =>
      have e : T.set i true = T := by
        apply List.ext_getElem (by simp)
        intro j h1 h2
        by_cases e : i = j
        · subst e; simp [List.getD_eq_getElem?_getD, hi] at h; simp [h]
        · simp [List.getElem_set, e]
      rw [e]; exact Nat.le_refl _
  · rw [List.set_eq_of_length_le (by omega)]; exact Nat.le_refl _
theorem rd_rng {l : List Int} {n : Nat} (hl : l.length = n) (hr : ∀ x ∈ l, 0 ≤ x ∧ x < (n : Int)) (i : Int) (h0 : 0 ≤ i) (h1 : i < (n : Int)) : 0 ≤ rd l i ∧ rd l i < (n : Int) := by
  have h : i.toNat < l.length := by omega
  exact hr _ (by simp [rd, List.getD_eq_getElem?_getD, h])
theorem roads_in (a b : List Int) (n : Nat) (hn : n ≤ 1000) (ha : a.length = n) (hb : b.length = n) (ra : ∀ x ∈ a, 0 ≤ x ∧ x < (n : Int)) (rb : ∀ x ∈ b, 0 ≤ x ∧ x < (n : Int)) (many i : Int) (i0 : 0 ≤ i) (i1 : i < (n : Int)) (c : Nat) : ∀ (T : List Bool) (at_ : Int), T.length = n → T.count false ≤ c → 0 ≤ at_ → at_ < (n : Int) →
    ∃ T' : List Bool, T'.length = n ∧ ∀ r1 r2, (Ev (fun k => plait_roads.l0 k a b T' many (n : Int) (i + 1)) r1 → Ev (fun k => plait_roads.l1 k a b T many at_ (n : Int) i) r1) ∧ (Ev (fun k => pomaderef07_roads.l0 k a b T' many (i + 1)) r2 → Ev (fun k => pomaderef07_roads.l1 k a b T many i at_) r2) := by
  induction c with
  | zero =>
    intro T at_ hT hc h0 h1
    have ht : T.getD at_.toNat false = true := by
      cases e : T.getD at_.toNat false with
      | true => rfl
      | false => have := count_set T at_.toNat (by omega) e; omega
    have ht' : rdOf false T at_ = true := ht
    refine ⟨T, hT, fun r1 r2 => ⟨fun h => Ev.step (fun k => ?_) h, fun h => Ev.step (fun k => ?_) h⟩⟩
    · simp only [plait_roads.l1]; rw [if_pos h0, if_pos (by omega), if_pos ht', pw64 (by omega) (by omega)]
    · simp only [pomaderef07_roads.l1]; rw [if_pos h0, if_pos (by omega), if_pos ht', pw64 (by omega) (by omega)]
  | succ c ih =>
    intro T at_ hT hc h0 h1
    cases e : T.getD at_.toNat false with
    | true =>
      have ht' : rdOf false T at_ = true := e
      refine ⟨T, hT, fun r1 r2 => ⟨fun h => Ev.step (fun k => ?_) h, fun h => Ev.step (fun k => ?_) h⟩⟩
      · simp only [plait_roads.l1]; rw [if_pos h0, if_pos (by omega), if_pos ht', pw64 (by omega) (by omega)]
      · simp only [pomaderef07_roads.l1]; rw [if_pos h0, if_pos (by omega), if_pos ht', pw64 (by omega) (by omega)]
    | false =>
      have ht' : rdOf false T at_ = false := e
      have g1 := rd_rng ha ra at_ h0 h1
      have g2 := rd_rng hb rb (rd a at_) g1.1 g1.2
      have h2 := count_set T at_.toNat (by omega) e
      have h3 := count_set_le (T.set at_.toNat true) (rd a at_).toNat
      obtain ⟨T', hT', h4⟩ := ih ((T.set at_.toNat true).set (rd a at_).toNat true) (rd b (rd a at_)) (by simpa using hT) (by omega) g2.1 g2.2
      refine ⟨T', hT', fun r1 r2 => ⟨fun h => Ev.step (fun k => ?_) ((h4 r1 r2).1 h), fun h => Ev.step (fun k => ?_) ((h4 r1 r2).2 h)⟩⟩
      · simp only [plait_roads.l1]; rw [if_pos h0, if_pos (by omega), if_neg (by rw [ht']; simp), if_pos (by omega), if_pos g1.1, if_pos (by omega), if_pos (by omega)]
      · simp only [pomaderef07_roads.l1]; rw [if_pos h0, if_pos (by omega), if_neg (by rw [ht']; simp), if_pos (by omega), if_pos g1.1, if_pos (by omega), if_pos (by omega)]
theorem roads_out (a b : List Int) (n : Nat) (hn : n ≤ 1000) (ha : a.length = n) (hb : b.length = n) (ra : ∀ x ∈ a, 0 ≤ x ∧ x < (n : Int)) (rb : ∀ x ∈ b, 0 ≤ x ∧ x < (n : Int)) (d : Nat) : ∀ (i : Nat) (T : List Bool) (many : Int), i + d = n → T.length = n →
    ∃ r, Ev (fun k => plait_roads.l0 k a b T many (n : Int) (i : Int)) r ∧ Ev (fun k => pomaderef07_roads.l0 k a b T many (i : Int)) r := by
  induction d with
  | zero =>
    intro i T many hi hT
    refine ⟨many, Ev.step (f := fun _ => some many) (fun k => ?_) (Ev.now _), Ev.step (f := fun _ => some many) (fun k => ?_) (Ev.now _)⟩
    · simp only [plait_roads.l0]; rw [if_neg (by omega)]
    · simp only [pomaderef07_roads.l0]; rw [if_neg (by omega)]
  | succ d ih =>
    intro i T many hi hT
    by_cases c : rdOf false T (i : Int) = true
    · obtain ⟨r, h1, h2⟩ := ih (i + 1) T many (by omega) hT
      refine ⟨r, Ev.step (fun k => ?_) h1, Ev.step (fun k => ?_) h2⟩
      · simp only [plait_roads.l0]; rw [if_pos (by omega), if_pos (by omega), if_pos (by omega), if_pos c, pw64 (by omega) (by omega)]; rfl
      · simp only [pomaderef07_roads.l0]; rw [if_pos (by omega), if_pos (by omega), if_pos (by omega), if_pos c, pw64 (by omega) (by omega)]; rfl
    · obtain ⟨T', hT', h4⟩ := roads_in a b n hn ha hb ra rb (wrap64 (many + 1)) (i : Int) (by omega) (by omega) _ T (i : Int) hT (Nat.le_refl _) (by omega) (by omega)
      obtain ⟨r, h1, h2⟩ := ih (i + 1) T' (wrap64 (many + 1)) (by omega) hT'
      refine ⟨r, Ev.step (fun k => ?_) ((h4 r r).1 h1), Ev.step (fun k => ?_) ((h4 r r).2 h2)⟩
      · simp only [plait_roads.l0]; rw [if_pos (by omega), if_pos (by omega), if_pos (by omega), if_neg c]
      · simp only [pomaderef07_roads.l0]; rw [if_pos (by omega), if_pos (by omega), if_pos (by omega), if_neg c]
theorem roads_both (a b : List Int) (n : Nat) (hn : n ≤ 1000) (ha : a.length = n) (hb : b.length = n) (ra : ∀ x ∈ a, 0 ≤ x ∧ x < (n : Int)) (rb : ∀ x ∈ b, 0 ≤ x ∧ x < (n : Int)) : ∃ r, Ev (fun k => plait_roads.f k a b) r ∧ Ev (fun k => pomaderef07_roads.f k a b) r := by
  obtain ⟨r, h1, h2⟩ := roads_out a b n hn ha hb ra rb n 0 (List.replicate n false) 0 (by omega) (by simp)
  refine ⟨r, Ev.congr (fun k => ?_) h1, Ev.congr (fun k => ?_) h2⟩
  · unfold plait_roads.f; rw [if_pos (by omega), if_pos (by omega), ha]; rfl
  · unfold pomaderef07_roads.f; rw [if_pos (by omega), if_pos (by omega), ha]; rfl
end Go.Proofs.Ytjfkompfkgjdaaa.L
