/- The numbers of closed curves that the program counts: of a diagram, and of two arch systems. -/
import Derived.Test.YtjfkompfkgjdaaaLAssoc
import Derived.Test.YtjfkompfkgjdaaaLSys
import Derived.Test.YtjfkompfkgjdaaaMTrace
import Derived.Test.YtjfkompfkgjdaaaPCg5
import Derived.Test.YtjfkompfkgjdaaaPCg5
namespace Go.Proofs.Ytjfkompfkgjdaaa.L
open Go.RowKit Go.Proofs.Ytjfkompfkgjdaaa.PC Go.Proofs.YtjfkompfkgjdaaaW.PrintWords Go.Proofs.YtjfkompfkgjdaaaW.PrintLast Go.Proofs.Ytjfkompfkgjdaaa.G
/-- a list that pairs the points below N -/
structure PL (N : Nat) (o : List Int) : Prop where
  len : o.length = N
  nn : ∀ z : Nat, z < N → rd o (z : Int) = (fn o z : Int)
  pair : PairN N (fn o)
theorem LM.pl {n : Nat} {l : List Int} (h : LM n l) : PL (2 * n) l := ⟨h.len, h.nn, h.mat⟩
abbrev UN (N : Nat) : Nat → Prop := fun z => z < N
/-! ### two arch systems -/
theorem roads_rnd {N : Nat} (hN : N ≤ 1000) {a b : List Int} (ha : PL N a) (hb : PL N b) (T0 : List Bool) (many : Int) (i : Nat) (hi : i < N) (c : Nat) : ∀ (at_ : Nat) (T : List Bool), T.count false ≤ c → T.length = N → Rd (UN N) (fn a) (fn b) (bM T0) (bM T) i at_ →
    ∃ T', T'.length = N ∧ (∀ m, UN N m → (bM T' m ↔ bM T0 m ∨ Conn (fn a) (fn b) i m)) ∧ ∀ r, Ev (fun k => plait_roads.l0 k a b T' many (N : Int) ((i + 1 : Nat) : Int)) r → Ev (fun k => plait_roads.l1 k a b T many (at_ : Int) (N : Int) (i : Int)) r := by
  have pa := pairs_of ha.pair
  have pb := pairs_of hb.pair
  have la := ha.len
  have lb := hb.len
  have stop : ∀ (at_ : Nat) (T : List Bool), T.length = N → at_ < N → bM T at_ → ∀ r, Ev (fun k => plait_roads.l0 k a b T many (N : Int) ((i + 1 : Nat) : Int)) r → Ev (fun k => plait_roads.l1 k a b T many (at_ : Int) (N : Int) (i : Int)) r := by
    intro at_ T hT hat ht r hr
    refine Ev.step (fun k => ?_) hr
    simp only [plait_roads.l1]
    rw [if_pos (by omega), if_pos (by omega), if_pos (show rdOf false T (at_ : Int) = true from ht), pw64 (by omega) (by omega)]
    rfl
  induction c with
  | zero =>
    intro at_ T hc hT hR
    have hat : at_ < N := hR.uc
    have ht : bM T at_ := by
      unfold bM
      cases e : T.getD at_ false with
      | true => rfl
      | false => exact absurd (Nat.le_zero.1 hc) (count_pos (by omega) e)
    exact ⟨T, hT, hR.fin pa pb ht, stop at_ T hT hat ht⟩
  | succ c ih =>
    intro at_ T hc hT hR
    have hat : at_ < N := hR.uc
    by_cases ht : bM T at_
    · exact ⟨T, hT, hR.fin pa pb ht, stop at_ T hT hat ht⟩
    · have hA : fn a at_ < N := (ha.pair at_ hat).1
      have hB : fn b (fn a at_) < N := (hb.pair _ hA).1
      have e := count_set T at_ (by omega) (by unfold bM at ht; simpa using ht)
      have e2 := count_set_le (T.set at_ true) (fn a at_)
      have bs : ∀ (T : List Bool) (x u : Nat), x < T.length → (bM (T.set x true) u ↔ bM T u ∨ u = x) := fun T x u h => getD_set T x u h
      have all : ∀ m, UN N m → (bM ((T.set at_ true).set (fn a at_) true) m ↔ bM T m ∨ m = at_ ∨ m = fn a at_) := by
        intro m _
        rw [bs _ _ _ (by simp; omega), bs _ _ _ (by omega), or_assoc]
      obtain ⟨T', g1, g2, g3⟩ := ih (fn b (fn a at_)) _ (by omega) (by simpa using hT) (hR.step pa pb ht all)
      refine ⟨T', g1, g2, fun r hr => Ev.step (fun k => ?_) (g3 r hr)⟩
      simp only [plait_roads.l1]
      rw [if_pos (by omega), if_pos (by omega), if_neg (show ¬ rdOf false T (at_ : Int) = true from ht), if_pos (by omega), ha.nn at_ hat, if_pos (by omega), if_pos (by omega), if_pos (by omega), hb.nn _ hA]
      rfl
theorem roads_cnt {N : Nat} (hN : N ≤ 1000) {a b : List Int} (ha : PL N a) (hb : PL N b) (d : Nat) : ∀ (i : Nat) (T : List Bool), i + d = N → T.length = N → MetI (UN N) (fn a) (fn b) i (bM T) →
    Ev (fun k => plait_roads.l0 k a b T (cntP (Fst (UN N) (fn a) (fn b)) i : Int) (N : Int) (i : Int)) (cntP (Fst (UN N) (fn a) (fn b)) N : Int) := by
  have pa := pairs_of ha.pair
  have pb := pairs_of hb.pair
  induction d with
  | zero =>
    intro i T hi hT hM
    obtain rfl : i = N := by omega
    refine Ev.step (f := fun _ => some (cntP (Fst (UN i) (fn a) (fn b)) i : Int)) (fun k => ?_) (Ev.now _)
    simp only [plait_roads.l0]
    rw [if_neg (by omega)]
  | succ d ih =>
    intro i T hi hT hM
    have hle := cntP_le (Fst (UN N) (fn a) (fn b)) i
    by_cases c : bM T i
    · obtain ⟨m1, m2⟩ := hM.skip (fun _ => c)
      have := ih (i + 1) T (by omega) hT m1
      simp only [cntP] at this
      rw [if_neg m2] at this
      refine Ev.step (fun k => ?_) this
      simp only [plait_roads.l0]
      rw [if_pos (by omega), if_pos (by omega), if_pos (by omega), if_pos (show rdOf false T (i : Int) = true from c), pw64 (by omega) (by omega)]
      rfl
    · have ui : UN N i := by show i < N; omega
      obtain ⟨ca, cb⟩ := hM.closed pa pb
      obtain ⟨T', g1, g2, g3⟩ := roads_rnd hN ha hb T (cntP (Fst (UN N) (fn a) (fn b)) i + 1 : Nat) i (by omega) _ i T (Nat.le_refl _) hT (Rd.start pa pb ca cb ui c)
      obtain ⟨n1, n2⟩ := hM.round ui c g2
      have := ih (i + 1) T' (by omega) g1 n1
      simp only [cntP] at this
      rw [if_pos n2] at this
      refine Ev.step (fun k => ?_) (g3 _ this)
      simp only [plait_roads.l0]
      rw [if_pos (by omega), if_pos (by omega), if_pos (by omega), if_neg (show ¬ rdOf false T (i : Int) = true from c), pw64 (by omega) (by omega)]
      rfl
theorem no_mark (N m : Nat) : ¬ bM (List.replicate N false) m := fun h => by
  unfold bM at h
  rw [List.getD_eq_getElem?_getD, List.getElem?_replicate] at h
  split at h <;> simp at h
theorem roads_val {N : Nat} (hN : N ≤ 1000) {a b : List Int} (ha : PL N a) (hb : PL N b) : Ev (fun k => plait_roads.f k a b) (cntP (Fst (UN N) (fn a) (fn b)) N : Int) := by
  have la := ha.len
  refine Ev.congr (fun k => ?_) (roads_cnt hN ha hb N 0 (List.replicate N false) (by omega) (by simp) (fun m _ => ⟨fun h => absurd h (no_mark N m), fun ⟨j, hj, _⟩ => by omega⟩))
  unfold plait_roads.f
  rw [if_pos (by omega), if_pos (by omega), la]
  rfl
/-! ### a diagram, closed -/
theorem down_val {n : Nat} (h0 : 0 < n) (hn : n ≤ 500) {l : List Int} (hl : l.length = 2 * n) {q : Nat} (hq : q < 2 * n) : plait_diagram_down.f l (q : Int) = some (G.idf n q : Int) := by
  unfold plait_diagram_down.f plait_diagram_size.f
  rw [Option.bind_some, if_neg (by omega), pw64 (x := (l.length : Int) / 2) (by omega) (by omega), pw64 (by omega) (by omega), Int.tmod_eq_emod_of_nonneg (by omega)]
  congr 1
  unfold G.idf
  by_cases c : q < n
  · rw [if_pos c, Int.emod_eq_of_lt (by omega) (by omega)]; omega
  · rw [if_neg c, show (q : Int) + (l.length : Int) / 2 = ((q - n : Nat) : Int) + (l.length : Int) * 1 by omega, Int.add_mul_emod_self_left, Int.emod_eq_of_lt (by omega) (by omega)]
theorem closed_rnd {n : Nat} (h0 : 0 < n) (hn : n ≤ 500) {a : List Int} (ha : LM n a) (T0 : List Bool) (many : Int) (i : Nat) (hi : i < 2 * n) (c : Nat) : ∀ (at_ : Nat) (T : List Bool), T.count false ≤ c → T.length = 2 * n → Rd (UN (2 * n)) (fn a) (G.idf n) (bM T0) (bM T) i at_ →
    ∃ T', T'.length = 2 * n ∧ (∀ m, UN (2 * n) m → (bM T' m ↔ bM T0 m ∨ Conn (fn a) (G.idf n) i m)) ∧ ∀ r, Ev (fun k => plait_Closed.l0 k a T' many ((2 * n : Nat) : Int) ((i + 1 : Nat) : Int)) r → Ev (fun k => plait_Closed.l1 k a T many (at_ : Int) ((2 * n : Nat) : Int) (i : Int)) r := by
  have pa := pairs_of ha.pl.pair
  have pb := pairs_of (N := 2 * n) (A := G.idf n) G.idf_mat
  have la := ha.len
  have stop : ∀ (at_ : Nat) (T : List Bool), T.length = 2 * n → at_ < 2 * n → bM T at_ → ∀ r, Ev (fun k => plait_Closed.l0 k a T many ((2 * n : Nat) : Int) ((i + 1 : Nat) : Int)) r → Ev (fun k => plait_Closed.l1 k a T many (at_ : Int) ((2 * n : Nat) : Int) (i : Int)) r := by
    intro at_ T hT hat ht r hr
    refine Ev.step (fun k => ?_) hr
    simp only [plait_Closed.l1]
    rw [if_pos (by omega), if_pos (by omega), if_pos (show rdOf false T (at_ : Int) = true from ht), pw64 (by omega) (by omega)]
    rfl
  induction c with
  | zero =>
    intro at_ T hc hT hR
    have hat : at_ < 2 * n := hR.uc
    have ht : bM T at_ := by
      unfold bM
      cases e : T.getD at_ false with
      | true => rfl
      | false => exact absurd (Nat.le_zero.1 hc) (count_pos (by omega) e)
    exact ⟨T, hT, hR.fin pa pb ht, stop at_ T hT hat ht⟩
  | succ c ih =>
    intro at_ T hc hT hR
    have hat : at_ < 2 * n := hR.uc
    by_cases ht : bM T at_
    · exact ⟨T, hT, hR.fin pa pb ht, stop at_ T hT hat ht⟩
    · have hA : fn a at_ < 2 * n := (ha.mat at_ hat).1
      have hB : G.idf n (fn a at_) < 2 * n := (G.idf_mat _ hA).1
      have e := count_set T at_ (by omega) (by unfold bM at ht; simpa using ht)
      have e2 := count_set_le (T.set at_ true) (fn a at_)
      have bs : ∀ (T : List Bool) (x u : Nat), x < T.length → (bM (T.set x true) u ↔ bM T u ∨ u = x) := fun T x u h => getD_set T x u h
      have all : ∀ m, UN (2 * n) m → (bM ((T.set at_ true).set (fn a at_) true) m ↔ bM T m ∨ m = at_ ∨ m = fn a at_) := by
        intro m _
        rw [bs _ _ _ (by simp; omega), bs _ _ _ (by omega), or_assoc]
      obtain ⟨T', g1, g2, g3⟩ := ih (G.idf n (fn a at_)) _ (by omega) (by simpa using hT) (hR.step pa pb ht all)
      refine ⟨T', g1, g2, fun r hr => Ev.step (fun k => ?_) (g3 r hr)⟩
      simp only [plait_Closed.l1]
      rw [if_pos (by omega), if_pos (by omega), if_neg (show ¬ rdOf false T (at_ : Int) = true from ht), if_pos (by omega), ha.nn at_ hat, if_pos (by omega), if_pos (by omega), down_val h0 hn la hA, Option.bind_some]
      rfl
theorem closed_cnt {n : Nat} (h0 : 0 < n) (hn : n ≤ 500) {a : List Int} (ha : LM n a) (d : Nat) : ∀ (i : Nat) (T : List Bool), i + d = 2 * n → T.length = 2 * n → MetI (UN (2 * n)) (fn a) (G.idf n) i (bM T) →
    Ev (fun k => plait_Closed.l0 k a T (cntP (Fst (UN (2 * n)) (fn a) (G.idf n)) i : Int) ((2 * n : Nat) : Int) (i : Int)) ((cntP (Fst (UN (2 * n)) (fn a) (G.idf n)) (2 * n) : Int), 0) := by
  have pa := pairs_of ha.pl.pair
  have pb := pairs_of (N := 2 * n) (A := G.idf n) G.idf_mat
  induction d with
  | zero =>
    intro i T hi hT hM
    obtain rfl : i = 2 * n := by omega
    refine Ev.step (f := fun _ => some ((cntP (Fst (UN (2 * n)) (fn a) (G.idf n)) (2 * n) : Int), 0)) (fun k => ?_) (Ev.now _)
    simp only [plait_Closed.l0]
    rw [if_neg (by omega)]
  | succ d ih =>
    intro i T hi hT hM
    have hle := cntP_le (Fst (UN (2 * n)) (fn a) (G.idf n)) i
    by_cases c : bM T i
    · obtain ⟨m1, m2⟩ := hM.skip (fun _ => c)
      have := ih (i + 1) T (by omega) hT m1
      simp only [cntP] at this
      rw [if_neg m2] at this
      refine Ev.step (fun k => ?_) this
      simp only [plait_Closed.l0]
      rw [if_pos (by omega), if_pos (by omega), if_pos (by omega), if_pos (show rdOf false T (i : Int) = true from c), pw64 (by omega) (by omega)]
      rfl
    · have ui : UN (2 * n) i := by show i < 2 * n; omega
      obtain ⟨ca, cb⟩ := hM.closed pa pb
      obtain ⟨T', g1, g2, g3⟩ := closed_rnd h0 hn ha T (cntP (Fst (UN (2 * n)) (fn a) (G.idf n)) i + 1 : Nat) i (by omega) _ i T (Nat.le_refl _) hT (Rd.start pa pb ca cb ui c)
      obtain ⟨n1, n2⟩ := hM.round ui c g2
      have := ih (i + 1) T' (by omega) g1 n1
      simp only [cntP] at this
      rw [if_pos n2] at this
      refine Ev.step (fun k => ?_) (g3 _ this)
      simp only [plait_Closed.l0]
      rw [if_pos (by omega), if_pos (by omega), if_pos (by omega), if_neg (show ¬ rdOf false T (i : Int) = true from c), pw64 (by omega) (by omega)]
      rfl
theorem closed_val {n : Nat} {a : List Int} (ha : Dia n a) : Ev (fun k => plait_Closed.f k a) ((cls n (fn a) : Int), 0) := by
  have la := ha.lm.len
  have hn := ha.lim
  refine Ev.congr (fun k => rfl) (Ev.bind (dia_yes ha).1 ?_)
  rw [cls_fst ha.lm.mat]
  refine Ev.congr (fun k => ?_) (closed_cnt ha.pos (by omega) ha.lm (2 * n) 0 (List.replicate (2 * n) false) (by omega) (by simp) (fun m _ => ⟨fun h => absurd h (no_mark _ m), fun ⟨j, hj, _⟩ => by omega⟩))
  rw [if_pos rfl, if_pos (by omega), if_pos (by omega), la]
  rfl
theorem cls_prod {n : Nat} {a b : List Int} (ha : LM n a) (hb : LM n b) : cls n (fn (prodL n a b)) + lops n (fn a) (fn b) = cls n (fn (prodL n b a)) + lops n (fn b) (fn a) := by
  have c : ∀ {x y : Nat → Nat}, (∀ z, z < 2 * n → x z = y z) → cls n x = cls n y := fun h => by
    unfold cls
    congr 2
    funext z
    unfold ext
    by_cases q : z < 2 * n
    · rw [if_pos q, if_pos q, h z q]
    · rw [if_neg q, if_neg q]
  rw [c (fun z hz => prodL_fn hz), c (x := fn (prodL n b a)) (fun z hz => prodL_fn hz)]
  exact trace ha.mat hb.mat
/-! ### an arch system and its partners -/
structure Half (s : ByteArray) (q : Nat) (out op : List Int) : Prop where
  len : out.length = s.size
  srt : op.Pairwise (· < ·)
  opn : ∀ x ∈ op, 0 ≤ x ∧ x < (q : Int) ∧ bt s x = 40
  shut : ∀ j : Nat, j < q → (j : Int) ∉ op → ∃ m : Nat, m < q ∧ rd out (j : Int) = (m : Int) ∧ (m : Int) ∉ op ∧ rd out (m : Int) = (j : Int) ∧ m ≠ j ∧ (bt s (j : Int) = 40 ↔ j < m)
theorem half_run (s : ByteArray) (d : Nat) : ∀ (q : Nat) (out op : List Int) (r : List Int × List Int), q + d = s.size → Half s q out op → partL s d q out op = some r → Half s s.size r.1 r.2 := by
  induction d with
  | zero =>
    intro q out op r hq h hr
    simp only [partL] at hr
    obtain rfl := Option.some.inj hr
    obtain rfl : q = s.size := by omega
    exact h
  | succ d ih =>
    intro q out op r hq h hr
    simp only [partL] at hr
    by_cases c1 : bt s (q : Int) = 40
    · rw [if_pos c1] at hr
      refine ih (q + 1) _ _ r (by omega) ⟨h.len, ?_, fun x hx => ?_, fun j hj hn => ?_⟩ hr
      · rw [List.pairwise_append]
        exact ⟨h.srt, List.pairwise_singleton .., fun x hx y hy => by simp at hy; have := h.opn x hx; omega⟩
      · rcases List.mem_append.1 hx with hx | hx
        · have := h.opn x hx; exact ⟨this.1, by omega, this.2.2⟩
        · simp at hx; subst hx; exact ⟨by omega, by omega, c1⟩
      · simp only [List.mem_append, not_or] at hn
        have ne : j ≠ q := fun e => hn.2 (by rw [e]; simp)
        obtain ⟨m, a, b, c, e⟩ := h.shut j (by omega) hn.1
        refine ⟨m, by omega, b, fun hm => ?_, e⟩
        rcases List.mem_append.1 hm with hm | hm
        · exact c hm
        · simp at hm; omega
    · rw [if_neg c1] at hr
      by_cases c2 : bt s (q : Int) = 41
      · rw [if_pos c2] at hr
        by_cases c3 : op.length = 0
        · rw [if_pos c3] at hr; cases hr
        · rw [if_neg c3] at hr
          have hl := h.opn _ (rd_last c3)
          obtain ⟨k, hk⟩ : ∃ k : Nat, rd op ((op.length : Int) - 1) = (k : Int) := ⟨(rd op ((op.length : Int) - 1)).toNat, by omega⟩
          rw [hk] at hr hl
          rw [Int.toNat_natCast] at hr
          have eop : op = op.take (op.length - 1) ++ [(k : Int)] := by
            have e1 := List.take_append_drop (op.length - 1) op
            have e2 : op.drop (op.length - 1) = [op[op.length - 1]'(by omega)] := by
              rw [List.drop_eq_getElem_cons (by omega), List.drop_of_length_le (by omega)]
            have e3 : op[op.length - 1]'(by omega) = (k : Int) := by
              rw [← hk]
              have et : ((op.length : Int) - 1).toNat = op.length - 1 := by omega
              simp [rd, List.getD_eq_getElem?_getD, et, show op.length - 1 < op.length by omega]
            rw [e2, e3] at e1
            exact e1.symm
          have hs := h.srt
          rw [eop, List.pairwise_append] at hs
          have hlt : ∀ x ∈ op.take (op.length - 1), x < (k : Int) := fun x hx => hs.2.2 x hx _ (by simp)
          have hkq : k < q := by omega
          have lo : k < (out.set q (k : Int)).length := by simp; have := h.len; omega
          have v : ∀ j : Nat, rd ((out.set q (k : Int)).set k (q : Int)) (j : Int) = if j = k then (q : Int) else if j = q then (k : Int) else rd out (j : Int) := fun j => by
            have := h.len
            rw [rd_set _ _ _ _ lo, rd_set _ _ _ _ (by omega)]
          refine ih (q + 1) _ _ r (by omega) ⟨by simpa using h.len, hs.1, fun x hx => ?_, fun j hj hn => ?_⟩ hr
          · have := h.opn x (List.mem_of_mem_take hx); exact ⟨this.1, by omega, this.2.2⟩
          · have nk : (k : Int) ∉ op.take (op.length - 1) := fun hx => by have := hlt _ hx; omega
            have nq : (q : Int) ∉ op.take (op.length - 1) := fun hx => by have := hlt _ hx; omega
            by_cases e1 : j = k
            · subst e1
              exact ⟨q, by omega, by rw [v, if_pos rfl], nq, by rw [v, if_neg (by omega), if_pos rfl], by omega, fun _ => hkq, fun _ => hl.2.2⟩
            · by_cases e2 : j = q
              · subst e2
                exact ⟨k, by omega, by rw [v, if_neg e1, if_pos rfl], nk, by rw [v, if_pos rfl], by omega, fun h => absurd h c1, fun h => by omega⟩
              · have nj : (j : Int) ∉ op := fun hx => by
                  rw [eop] at hx
                  rcases List.mem_append.1 hx with hx | hx
                  · exact hn hx
                  · simp at hx; omega
                obtain ⟨m, a, b, c, e, f⟩ := h.shut j (by omega) nj
                have mk : m ≠ k := fun e => c (by rw [e, eop]; simp)
                exact ⟨m, by omega, by rw [v, if_neg e1, if_neg e2]; exact b, fun hx => c (List.mem_of_mem_take hx), by rw [v, if_neg mk, if_neg (by omega)]; exact e, f⟩
      · rw [if_neg c2] at hr; cases hr
theorem arch_pair {s : ByteArray} (hs : s.size ≤ 1000) {o : List Int} (h : Ev (fun k => pomaderef07_partners.f k s) (o, true)) : PL s.size o ∧ ∀ j : Nat, j < s.size → (bt s (j : Int) = 40 ↔ j < fn o j) := by
  have hp := part_loop s hs s.size 0 _ _ (by omega) (inv_start s)
  have e2 : ∀ r, Ev (fun k => pomaderef07_partners.l0 k s (List.replicate s.size 0) [] ((0 : Nat) : Int)) r → Ev (fun k => pomaderef07_partners.f k s) r := fun r hr =>
    Ev.congr (fun k => by unfold pomaderef07_partners.f; rw [if_pos (by omega), if_pos (by omega)]; rfl) hr
  cases hr : partL s s.size 0 (List.replicate s.size 0) [] with
  | none =>
    rw [hr] at hp
    have := Ev.det h (e2 _ hp.2)
    exact absurd (show true = false from congrArg Prod.snd this) (by decide)
  | some r =>
    rw [hr] at hp
    have e := Ev.det h (e2 _ hp.2.1)
    have e1 : o = r.1 := congrArg Prod.fst e
    have e3 : decide (r.2.length = 0 ∧ s.size ≠ 0) = true := (congrArg Prod.snd e).symm
    have e4 := of_decide_eq_true e3
    have hh := half_run s s.size 0 _ _ r (by omega) ⟨by simp, List.Pairwise.nil, fun x hx => (by cases hx), fun j hj => by omega⟩ hr
    have emp : r.2 = [] := List.length_eq_zero_iff.1 e4.1
    have sh := hh.shut
    rw [emp, ← e1] at sh
    have key : ∀ j : Nat, j < s.size → ∃ m : Nat, m < s.size ∧ rd o (j : Int) = (m : Int) ∧ rd o (m : Int) = (j : Int) ∧ m ≠ j ∧ (bt s (j : Int) = 40 ↔ j < m) := fun j hj => by
      obtain ⟨m, a, b, _, c, d, e⟩ := sh j hj (by simp)
      exact ⟨m, a, b, c, d, e⟩
    have fm : ∀ j m : Nat, rd o (j : Int) = (m : Int) → fn o j = m := fun j m e => by
      show (rd o (j : Int)).toNat = m
      rw [e, Int.toNat_natCast]
    refine ⟨⟨by rw [e1]; exact hh.len, fun z hz => ?_, fun z hz => ?_⟩, fun j hj => ?_⟩
    · obtain ⟨m, a, b, _⟩ := key z hz; rw [b, fm z m b]
    · obtain ⟨m, a, b, c, d, e⟩ := key z hz
      rw [fm z m b, fm m z c]
      exact ⟨a, d, rfl⟩
    · obtain ⟨m, a, b, c, d, e⟩ := key j hj
      rw [fm j m b]; exact e
end Go.Proofs.Ytjfkompfkgjdaaa.L
