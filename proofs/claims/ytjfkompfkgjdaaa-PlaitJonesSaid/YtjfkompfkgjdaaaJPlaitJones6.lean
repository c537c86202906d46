/- Parts of the proof of LawPlaitJones, one behind the other: LJones PurePlaitJones LawPlaitJones. -/
import Derived.Test.YtjfkompfkgjdaaaRows
import Derived.WalkKit
import Derived.ProofKit
import Derived.OpenShut
import Derived.ShutString
import Derived.ChangeOld
import Derived.Below
import Derived.SizedLaws
import Derived.Test.YtjfkompfkgjdaaaJPlaitJones5
section
/- Between two occurrences of a number in a shortest word both of its neighbours occur. -/
namespace Go.Proofs.Ytjfkompfkgjdaaa.L
open Go.RowKit Go.Proofs.Ytjfkompfkgjdaaa.PC Go.Proofs.YtjfkompfkgjdaaaW.PrintWords Go.Proofs.YtjfkompfkgjdaaaW.PrintLast Go.Proofs.Ytjfkompfkgjdaaa.G
theorem tl_congr {n i : Nat} {f g : Nat → Nat} (hi : i + 1 < n) (h : ∀ z, z < 2 * n → f z = g z) {z : Nat} (hz : z < 2 * n) : tl i f z = tl i g z := by
  unfold tl
  rw [h z hz, h i (by omega), h (i + 1) (by omega)]
def Far (i x : Nat) : Prop := i + 1 < x ∨ x + 1 < i
theorem top_comm {n i x : Nat} {o : List Int} (ho : LM n o) (hi : i + 1 < n) (hx : x + 1 < n) (h : Far i x) : prodL n (hkL n i) (prodL n (hkL n x) o) = prodL n (hkL n x) (prodL n (hkL n i) o) := by
  have a := top_list ho hi
  have b := top_list ho hx
  have c := top_list a.1 hx
  have e := top_list b.1 hi
  refine lm_eq e.1 c.1 (fun z hz => ?_)
  rw [e.2.1 z hz, c.2.1 z hz, tl_congr hi b.2.1 hz, tl_congr hx a.2.1 hz]
  exact tl_comm ho.mat hi hx h hz
theorem top_idem {n i : Nat} {o : List Int} (ho : LM n o) (hi : i + 1 < n) : prodL n (hkL n i) (prodL n (hkL n i) o) = prodL n (hkL n i) o := by
  have a := top_list ho hi
  have e := top_list a.1 hi
  refine lm_eq e.1 a.1 (fun z hz => ?_)
  rw [e.2.1 z hz, a.2.1 z hz, tl_congr hi a.2.1 hz]
  exact tl_idem i (fn o) z
theorem top_braid {n i j : Nat} {o : List Int} (ho : LM n o) (hi : i + 1 < n) (hj : j + 1 < n) (h : i + 1 = j ∨ j + 1 = i) : prodL n (hkL n i) (prodL n (hkL n j) (prodL n (hkL n i) o)) = prodL n (hkL n i) o := by
  have a := top_list ho hi
  have b := top_list a.1 hj
  have e := top_list b.1 hi
  refine lm_eq e.1 a.1 (fun z hz => ?_)
  rw [e.2.1 z hz, a.2.1 z hz, tl_congr hi (fun w hw => by rw [b.2.1 w hw, tl_congr hj a.2.1 hw] : ∀ w, w < 2 * n → fn (prodL n (hkL n j) (prodL n (hkL n i) o)) w = tl j (tl i (fn o)) w) hz]
  exact tl_braid ho.mat hi hj h hz
theorem act_move {n i : Nat} (hi : i + 1 < n) {v : List Nat} (hv : okN n v) (h : ∀ x, x ∈ v → Far i x) {o : List Int} (ho : LM n o) : prodL n (hkL n i) (actW n v o) = actW n v (prodL n (hkL n i) o) := by
  induction v with
  | nil => rfl
  | cons x v ih =>
    have hx := hv x List.mem_cons_self
    have hv' : okN n v := fun y hy => hv y (List.mem_cons_of_mem _ hy)
    show prodL n (hkL n i) (prodL n (hkL n x) (actW n v o)) = prodL n (hkL n x) (actW n v (prodL n (hkL n i) o))
    rw [top_comm (act_lm hv' ho) hi hx (h x List.mem_cons_self), ih hv' (fun y hy => h y (List.mem_cons_of_mem _ hy))]
theorem first_mem {a : Nat} {l : List Nat} (h : a ∈ l) : ∃ s t, l = s ++ a :: t ∧ a ∉ s := by
  induction l with
  | nil => cases h
  | cons b l ih =>
    by_cases c : b = a
    · exact ⟨[], l, by rw [c]; rfl, by simp⟩
    · have h2 : a ∈ l := by
        rcases List.mem_cons.1 h with q | q
        · exact absurd q.symm c
        · exact q
      obtain ⟨s, t, e, n⟩ := ih h2
      exact ⟨b :: s, t, by rw [e]; rfl, fun q => by
        rcases List.mem_cons.1 q with q | q
        · exact c q.symm
        · exact n q⟩
theorem okN_sub {n : Nat} {v w : List Nat} (h : okN n w) (s : ∀ x, x ∈ v → x ∈ w) : okN n v := fun x hx => h x (s x hx)
theorem shrink {n : Nat} (m : Nat) : ∀ (i : Nat) (v : List Nat), v.length ≤ m → i + 1 < n → okN n v → i ∉ v → ∀ j, (i + 1 = j ∨ j + 1 = i) → (∀ x, x ∈ v → x ≠ j → Far i x) →
    ∃ f, okN n f ∧ f.length < v.length + 2 ∧ ∀ o, LM n o → prodL n (hkL n i) (actW n v (prodL n (hkL n i) o)) = actW n f o := by
  induction m with
  | zero =>
    intro i v hm hi hv hn j hj hf
    have e : v = [] := List.length_eq_zero_iff.1 (by omega)
    subst e
    refine ⟨[i], fun x hx => ?_, by simp, fun o ho => ?_⟩
    · rcases List.mem_cons.1 hx with rfl | hx
      · exact hi
      · cases hx
    · exact top_idem ho hi
  | succ m ih =>
    intro i v hm hi hv hn j hj hf
    have one : okN n [i] := fun x hx => by
      rcases List.mem_cons.1 hx with rfl | hx
      · exact hi
      · cases hx
    by_cases c : j ∈ v
    · obtain ⟨v1, v2, rfl, n1⟩ := first_mem c
      have hjn := hv j (by simp)
      have h1 : okN n v1 := okN_sub hv (fun x hx => by simp [hx])
      have h2 : okN n v2 := okN_sub hv (fun x hx => by simp [hx])
      have f1 : ∀ x, x ∈ v1 → Far i x := fun x hx => hf x (by simp [hx]) (fun e => n1 (by rw [← e]; exact hx))
      by_cases c2 : j ∈ v2
      · obtain ⟨v3, v4, rfl, n3⟩ := first_mem c2
        have h3 : okN n v3 := okN_sub h2 (fun x hx => by simp [hx])
        have h4 : okN n v4 := okN_sub h2 (fun x hx => by simp [hx])
        have i3 : i ∉ v3 := fun q => hn (by simp [q])
        have hl : v3.length ≤ m := by simp only [List.length_append, List.length_cons] at hm; omega
        have ex : ∃ j', (j + 1 = j' ∨ j' + 1 = j) ∧ ∀ x, x ∈ v3 → x ≠ j' → Far j x := by
          have ne : ∀ x, x ∈ v3 → x ≠ i ∧ x ≠ j := fun x hx => ⟨fun e => i3 (by rw [← e]; exact hx), fun e => n3 (by rw [← e]; exact hx)⟩
          rcases hj with hj | hj
          · exact ⟨j + 1, .inl rfl, fun x hx q => by have := ne x hx; unfold Far; omega⟩
          · by_cases z : j = 0
            · exact ⟨1, .inl (by omega), fun x hx q => by have := ne x hx; unfold Far; omega⟩
            · exact ⟨j - 1, .inr (by omega), fun x hx q => by have := ne x hx; unfold Far; omega⟩
        obtain ⟨j', hj', hf'⟩ := ex
        obtain ⟨f, g1, g2, g3⟩ := ih j v3 hl hjn h3 n3 j' hj' hf'
        refine ⟨i :: (v1 ++ (f ++ (v4 ++ [i]))), fun x hx => ?_, ?_, fun o ho => ?_⟩
        · rcases List.mem_cons.1 hx with rfl | hx
          · exact hi
          · rcases List.mem_append.1 hx with hx | hx
            · exact h1 x hx
            · rcases List.mem_append.1 hx with hx | hx
              · exact g1 x hx
              · rcases List.mem_append.1 hx with hx | hx
                · exact h4 x hx
                · exact one x hx
        · simp only [List.length_append, List.length_cons, List.length_nil]; omega
        · have hX : LM n (actW n v4 (prodL n (hkL n i) o)) := act_lm h4 (top_list ho hi).1
          show _ = prodL n (hkL n i) (actW n (v1 ++ (f ++ (v4 ++ [i]))) o)
          rw [act_append, act_append, act_append, act_append]
          show prodL n (hkL n i) (actW n v1 (prodL n (hkL n j) (actW n (v3 ++ j :: v4) (prodL n (hkL n i) o)))) = prodL n (hkL n i) (actW n v1 (actW n f (actW n v4 (prodL n (hkL n i) o))))
          rw [act_append]
          show prodL n (hkL n i) (actW n v1 (prodL n (hkL n j) (actW n v3 (prodL n (hkL n j) (actW n v4 (prodL n (hkL n i) o)))))) = _
          rw [g3 _ hX]
      · have f2 : ∀ x, x ∈ v2 → Far i x := fun x hx => hf x (by simp [hx]) (fun e => c2 (by rw [← e]; exact hx))
        refine ⟨v1 ++ (i :: v2), fun x hx => ?_, ?_, fun o ho => ?_⟩
        · rcases List.mem_append.1 hx with hx | hx
          · exact h1 x hx
          · rcases List.mem_cons.1 hx with rfl | hx
            · exact hi
            · exact h2 x hx
        · simp only [List.length_append, List.length_cons]; omega
        · have hY := act_lm h2 ho
          rw [act_append, act_append]
          show prodL n (hkL n i) (actW n v1 (prodL n (hkL n j) (actW n v2 (prodL n (hkL n i) o)))) = actW n v1 (prodL n (hkL n i) (actW n v2 o))
          rw [← act_move hi h2 f2 ho]
          have hZ : LM n (prodL n (hkL n j) (prodL n (hkL n i) (actW n v2 o))) := (top_list (top_list hY hi).1 hjn).1
          rw [act_move hi h1 f1 hZ, top_braid hY hi hjn hj]
    · have f1 : ∀ x, x ∈ v → Far i x := fun x hx => hf x hx (fun e => c (by rw [← e]; exact hx))
      refine ⟨v ++ [i], fun x hx => ?_, by simp, fun o ho => ?_⟩
      · rcases List.mem_append.1 hx with hx | hx
        · exact hv x hx
        · exact one x hx
      · rw [act_append]
        have h := top_list ho hi
        rw [act_move hi hv f1 h.1, top_idem ho hi]
        rfl
/-- the numbers between two occurrences in a word of the least length -/
theorem jones {n : Nat} {u v x : List Nat} {i : Nat} (hw : okN n (u ++ (i :: (v ++ (i :: x))))) (hs : HS n (fn (actW n (u ++ (i :: (v ++ (i :: x)))) (idL n))) = 2 * ((u ++ (i :: (v ++ (i :: x)))).length : Int)) (hn : i ∉ v) :
    (∃ y, y ∈ v ∧ y + 1 = i) ∧ i + 1 ∈ v := by
  have hi := hw i (by simp)
  have h1 : okN n u := okN_sub hw (fun y hy => by simp [hy])
  have h2 : okN n v := okN_sub hw (fun y hy => by simp [hy])
  have h3 : okN n x := okN_sub hw (fun y hy => by simp [hy])
  refine Classical.byContradiction fun no => ?_
  have ne : ∀ y, y ∈ v → y ≠ i := fun y hy e => hn (by rw [← e]; exact hy)
  have ex : ∃ j, (i + 1 = j ∨ j + 1 = i) ∧ ∀ y, y ∈ v → y ≠ j → Far i y := by
    by_cases a : ∃ y, y ∈ v ∧ y + 1 = i
    · have b : i + 1 ∉ v := fun b => no ⟨a, b⟩
      obtain ⟨y0, _, e0⟩ := a
      refine ⟨i - 1, .inr (by omega), fun y hy q => ?_⟩
      have := ne y hy
      have : y ≠ i + 1 := fun e => b (by rw [← e]; exact hy)
      unfold Far; omega
    · refine ⟨i + 1, .inl rfl, fun y hy q => ?_⟩
      have := ne y hy
      have : y + 1 ≠ i := fun e => a ⟨y, hy, e⟩
      unfold Far; omega
  obtain ⟨j, hj, hf⟩ := ex
  obtain ⟨f, g1, g2, g3⟩ := shrink v.length i v (Nat.le_refl _) hi h2 hn j hj hf
  have hX := act_lm h3 (idL_lm n)
  have e : actW n (u ++ (i :: (v ++ (i :: x)))) (idL n) = actW n (u ++ (f ++ x)) (idL n) := by
    rw [act_append, act_append, act_append]
    congr 1
    show prodL n (hkL n i) (actW n (v ++ (i :: x)) (idL n)) = _
    rw [act_append]
    exact g3 _ hX
  have ok2 : okN n (u ++ (f ++ x)) := fun y hy => by
    rcases List.mem_append.1 hy with hy | hy
    · exact h1 y hy
    · rcases List.mem_append.1 hy with hy | hy
      · exact g1 y hy
      · exact h3 y hy
  have b := act_hs ok2 (idL_lm n)
  rw [← e, hs, hs_idL] at b
  simp only [List.length_append, List.length_cons] at b
  omega
/-! ### a word of the least length makes no loops -/
def lpW (n : Nat) : List Nat → Nat
  | [] => 0
  | i :: w => lops n (fn (hkL n i)) (fn (actW n w (idL n))) + lpW n w
theorem wd_lp {n : Nat} {d : List Int} {w : List Nat} (h : Wd n d w) : lpW n w = 0 := by
  induction h with
  | nil => rfl
  | cons hd hi hc hm hg he hw ih =>
    have g := good_got hg.1 hi he hg.2
    have t := (top_list hg.1.lm hi).2.2 g.ne
    simp only [lpW]
    rw [(wd_val hw).2.1, t, ih]
theorem hkW_step (n : Nat) (w : List Int) (d j : Nat) (l : List Int) (s : Int) : hkW n w (d + 1) j l s = hkW n w d (j + 1) (prodL n l (hkL n (rd w (j : Int)).toNat)) (wrap64 (s + (lops n (fn l) (fn (hkL n (rd w (j : Int)).toNat)) : Int))) := by rw [hkW]
theorem act_cons (n i : Nat) (w : List Nat) (o : List Int) : actW n (i :: w) o = prodL n (hkL n i) (actW n w o) := by rw [actW]
theorem lp_cons (n i : Nat) (w : List Nat) : lpW n (i :: w) = lops n (fn (hkL n i)) (fn (actW n w (idL n))) + lpW n w := by rw [lpW]
theorem two_zero {a b c e f : Nat} (h : a + (b + f) = 0) (as1 : c + e = a + b) : e = 0 ∧ c + f = 0 := by omega
theorem wrap_zero {x : Nat} (h : x = 0) : wrap64 (0 + (x : Int)) = 0 := by
  subst h
  exact pw64 (by omega) (by omega)
theorem hkW_zero {n : Nat} {v : List Nat} (hv : okN n v) (d : Nat) : ∀ (j : Nat) (l : List Int), j + d = v.length → LM n l → lops n (fn l) (fn (actW n (v.drop j) (idL n))) + lpW n (v.drop j) = 0 → (hkW n (ints v) d j l 0).2 = 0 := by
  induction d with
  | zero => intro j l _ _ _; rw [hkW]
  | succ d ih =>
    intro j l hj h hz
    have hj2 : j < v.length := by omega
    have hi := hv _ (List.getElem_mem hj2)
    obtain ⟨i, ei⟩ : ∃ i, v[j] = i := ⟨_, rfl⟩
    have er : (rd (ints v) (j : Int)).toNat = i := by rw [ints_rd hj2, Int.toNat_natCast, ei]
    rw [ei] at hi
    obtain ⟨u, eu⟩ : ∃ u, v.drop (j + 1) = u := ⟨_, rfl⟩
    have ha : LM n (actW n u (idL n)) := by rw [← eu]; exact act_lm (fun x hx => hv x (List.mem_of_mem_drop hx)) (idL_lm n)
    rw [List.drop_eq_getElem_cons hj2, ei, eu, act_cons, lp_cons] at hz
    have z := two_zero hz (prodL_assoc h (hkL_lm hi).1 ha).2
    rw [hkW_step, er, wrap_zero z.1]
    have z2 := z.2
    rw [← eu] at z2
    exact ih (j + 1) _ (by omega) (prodL_lm h (hkL_lm hi).1) z2
theorem hooks_wd {n : Nat} (h0 : 1 ≤ n) (hn : n ≤ 10) {d : List Int} {w : List Nat} (h : Wd n d w) (hl : w.length ≤ 200) : Ev (fun k => plait_Hooks.f k (n : Int) (ints w)) (d, 0, 0) := by
  obtain ⟨a, b, _⟩ := wd_val h
  obtain ⟨s, g, e⟩ := hooks_val h0 hn hl a
  have z : s = 0 := by
    rw [e]
    refine hkW_zero a w.length 0 (idL n) (by omega) (idL_lm n) ?_
    rw [List.drop_zero, wd_lp h]
    have := (prodL_id (act_lm a (idL_lm n))).2.2.2
    omega
  rw [z, b] at g
  exact g
end Go.Proofs.Ytjfkompfkgjdaaa.L
end
section
/- Plait: PlaitJones: Hooks of Word is the diagram, and what lies between two occurrences of a number in it. -/
namespace Go.Proofs.Ytjfkompfkgjdaaa.L
open Go.RowKit Go.Proofs.Ytjfkompfkgjdaaa.PC Go.Proofs.YtjfkompfkgjdaaaW.PrintWords Go.Proofs.YtjfkompfkgjdaaaW.PrintLast Go.Proofs.Ytjfkompfkgjdaaa.G
section
variable {n : Nat} {w : List Nat}
theorem jones_at (hw : okN n w) (hs : HS n (fn (actW n w (idL n))) = 2 * (w.length : Int)) {a b : Nat} (hab : a < b) (hb : b < w.length) (he : w[b] = w[a]'(by omega)) (hno : ∀ t, a < t → (ht : t < b) → w[t]'(by omega) ≠ w[a]'(by omega)) :
    (∃ t, ∃ ht : t < w.length, a < t ∧ t < b ∧ w[t] + 1 = w[a]'(by omega)) ∧ (∃ t, ∃ ht : t < w.length, a < t ∧ t < b ∧ w[t] = w[a]'(by omega) + 1) := by
  have ha : a < w.length := by omega
  have e1 : w = w.take a ++ (w[a] :: w.drop (a + 1)) := by
    rw [← List.drop_eq_getElem_cons ha, List.take_append_drop]
  have hv : ∀ t, t < b - a - 1 → ∃ ht : a + 1 + t < w.length, ((w.drop (a + 1)).take (b - a - 1))[t]? = some (w[a + 1 + t]'ht) := fun t ht => by
    refine ⟨by omega, ?_⟩
    rw [List.getElem?_take, if_pos ht, List.getElem?_drop, List.getElem?_eq_getElem (by omega)]
  have e2 : w.drop (a + 1) = (w.drop (a + 1)).take (b - a - 1) ++ (w[a] :: w.drop (b + 1)) := by
    have h1 := List.take_append_drop (b - a - 1) (w.drop (a + 1))
    have h2 : (w.drop (a + 1)).drop (b - a - 1) = w[a] :: w.drop (b + 1) := by
      rw [List.drop_drop, show a + 1 + (b - a - 1) = b by omega, List.drop_eq_getElem_cons hb, he]
    rw [h2] at h1
    exact h1.symm
  have e3 : w = w.take a ++ (w[a] :: ((w.drop (a + 1)).take (b - a - 1) ++ (w[a] :: w.drop (b + 1)))) := by rw [← e2]; exact e1
  have mem : ∀ y, y ∈ (w.drop (a + 1)).take (b - a - 1) → ∃ t, ∃ ht : t < w.length, a < t ∧ t < b ∧ w[t] = y := fun y hy => by
    obtain ⟨t, ht, e⟩ := List.getElem_of_mem hy
    have hl : t < b - a - 1 := by rw [List.length_take] at ht; omega
    obtain ⟨q1, q2⟩ := hv t hl
    rw [List.getElem?_eq_getElem ht] at q2
    exact ⟨a + 1 + t, q1, by omega, by omega, by rw [← e]; exact (Option.some.inj q2).symm⟩
  have jj := jones (n := n) (u := w.take a) (v := (w.drop (a + 1)).take (b - a - 1)) (x := w.drop (b + 1)) (i := w[a]) (by rw [← e3]; exact hw) (by rw [← e3]; exact hs) (fun hm => by
    obtain ⟨t, ht, t1, t2, t3⟩ := mem _ hm
    exact hno t t1 t2 t3)
  obtain ⟨⟨y, hy, ey⟩, hz⟩ := jj
  obtain ⟨t, ht, t1, t2, t3⟩ := mem y hy
  obtain ⟨s, hs', s1, s2, s3⟩ := mem _ hz
  exact ⟨⟨t, ht, t1, t2, by rw [t3]; exact ey⟩, ⟨s, hs', s1, s2, s3⟩⟩
theorem jones_l1 (hl : w.length ≤ 200) (hn : n ≤ 10) (hw : okN n w) (hs : HS n (fn (actW n w (idL n))) = 2 * (w.length : Int)) {a : Nat} (ha : a < w.length) (nx : Ev (fun k => pomadelaw07_PlaitJones.l0 k (ints w) ((a + 1 : Nat) : Int)) true) (c : Nat) :
    ∀ k, k + c = w.length → a < k → (∀ t, a < t → t < k → (ht : t < w.length) → w[t] ≠ w[a]) → ∀ bl bm : Bool, (bl = true ↔ ∃ t, ∃ ht : t < w.length, a < t ∧ t < k ∧ w[t] + 1 = w[a]) → (bm = true ↔ ∃ t, ∃ ht : t < w.length, a < t ∧ t < k ∧ w[t] = w[a] + 1) →
    Ev (fun q => pomadelaw07_PlaitJones.l1 q (ints w) (a : Int) bl bm (k : Int)) true := by
  have lw := ints_len w
  induction c with
  | zero =>
    intro k hk hak hno bl bm h1 h2
    refine Ev.step (fun q => ?_) nx
    simp only [pomadelaw07_PlaitJones.l1]
    rw [if_neg (by omega), pw64 (by omega) (by omega)]
    rfl
  | succ c ih =>
    intro k hk hak hno bl bm h1 h2
    have k1 : k < w.length := by omega
    have va := hw _ (List.getElem_mem ha)
    have vk := hw _ (List.getElem_mem k1)
    have ea := ints_rd ha
    have ek := ints_rd k1
    by_cases q : w[k] = w[a]
    · obtain ⟨j1, j2⟩ := jones_at hw hs hak k1 q (fun t t1 t2 => hno t t1 t2 (by omega))
      have b1 := h1.2 j1
      have b2 := h2.2 j2
      subst b1 b2
      refine Ev.step (fun p => ?_) nx
      simp only [pomadelaw07_PlaitJones.l1]
      rw [if_pos (by omega), if_pos (by omega), if_pos (by omega), if_pos (by omega), if_pos (by rw [ea, ek]; omega), if_pos trivial, if_pos trivial, pw64 (by omega) (by omega)]
      rfl
    · have kq : ¬ rd (ints w) (k : Int) = rd (ints w) (a : Int) := by rw [ea, ek]; omega
      have up : ∀ (P : Nat → Prop), (∃ t, ∃ ht : t < w.length, a < t ∧ t < k + 1 ∧ P w[t]) ↔ (∃ t, ∃ ht : t < w.length, a < t ∧ t < k ∧ P w[t]) ∨ P w[k] := fun P => by
        constructor
        · rintro ⟨t, ht, t1, t2, t3⟩
          by_cases z : t = k
          · subst z; exact .inr t3
          · exact .inl ⟨t, ht, t1, by omega, t3⟩
        · rintro (⟨t, ht, t1, t2, t3⟩ | h)
          · exact ⟨t, ht, t1, by omega, t3⟩
          · exact ⟨k, k1, hak, by omega, h⟩
      have e1 : wrap64 (rd (ints w) (a : Int) - 1) = ((w[a] : Nat) : Int) - 1 := by rw [ea]; exact pw64 (by omega) (by omega)
      have e2 : wrap64 (rd (ints w) (a : Int) + 1) = ((w[a] : Nat) : Int) + 1 := by rw [ea]; exact pw64 (by omega) (by omega)
      have c1 : (rd (ints w) (k : Int) == wrap64 (rd (ints w) (a : Int) - 1)) = true ↔ w[k] + 1 = w[a] := by rw [e1, ek, beq_iff_eq]; omega
      have c2 : (rd (ints w) (k : Int) == wrap64 (rd (ints w) (a : Int) + 1)) = true ↔ w[k] = w[a] + 1 := by rw [e2, ek, beq_iff_eq]; omega
      have go := ih (k + 1) (by omega) (by omega) (fun t t1 t2 ht => by
        by_cases z : t = k
        · subst z; exact q
        · exact hno t t1 (by omega) ht)
      have n1 := up (fun y => y + 1 = w[a])
      have n2 := up (fun y => y = w[a] + 1)
      cases bl with
      | true =>
        have l1 := h1.1 rfl
        cases bm with
        | true =>
          have l2 := h2.1 rfl
          refine Ev.step (fun p => ?_) (go true true ⟨fun _ => n1.2 (.inl l1), fun _ => rfl⟩ ⟨fun _ => n2.2 (.inl l2), fun _ => rfl⟩)
          simp only [pomadelaw07_PlaitJones.l1]
          rw [if_pos (by omega), if_pos (by omega), if_pos (by omega), if_pos (by omega), if_neg kq, if_pos trivial, if_pos trivial, pw64 (x := (k : Int) + 1) (by omega) (by omega)]
          rfl
        | false =>
          have l2 : ¬ _ := fun h => Bool.noConfusion (h2.2 h)
          refine Ev.step (fun p => ?_) (go true _ ⟨fun _ => n1.2 (.inl l1), fun _ => rfl⟩ ⟨fun h => n2.2 (.inr (c2.1 h)), fun h => c2.2 ((n2.1 h).resolve_left l2)⟩)
          simp only [pomadelaw07_PlaitJones.l1]
          rw [if_pos (by omega), if_pos (by omega), if_pos (by omega), if_pos (by omega), if_neg kq, if_pos trivial, if_neg (by decide), pw64 (x := (k : Int) + 1) (by omega) (by omega)]
          rfl
      | false =>
        have l1 : ¬ _ := fun h => Bool.noConfusion (h1.2 h)
        cases bm with
        | true =>
          have l2 := h2.1 rfl
          refine Ev.step (fun p => ?_) (go _ true ⟨fun h => n1.2 (.inr (c1.1 h)), fun h => c1.2 ((n1.1 h).resolve_left l1)⟩ ⟨fun _ => n2.2 (.inl l2), fun _ => rfl⟩)
          simp only [pomadelaw07_PlaitJones.l1]
          rw [if_pos (by omega), if_pos (by omega), if_pos (by omega), if_pos (by omega), if_neg kq, if_neg (by decide), if_pos trivial, pw64 (x := (k : Int) + 1) (by omega) (by omega)]
          rfl
        | false =>
          have l2 : ¬ _ := fun h => Bool.noConfusion (h2.2 h)
          refine Ev.step (fun p => ?_) (go _ _ ⟨fun h => n1.2 (.inr (c1.1 h)), fun h => c1.2 ((n1.1 h).resolve_left l1)⟩ ⟨fun h => n2.2 (.inr (c2.1 h)), fun h => c2.2 ((n2.1 h).resolve_left l2)⟩)
          simp only [pomadelaw07_PlaitJones.l1]
          rw [if_pos (by omega), if_pos (by omega), if_pos (by omega), if_pos (by omega), if_neg kq, if_neg (by decide), if_neg (by decide), pw64 (x := (k : Int) + 1) (by omega) (by omega)]
          rfl
theorem jones_l0 (hl : w.length ≤ 200) (hn : n ≤ 10) (hw : okN n w) (hs : HS n (fn (actW n w (idL n))) = 2 * (w.length : Int)) (c : Nat) : ∀ a, a + c = w.length → Ev (fun q => pomadelaw07_PlaitJones.l0 q (ints w) (a : Int)) true := by
  have lw := ints_len w
  induction c with
  | zero =>
    intro a ha
    refine Ev.step (f := fun _ => some true) (fun q => ?_) (Ev.now _)
    simp only [pomadelaw07_PlaitJones.l0]
    rw [if_neg (by omega)]; rfl
  | succ c ih =>
    intro a ha
    have h := jones_l1 hl hn hw hs (a := a) (by omega) (ih (a + 1) (by omega)) (w.length - (a + 1)) (a + 1) (by omega) (by omega) (fun t t1 t2 _ => by omega) false false ⟨fun h => Bool.noConfusion h, fun ⟨t, _, t1, t2, _⟩ => by omega⟩ ⟨fun h => Bool.noConfusion h, fun ⟨t, _, t1, t2, _⟩ => by omega⟩
    refine Ev.step (fun q => ?_) h
    simp only [pomadelaw07_PlaitJones.l0]
    rw [if_pos (by omega), pw64 (by omega) (by omega)]
    rfl
end
theorem PlaitJones_pure : pomadelaw07_PlaitJones.Pure := by
  intro l _ _ _
  refine Ev.rounds (g := fun k => pomadelaw07_PlaitJones.f k l) ?_
  have alive : ∀ x, x = true → Ev (fun k => pomadelaw07_PlaitJones.j0 k l x) true := fun x hx =>
    Ev.step (f := fun _ => some true) (fun k => by simp only [pomadelaw07_PlaitJones.j0]; rw [if_pos hx]; rfl) (Ev.now _)
  by_cases c : (l.length : Int) > 16
  · exact Ev.congr (fun k => by unfold pomadelaw07_PlaitJones.f; rw [if_pos c]) (alive true rfl)
  · obtain ⟨e, _, d2, _⟩ := dia_both l
    refine Ev.congr (f := fun k => (pomaderef07_Diagram.f k l).bind fun t754 => (pomadelaw07_PlaitJones.j0 k l (t754 != 0))) (fun k => by unfold pomadelaw07_PlaitJones.f; rw [if_neg c]) (Ev.bind d2 ?_)
    by_cases z : e = 0
    · subst z
      obtain ⟨n, hd⟩ := dia_of d2
      have hll := hd.lm.len
      have hn := hd.lim
      have h0 := hd.pos
      have ew : wrap64 ((l.length : Int) / 2) = (n : Int) := by rw [pw64 (by omega) (by omega)]; omega
      obtain ⟨w, w1, w2, w3⟩ := wordP_val hd
      obtain ⟨ok, ev, hs⟩ := wd_val w1
      have last := jones_l0 (n := n) (w := w) w2 hn ok (by rw [ev]; exact hs) w.length 0 (by omega)
      refine Ev.congr (f := fun k => pomadelaw07_PlaitJones.j0 k l false) (fun k => by rfl) ?_
      refine Ev.step (f := fun k => (plait_Word.f k l).bind fun bt756 => ((plait_Hooks.f k (wrap64 ((l.length : Int) / 2)) bt756.1).bind fun bt760 => (if bt756.2 = 0 then (if bt760.2.2 = 0 then (if bt760.2.1 = 0 then ((pomadelaw07_same.f k bt760.1 l).bind fun t765 => (pomadelaw07_PlaitJones.j1 k bt756.1 (!t765))) else (pomadelaw07_PlaitJones.j1 k bt756.1 true)) else (pomadelaw07_PlaitJones.j1 k bt756.1 true)) else (pomadelaw07_PlaitJones.j1 k bt756.1 true)))) (fun k => by simp only [pomadelaw07_PlaitJones.j0]; rw [if_neg (by decide)]) ?_
      refine Ev.bind w3 ?_
      refine Ev.congr (fun k => by rw [ew]) ?_
      refine Ev.bind (hooks_wd (by omega) hn w1 w2) ?_
      refine Ev.congr (fun k => by rw [if_pos rfl, if_pos rfl, if_pos rfl]) ?_
      refine Ev.bind (same_ev (show l.length ≤ 1000000 by omega)) ?_
      refine Ev.step (fun k => ?_) last
      simp only [pomadelaw07_PlaitJones.j1]
      rw [if_neg (by decide)]
      rfl
    · exact alive _ (bne_iff_ne.2 z)
end Go.Proofs.Ytjfkompfkgjdaaa.L
namespace Go.Proofs.Ytjfkompfkgjdaaa.Pure
theorem PlaitJones : Go.Proofs.Ytjfkompfkgjdaaa.PC.pomadelaw07_PlaitJones.Pure := Go.Proofs.Ytjfkompfkgjdaaa.L.PlaitJones_pure
end Go.Proofs.Ytjfkompfkgjdaaa.Pure
end
section
namespace Go.Proofs.Ytjfkompfkgjdaaa.plaitJones
open Go.ChangeShapes Go.WideShapes Go.ChangeAt Go.RowKit
open Go.ChangeMaps (open_string shut_string)
set_option linter.unusedVariables false
theorem own : ownKnob Try.prog.godebug = none := by kernel_rfl
theorem laidOut : laidOutB Try.prog = true := by kernel_rfl
def IsRow (k : IntKind) (w : World) (a : Option Addr) (len cap : Nat) (zs : List Int) : Prop :=
  (a = none ∧ len = 0 ∧ cap = 0 ∧ zs = []) ∨
  ∃ x, a = some x ∧ len ≤ cap ∧ cap ≤ maxLen ∧ zs.length = cap ∧ (∀ i, i < zs.length → w.cell? (x.add i) = some (.int k (zs.getD i 0))) ∧ ∀ n ∈ zs, (Lit.int k n).wf = true
set_option maxRecDepth 100000 in
theorem lifted (os : Os) (started : os.Started) (H : Type) (enc : TypeId × Value → H) :
    ReturnsInHanded {} Try.checked os 16 .any (Rows.plaitJonesSpec.pre6 enc Try.prog Try.f16 Rows.plaitJonesRow.domain false) (Rows.plaitJonesSpec.post enc Try.prog Try.f16 false true false false) := by
  refine returnsInHanded_of_change_sized (C := Try.checked) own started (by kernel_rfl) Try.func16
    (ChangeSpec.witness6 (enc := enc) (C := Try.checked) false ⟨#[], #[.slice none 0 0], []⟩ 8 (by kernel_rfl) (by kernel_rfl) (by kernel_rfl) (by kernel_rfl)) ?_
  intro W base args ds gs before hval0 hW hcnd hsz0 _
  have hsz : (DataW.weightsEach Try.prog (Try.f16.params.toList ++ Rows.plaitJonesSpec.plain.varTypes Try.prog) (ds ++ gs)).all (· ≤ reachBytes) = true := hsz0
  have hval : ∀ (j : Nat) t v, Try.f16.params[j]? = some t → args[j]? = some v → Value.okWide Try.prog W .any base t v := hval0
  have hW' := hW
  obtain ⟨p, q, hA0, hV, rfl, hfz, hnd⟩ := hW
  have hA : DataW.TrodAll enc Try.prog W 0 (fun _ => true) true Try.f16.params.toList args.toList ds p := hA0
  rw [Try.params16] at hA hval hsz
  obtain ⟨v0, vs0, d0, ds0, p0, q0, hargs, rfl, rfl, h0, r0⟩ := trodAll_cons hA
  obtain ⟨rfl, rfl, rfl⟩ := trodAll_nil r0
  obtain rfl : args = #[v0] := by cases args; simp_all
  obtain ⟨rfl, rfl⟩ := trodVars_none hV
  obtain ⟨a0, len0, cap0, rfl⟩ := okWide_slice Try.underlying22 (hval 0 22 v0 rfl rfl)
  have k0 := h0
  have lt0 : ∀ x ∈ p0, x.block < W.heap.size := by obtain ⟨m, hm⟩ := k0; exact DataW.trod_lt m _ _ _ hm
  obtain ⟨z0, w0⟩ : ∃ zs, IsRow .i64 W a0 len0 cap0 zs := by
    obtain ⟨fuel, hf⟩ := h0
    rcases open_ints Try.underlying22 Try.underlying3 (by kernel_rfl) hf with ⟨hcs, _⟩ | ⟨x, l, c, zs, hcs, _, hl, hm, hz, _, hcell, hwz⟩
    · simp [Value.cells] at hcs
      obtain ⟨rfl, rfl, rfl⟩ := hcs
      exact ⟨[], .inl ⟨rfl, rfl, rfl, rfl⟩⟩
    · simp [Value.cells] at hcs
      obtain ⟨rfl, rfl, rfl⟩ := hcs
      exact ⟨zs, .inr ⟨_, rfl, hl, hm, by simpa using hz, hcell, hwz⟩⟩
  have y0 : len0 * 8 ≤ 140737488351232 := Go.Proofs.YtjfkompfkgjdaaaW.PrintWords.sized_ints hsz (j := 0) (t := 22) rfl rfl Try.underlying22 Try.underlying3 (by kernel_rfl) (by kernel_rfl) h0
  clear hA0 hval0 hsz0 hsz
  refine (PC.pomadelaw07_PlaitJones.walk Pure.PlaitJones a0 len0 cap0 z0 W w0 y0).mono fun e W' ⟨he, bel⟩ => ?_
  subst he
  exact ⟨_, rfl, _, _, _, [], _, [], hW', trodAll_mk1 (shut_bool Try.underlying4 _), (trodAll_cons_mk (Below.trod laidOut (by kernel_rfl) (of_decide_eq_true (by kernel_rfl)) k0 bel lt0) trodAll_mk0), rfl, bel.frame _, fun h => by cases h⟩
theorem over : Rows.plaitJonesRow.holds Try.pinned (OpenSpec.ofChange Rows.plaitJonesSpec) :=
  OpenClaim.holds_of_wide 16 Try.f16 rfl rfl rfl rfl rfl rfl rfl ⟨rfl, rfl, rfl, rfl, rfl⟩ rfl rfl rfl rfl rfl (by kernel_rfl) Try.func16 (by kernel_rfl)
    (of_decide_eq_true (by kernel_rfl)) (by unfold Func.isWrapper; first | (rw [if_pos (by decide +kernel)]; kernel_rfl) | (rw [if_neg (by decide +kernel)]; exact ⟨rfl, rfl⟩))
    (fun os started H enc _ => lifted os started H enc)
theorem proved : Rows.PlaitJonesSaid := over
#print axioms proved
end Go.Proofs.Ytjfkompfkgjdaaa.plaitJones
namespace Go.Proofs.Ytjfkompfkgjdaaa
/-- The row, under a short name, for the claim. -/
theorem plaitJones_holds : Rows.PlaitJonesSaid := plaitJones.proved
end Go.Proofs.Ytjfkompfkgjdaaa
end
