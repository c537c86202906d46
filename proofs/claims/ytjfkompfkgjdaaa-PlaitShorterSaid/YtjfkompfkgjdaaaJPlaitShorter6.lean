/- Parts of the proof of LawPlaitShorter, one behind the other: LWord LLex PurePlaitShorter LawPlaitShorter. -/
import Derived.Test.YtjfkompfkgjdaaaRows
import Derived.WalkKit
import Derived.ProofKit
import Derived.OpenShut
import Derived.ShutString
import Derived.ChangeOld
import Derived.Below
import Derived.SizedLaws
import Derived.Test.YtjfkompfkgjdaaaJPlaitShorter5
section
/- The first shortest word, as the program finds it. -/
namespace Go.Proofs.Ytjfkompfkgjdaaa.L
open Go.RowKit Go.Proofs.Ytjfkompfkgjdaaa.PC Go.Proofs.YtjfkompfkgjdaaaW.PrintWords Go.Proofs.YtjfkompfkgjdaaaW.PrintLast Go.Proofs.Ytjfkompfkgjdaaa.G
theorem rt_xc {n i z : Nat} (hi : i + 1 < n) (hz : z < 2 * n) : Rt n i z ↔ i + 1 ≤ xc n z := by
  unfold Rt G.bo xc
  by_cases c : z < n
  · rw [if_pos c, if_pos c]; omega
  · rw [if_neg c, if_neg c]; omega
theorem hs_cup {n i : Nat} {o : Nat → Nat} (ho : Mat n o) (hi : i + 1 < n) (h : o i = i + 1) : HS n (tl i o) = HS n o := by
  refine hs_congr (fun z hz => ?_)
  have oi := ho i (by omega)
  rw [h] at oi
  have oz := ho z hz
  unfold tl
  by_cases c1 : z = i
  · rw [if_pos c1, c1, h]
  · by_cases c2 : z = i + 1
    · rw [if_neg c1, if_pos c2, c2, oi.2.2]
    · rw [if_neg c1, if_neg c2, if_neg (fun f => c2 (by have := oz.2.2; rw [f, h] at this; exact this.symm)), if_neg (fun f => c1 (by have := oz.2.2; rw [f, oi.2.2] at this; exact this.symm))]
theorem top_hs {n i : Nat} {c d : List Int} (hc : LM n c) (hi : i + 1 < n) (e : prodL n (hkL n i) c = d) : HS n (fn d) = HS n (tl i (fn c)) := by
  subst e
  exact hs_congr (fun z hz => (top_list hc hi).2.1 z hz)
/-- a hook more makes the height greater by at most one -/
theorem hs_le {n i : Nat} {c d : List Int} (hc : LM n c) (hi : i + 1 < n) (e : prodL n (hkL n i) c = d) : HS n (fn d) ≤ HS n (fn c) + 2 := by
  rw [top_hs hc hi e]
  by_cases h : fn c i = i + 1
  · rw [hs_cup hc.mat hi h]; omega
  · obtain ⟨k, s1, s2, _⟩ := hs_step hc.mat hi h; omega
structure Got (n i : Nat) (d c : List Int) : Prop where
  ne : fn c i ≠ i + 1
  lft : ¬ Rt n i (fn c i)
  rgt : Rt n i (fn c (i + 1))
  nj : G.bo n (fn c (i + 1)) ≠ i + 1
  pair : fn d (fn c i) = fn c (i + 1)
  plt : fn c i < 2 * n
  pi : fn c i ≠ i
  cup : fn d i = i + 1
  mn : ∀ z, z < 2 * n → i + 1 < G.bo n z → G.bo n z < G.bo n (fn c (i + 1)) → Rt n i (fn d z)
  eq : ∀ z, z < 2 * n → pull (fn d) i (fn c i) (fn c (i + 1)) z = fn c z
theorem good_got {n i : Nat} {c d : List Int} (hc : Dia n c) (hi : i + 1 < n) (e : prodL n (hkL n i) c = d) (s : HS n (fn d) = HS n (fn c) + 2) : Got n i d c := by
  have th := top_hs hc.lm hi e
  have ne : fn c i ≠ i + 1 := fun h => by rw [hs_cup hc.lm.mat hi h] at th; omega
  obtain ⟨k, s1, s2, s3⟩ := hs_step hc.lm.mat hi ne
  have k1 : k = 1 := by omega
  obtain ⟨x1, x2⟩ := s3.1 k1
  have oi := hc.lm.mat i (by omega)
  have oj := hc.lm.mat (i + 1) (by omega)
  have td : ∀ z, z < 2 * n → fn d z = tl i (fn c) z := fun z hz => by rw [← e]; exact (top_list hc.lm hi).2.1 z hz
  have lft : ¬ Rt n i (fn c i) := fun r => by have := (rt_xc hi oi.1).1 r; omega
  have rgt : Rt n i (fn c (i + 1)) := (rt_xc hi oj.1).2 x2
  have hji : fn c (i + 1) ≠ i := fun f => by rw [f] at oj; omega
  refine ⟨ne, lft, rgt, fun f => ?_, ?_, oi.1, oi.2.1, ?_, ?_, fun z hz => ?_⟩
  · exact oj.2.1 (bo_inj2 oj.1 (by omega) (by rw [f]; exact (bo_val (by omega)).symm))
  · rw [td _ oi.1]; unfold tl; rw [if_neg oi.2.1, if_neg ne, if_pos oi.2.2]
  · rw [td i (by omega)]; exact if_pos rfl
  · intro z hz z1 z2
    rw [td z hz]
    exact open_min hc.lm.mat (nc_iff.1 hc.nc) hi rfl rfl lft rgt z hz z1 z2
  · have := opn_tl hc.lm.mat hi ne hz
    rw [← this]
    unfold pull
    rw [td z hz]
theorem good_uniq {n i : Nat} {c c' d : List Int} (hd : Dia n d) (hi : i + 1 < n) (hc : Dia n c) (e : prodL n (hkL n i) c = d) (s : HS n (fn d) = HS n (fn c) + 2) (hc' : Dia n c') (e' : prodL n (hkL n i) c' = d) (s' : HS n (fn d) = HS n (fn c') + 2) : c = c' := by
  have g := good_got hc hi e s
  have g' := good_got hc' hi e' s'
  obtain ⟨q1, q2⟩ := open_uniq hd.lm.mat g.plt g.pair g.lft g.rgt g.nj g.mn g'.plt g'.pair g'.lft g'.rgt g'.nj g'.mn
  refine lm_eq hc.lm hc'.lm (fun z hz => ?_)
  rw [← g.eq z hz, ← g'.eq z hz, q1, q2]
theorem good_ex {n i : Nat} {d : List Int} (hd : Dia n d) (hi : i + 1 < n) (hcup : fn d i = i + 1) : ∃ p q, p < 2 * n ∧ fn d p = q ∧ p ≠ i ∧ p ≠ i + 1 ∧ Good n d (plait_open d (p : Int) (q : Int) (i : Int) ((i : Int) + 1)) ∧ prodL n (hkL n i) (plait_open d (p : Int) (q : Int) (i : Int) ((i : Int) + 1)) = d := by
  obtain ⟨p, q, a1, a2, a3, a4, a5, a6, a7, a8⟩ := open_ex hd.lm.mat hi hcup
  obtain ⟨⟨hl, hf⟩, _⟩ := open_one hd.lm hi hcup a1 a2 a3 a4
  have hn := opn_nc hd.lm.mat (nc_iff.1 hd.nc) hi hcup a1 a2 a3 a5 a6 a8
  have hD : Dia n (plait_open d (p : Int) (q : Int) (i : Int) ((i : Int) + 1)) := ⟨hd.pos, hd.lim, hl, nc_iff.2 (ncf_congr hf hn)⟩
  have dp := hd.lm.mat p a1
  rw [a2] at dp
  have ep : prodL n (hkL n i) (plait_open d (p : Int) (q : Int) (i : Int) ((i : Int) + 1)) = d := by
    obtain ⟨t1, t2, _⟩ := top_list hl hi
    refine lm_eq t1 hd.lm (fun z hz => ?_)
    have t := tl_opn hd.lm.mat hi hcup a1 a3 a4 a2 hz
    rw [t2 z hz]
    unfold tl at t ⊢
    rw [hf i (by omega), hf (i + 1) (by omega), hf z hz]
    exact t
  have ci : fn (plait_open d (p : Int) (q : Int) (i : Int) ((i : Int) + 1)) i = p := by rw [hf i (by omega)]; exact if_pos rfl
  have cj : fn (plait_open d (p : Int) (q : Int) (i : Int) ((i : Int) + 1)) (i + 1) = q := by rw [hf (i + 1) (by omega)]; unfold pull; rw [if_neg (by omega), if_pos rfl]
  have th := top_hs hl hi ep
  obtain ⟨k, s1, s2, s3⟩ := hs_step hl.mat hi (by rw [ci]; exact a4)
  rw [ci, cj] at s3
  have x1 : xc n p ≤ i := by
    refine Classical.byContradiction fun c => a5 ((rt_xc hi a1).2 (by omega))
  have x2 := (rt_xc hi dp.1).1 a6
  have k1 := s3.2 ⟨x1, x2⟩
  exact ⟨p, q, a1, a2, a3, a4, ⟨hD, by omega⟩, ep⟩
/-! ### the search -/
theorem cand_top {n i p q : Nat} {d c : List Int} (hd : LM n d) (hi : i + 1 < n) (hc : fn d i = i + 1) (hp : p < 2 * n) (hpq : fn d p = q) (h1 : p ≠ i) (h2 : p ≠ i + 1)
    (hl : LM n c) (hf : ∀ z, z < 2 * n → fn c z = pull (fn d) i p q z) : prodL n (hkL n i) c = d := by
  obtain ⟨t1, t2, _⟩ := top_list hl hi
  refine lm_eq t1 hd (fun z hz => ?_)
  have t := tl_opn hd.mat hi hc hp h1 h2 hpq hz
  rw [t2 z hz]
  unfold tl at t ⊢
  rw [hf i (by omega), hf (i + 1) (by omega), hf z hz]
  exact t
theorem ends_val {n i p : Nat} {d cs : List Int} (hd : Dia n d) (hi : i + 1 < n) (hcup : fn d i = i + 1) (gs : Good n d cs) (es : prodL n (hkL n i) cs = d) (hp : p < 2 * n) (h1 : p ≠ i) (h2 : p ≠ i + 1) :
    ∃ r, Ev (fun k => plait_ends k d n (i : Int) (wrap64 (HS n (fn d) / 2 - 1)) (p : Int) (fn d p : Int) 0) r ∧ (r = none ∨ r = some cs) ∧ (Good n d (plait_open d (p : Int) (fn d p : Int) (i : Int) ((i : Int) + 1)) → r = some cs) := by
  have dp := hd.lm.mat p hp
  have di := hd.lm.mat i (by omega)
  rw [hcup] at di
  have q1 : fn d p ≠ i := fun e => by have := dp.2.2; rw [e, hcup] at this; omega
  have q2 : fn d p ≠ i + 1 := fun e => by have := dp.2.2; rw [e, di.2.2] at this; omega
  obtain ⟨⟨l1, f1⟩, ⟨l2, f2⟩⟩ := open_one hd.lm hi hcup hp rfl h1 h2
  have t1 := try_val hd.pos hd.lim hd.lm hi hcup hp rfl h1 h2 l1 f1
  have t2 := try_val hd.pos hd.lim hd.lm hi hcup dp.1 dp.2.2 q1 q2 l2 f2
  have u1 : ∀ c, Good n d c → prodL n (hkL n i) c = d → c = cs := fun c g e => good_uniq hd hi g.1 e g.2 gs.1 es gs.2
  by_cases g1 : Good n d (plait_open d (p : Int) (fn d p : Int) (i : Int) ((i : Int) + 1))
  · rw [if_pos g1, show some (plait_open d (p : Int) (fn d p : Int) (i : Int) ((i : Int) + 1)) = some cs from congrArg some (u1 _ g1 (cand_top hd.lm hi hcup hp rfl h1 h2 l1 f1))] at t1
    refine ⟨some cs, ?_, .inr rfl, fun _ => rfl⟩
    refine Ev.congr (f := fun k => (plait_try k d n (i : Int) (wrap64 (HS n (fn d) / 2 - 1)) (plait_open d (p : Int) (fn d p : Int) (i : Int) ((i : Int) + 1))).bind fun r => if r.isSome = true then some r else ((plait_try k d n (i : Int) (wrap64 (HS n (fn d) / 2 - 1)) (plait_open d (p : Int) (fn d p : Int) ((i : Int) + 1) (i : Int))).bind fun s => some s)) (fun k => by simp only [plait_ends]) (Ev.bind t1 ?_)
    exact Ev.congr (fun k => by rw [if_pos (show (some cs).isSome = true from rfl)]) (Ev.now _)
  · rw [if_neg g1] at t1
    by_cases g2 : Good n d (plait_open d (p : Int) (fn d p : Int) ((i : Int) + 1) (i : Int))
    · rw [if_pos g2, show some (plait_open d (p : Int) (fn d p : Int) ((i : Int) + 1) (i : Int)) = some cs from congrArg some (u1 _ g2 (cand_top hd.lm hi hcup dp.1 dp.2.2 q1 q2 l2 f2))] at t2
      refine ⟨some cs, ?_, .inr rfl, fun _ => rfl⟩
      refine Ev.congr (f := fun k => (plait_try k d n (i : Int) (wrap64 (HS n (fn d) / 2 - 1)) (plait_open d (p : Int) (fn d p : Int) (i : Int) ((i : Int) + 1))).bind fun r => if r.isSome = true then some r else ((plait_try k d n (i : Int) (wrap64 (HS n (fn d) / 2 - 1)) (plait_open d (p : Int) (fn d p : Int) ((i : Int) + 1) (i : Int))).bind fun s => some s)) (fun k => by simp only [plait_ends]) (Ev.bind t1 ?_)
      refine Ev.congr (fun k => by rw [if_neg (show ¬ (none : Option (List Int)).isSome = true by decide)]) ?_
      exact Ev.bind t2 (Ev.now _)
    · rw [if_neg g2] at t2
      refine ⟨none, ?_, .inl rfl, fun g => absurd g g1⟩
      refine Ev.congr (f := fun k => (plait_try k d n (i : Int) (wrap64 (HS n (fn d) / 2 - 1)) (plait_open d (p : Int) (fn d p : Int) (i : Int) ((i : Int) + 1))).bind fun r => if r.isSome = true then some r else ((plait_try k d n (i : Int) (wrap64 (HS n (fn d) / 2 - 1)) (plait_open d (p : Int) (fn d p : Int) ((i : Int) + 1) (i : Int))).bind fun s => some s)) (fun k => by simp only [plait_ends]) (Ev.bind t1 ?_)
      refine Ev.congr (fun k => by rw [if_neg (show ¬ (none : Option (List Int)).isSome = true by decide)]) ?_
      exact Ev.bind t2 (Ev.now _)
theorem search_val {n i ps : Nat} {d cs : List Int} (hd : Dia n d) (hi : i + 1 < n) (hcup : fn d i = i + 1) (gs : Good n d cs) (es : prodL n (hkL n i) cs = d) (hps : ps < 2 * n) (s1 : ps ≠ i) (s2 : ps ≠ i + 1) (hc : cs = plait_open d (ps : Int) (fn d ps : Int) (i : Int) ((i : Int) + 1)) (m : Nat) : ∀ p, p + m = 2 * n → p ≤ ps →
    Ev (fun k => plait_search k d n (i : Int) (wrap64 (HS n (fn d) / 2 - 1)) m p) cs := by
  have hl := hd.lm.len
  have di := hd.lm.mat i (by omega)
  rw [hcup] at di
  induction m with
  | zero => intro p h1 h2; omega
  | succ m ih =>
    intro p h1 h2
    have hp2 : p < 2 * n := by omega
    have e := hd.lm.nn p hp2
    have dp := hd.lm.mat p hp2
    by_cases c : (p : Int) = i ∨ (p : Int) = (i : Int) + 1 ∨ rd d (p : Int) = i ∨ rd d (p : Int) = (i : Int) + 1
    · have ne : p ≠ ps := fun f => by
        rw [e] at c
        rcases c with c | c | c | c
        · omega
        · omega
        · have c : fn d p = i := by omega
          have := dp.2.2; rw [c, hcup] at this; omega
        · have c : fn d p = i + 1 := by omega
          have := dp.2.2; rw [c, di.2.2] at this; omega
      refine Ev.congr (fun k => ?_) (ih (p + 1) (by omega) (by omega))
      simp only [plait_search]
      rw [if_pos c]
    · obtain ⟨r, r1, r2, r3⟩ := ends_val hd hi hcup gs es hp2 (by omega) (by omega)
      refine Ev.congr (f := fun k => (plait_ends k d n (i : Int) (wrap64 (HS n (fn d) / 2 - 1)) (p : Int) (fn d p : Int) 0).bind fun r => if r.isSome = true then some (r.getD []) else plait_search k d n (i : Int) (wrap64 (HS n (fn d) / 2 - 1)) m (p + 1)) (fun k => ?_) ?_
      · simp only [plait_search]
        rw [if_neg c, if_pos (by omega), e]
      · refine Ev.bind r1 ?_
        rcases r2 with q | q
        · have ne : p ≠ ps := fun f => by
            have := r3 (by rw [f, ← hc]; exact gs)
            rw [q] at this; cases this
          rw [q]
          refine Ev.congr (fun k => ?_) (ih (p + 1) (by omega) (by omega))
          rw [if_neg (by decide)]
        · rw [q]
          exact Ev.congr (f := fun _ => some cs) (fun k => by rw [if_pos (show (some cs).isSome = true from rfl)]; rfl) (Ev.now _)
theorem short_val {n i : Nat} {d : List Int} (hd : Dia n d) (hi : i + 1 < n) : (fn d i ≠ i + 1 ∧ Ev (fun k => plait_short k d (i : Int)) []) ∨ (fn d i = i + 1 ∧ ∃ c, Good n d c ∧ prodL n (hkL n i) c = d ∧ Ev (fun k => plait_short k d (i : Int)) c) := by
  have hl := hd.lm.len
  have hn := hd.lim
  have e := hd.lm.nn i (by omega)
  have hh : d.length / 2 = n := by omega
  by_cases c : fn d i = i + 1
  · refine .inr ⟨c, ?_⟩
    obtain ⟨p, q, a1, a2, a3, a4, g, ep⟩ := good_ex hd hi c
    subst a2
    refine ⟨_, g, ep, ?_⟩
    have s := search_val hd hi c g ep a1 a3 a4 rfl (2 * n) 0 (by omega) (by omega)
    refine Ev.congr (f := fun k => (plait_diagram_height.f k d).bind fun ht => plait_search k d n (i : Int) (wrap64 (ht - 1)) (2 * n) 0) (fun k => ?_) (Ev.bind (height_val hd.pos hn hd.lm) s)
    unfold plait_short
    rw [hh, if_pos ⟨by omega, by omega, by omega, by omega⟩, if_pos (by rw [e]; omega)]
  · refine .inl ⟨c, Ev.congr (f := fun _ => some []) (fun k => ?_) (Ev.now _)⟩
    unfold plait_short
    rw [hh, if_pos ⟨by omega, by omega, by omega, by omega⟩, if_neg (by rw [e]; omega)]
theorem pick_val {n : Nat} {d : List Int} (hd : Dia n d) (m : Nat) : ∀ i, i + m = n - 1 → (∀ j, j < i → fn d j ≠ j + 1) → (∃ j, j + 1 < n ∧ fn d j = j + 1) →
    ∃ i' c, i' + 1 < n ∧ fn d i' = i' + 1 ∧ (∀ j, j < i' → fn d j ≠ j + 1) ∧ Good n d c ∧ prodL n (hkL n i') c = d ∧ Ev (fun k => plait_pick k d m i) (some (i', c)) := by
  induction m with
  | zero => intro i hi h1 ⟨j, h2, h3⟩; exact absurd h3 (h1 j (by omega))
  | succ m ih =>
    intro i hi h1 hex
    rcases short_val hd (i := i) (by omega) with ⟨c, s⟩ | ⟨c, o, g, ep, s⟩
    · obtain ⟨i', o, b1, b2, b3, b4, b5, b6⟩ := ih (i + 1) (by omega) (fun j hj => by
        by_cases q : j = i
        · rw [q]; exact c
        · exact h1 j (by omega)) hex
      refine ⟨i', o, b1, b2, b3, b4, b5, ?_⟩
      refine Ev.congr (f := fun k => (plait_short k d (i : Int)).bind fun o => if o = [] then plait_pick k d m (i + 1) else some (some (i, o))) (fun k => by simp only [plait_pick]) (Ev.bind s ?_)
      exact Ev.congr (fun k => by rw [if_pos rfl]) b6
    · refine ⟨i, o, by omega, c, h1, g, ep, ?_⟩
      refine Ev.congr (f := fun k => (plait_short k d (i : Int)).bind fun o => if o = [] then plait_pick k d m (i + 1) else some (some (i, o))) (fun k => by simp only [plait_pick]) (Ev.bind s ?_)
      have ne : o ≠ [] := fun f => by have h3 := g.1.pos; have h4 := g.1.lm.len; rw [f] at h4; simp at h4; omega
      exact Ev.congr (fun k => by rw [if_neg ne]) (Ev.now _)
/-- how the word of a diagram comes about -/
inductive Wd (n : Nat) : List Int → List Nat → Prop
  | nil : Wd n (idL n) []
  | cons {d c : List Int} {i : Nat} {w : List Nat} : Dia n d → i + 1 < n → fn d i = i + 1 → (∀ j, j < i → fn d j ≠ j + 1) → Good n d c → prodL n (hkL n i) c = d → Wd n c w → Wd n d (i :: w)
theorem no_cup_id {n : Nat} {d : List Int} (hd : Dia n d) (h : ∀ i, i + 1 < n → fn d i ≠ i + 1) : d = idL n := by
  refine lm_eq hd.lm (idL_lm n) (fun z hz => ?_)
  rw [no_cup hd.lm.mat (nc_iff.1 hd.nc) h z hz]
  exact (idL_fn hz).symm
def ints (w : List Nat) : List Int := w.map (fun x : Nat => (x : Int))
theorem wordGo_val {n : Nat} (m : Nat) : ∀ d, Dia n d → HS n (fn d) + 2 ≤ 2 * (m : Int) → ∃ w, Wd n d w ∧ ∀ out, Ev (fun k => plait_wordGo k m d out) (out ++ ints w) := by
  induction m with
  | zero => intro d hd h; have := (hs_20 hd.pos hd.lim (fn d)).1; omega
  | succ m ih =>
    intro d hd h
    have hl := hd.lm.len
    have hn := hd.lim
    have h0 := hd.pos
    have hh : d.length / 2 = n := by omega
    have b := hs_20 hd.pos hd.lim (fn d)
    by_cases ex : ∃ j, j + 1 < n ∧ fn d j = j + 1
    · obtain ⟨i, c, b1, b2, b3, b4, b5, b6⟩ := pick_val hd (n - 1) 0 (by omega) (fun j hj => by omega) ex
      have bc := hs_20 hd.pos hd.lim (fn c)
      have hs := b4.2
      obtain ⟨w, w1, w2⟩ := ih c b4.1 (by omega)
      refine ⟨i :: w, .cons hd b1 b2 b3 b4 b5 w1, fun out => ?_⟩
      refine Ev.congr (f := fun k => (plait_diagram_height.f k d).bind fun h => if h > 0 then ((plait_pick k d (n - 1) 0).bind fun r => if r.isSome = true then plait_wordGo k m (r.getD (0, [])).2 (out ++ [(((r.getD (0, [])).1 : Nat) : Int)]) else none) else some out) (fun k => ?_) ?_
      · simp only [plait_wordGo]
        rw [if_pos ⟨by omega, by omega, by omega⟩, hh]
      · refine Ev.bind (height_val h0 hn hd.lm) ?_
        refine Ev.congr (fun k => by rw [if_pos (show HS n (fn d) / 2 > 0 by omega)]) ?_
        refine Ev.bind b6 ?_
        have w3 := w2 (out ++ [(i : Int)])
        rw [List.append_assoc] at w3
        refine Ev.congr (fun k => ?_) w3
        rw [if_pos (show (some (i, c)).isSome = true from rfl)]; rfl
    · have e := no_cup_id hd (fun i hi f => ex ⟨i, hi, f⟩)
      have z : HS n (fn d) = 0 := by rw [e, hs_congr (fun z hz => idL_fn hz), hs_id]
      refine ⟨[], by rw [e]; exact .nil, fun out => ?_⟩
      refine Ev.congr (f := fun k => (plait_diagram_height.f k d).bind fun h => if h > 0 then ((plait_pick k d (n - 1) 0).bind fun r => if r.isSome = true then plait_wordGo k m (r.getD (0, [])).2 (out ++ [(((r.getD (0, [])).1 : Nat) : Int)]) else none) else some out) (fun k => ?_) ?_
      · simp only [plait_wordGo]
        rw [if_pos ⟨by omega, by omega, by omega⟩, hh]
      · refine Ev.bind (height_val h0 hn hd.lm) ?_
        rw [z]
        refine Ev.congr (f := fun _ => some (out ++ ints [])) (fun k => ?_) (Ev.now _)
        rw [if_neg (by decide)]
        simp [ints]
theorem word_val {n : Nat} {d : List Int} (hd : Dia n d) : ∃ w, Wd n d w ∧ Ev (fun k => plait_diagram_word.f k d) (ints w) := by
  have b := hs_20 hd.pos hd.lim (fn d)
  obtain ⟨w, w1, w2⟩ := wordGo_val 1000 d hd (by omega)
  exact ⟨w, w1, Ev.congr (fun k => rfl) (w2 [])⟩
/-! ### words -/
def actW (n : Nat) : List Nat → List Int → List Int
  | [], o => o
  | i :: w, o => prodL n (hkL n i) (actW n w o)
def okN (n : Nat) (w : List Nat) : Prop := ∀ i, i ∈ w → i + 1 < n
theorem act_lm {n : Nat} {w : List Nat} (hw : okN n w) {o : List Int} (ho : LM n o) : LM n (actW n w o) := by
  induction w with
  | nil => exact ho
  | cons i w ih =>
    have hi := hw i List.mem_cons_self
    exact prodL_lm (hkL_lm hi).1 (ih (fun j hj => hw j (List.mem_cons_of_mem _ hj)))
theorem act_hs {n : Nat} {w : List Nat} (hw : okN n w) {o : List Int} (ho : LM n o) : HS n (fn (actW n w o)) ≤ HS n (fn o) + 2 * (w.length : Int) := by
  induction w with
  | nil => simp [actW]
  | cons i w ih =>
    have hi := hw i List.mem_cons_self
    have hw' : okN n w := fun j hj => hw j (List.mem_cons_of_mem _ hj)
    have := ih hw'
    have h := hs_le (act_lm hw' ho) hi (d := actW n (i :: w) o) rfl
    simp only [List.length_cons]
    omega
theorem hs_idL {n : Nat} : HS n (fn (idL n)) = 0 := by rw [hs_congr (fun z hz => idL_fn hz), hs_id]
theorem wd_val {n : Nat} {d : List Int} {w : List Nat} (h : Wd n d w) : okN n w ∧ actW n w (idL n) = d ∧ HS n (fn d) = 2 * (w.length : Int) := by
  induction h with
  | nil => exact ⟨fun i hi => (by cases hi), rfl, (by rw [hs_idL]; rfl)⟩
  | cons hd hi hc hm hg he _ ih =>
    obtain ⟨a, b, c⟩ := ih
    refine ⟨fun j hj => ?_, ?_, ?_⟩
    · rcases List.mem_cons.1 hj with rfl | hj
      · exact hi
      · exact a j hj
    · show prodL _ _ (actW _ _ _) = _
      rw [b, he]
    · have := hg.2
      simp only [List.length_cons]
      omega
end Go.Proofs.Ytjfkompfkgjdaaa.L
end
section
/- No word of a diagram is shorter than its word, or before it. -/
namespace Go.Proofs.Ytjfkompfkgjdaaa.L
open Go.RowKit Go.Proofs.Ytjfkompfkgjdaaa.PC Go.Proofs.YtjfkompfkgjdaaaW.PrintWords Go.Proofs.YtjfkompfkgjdaaaW.PrintLast Go.Proofs.Ytjfkompfkgjdaaa.G
theorem hkL_dia {n i : Nat} (hn : n ≤ 10) (hi : i + 1 < n) : Dia n (hkL n i) :=
  ⟨by omega, hn, (hkL_lm hi).1, nc_iff.2 (ncf_congr (b := G.hk n i) (fun z hz => (hkL_lm hi).2 z hz) (hk_nc hi))⟩
theorem act_dia {n : Nat} (h0 : 0 < n) (hn : n ≤ 10) {w : List Nat} (hw : okN n w) : Dia n (actW n w (idL n)) := by
  induction w with
  | nil => exact idL_dia h0 hn
  | cons i w ih =>
    have hi := hw i List.mem_cons_self
    exact dia_prod (hkL_dia hn hi) (ih (fun j hj => hw j (List.mem_cons_of_mem _ hj)))
def lexLe : List Nat → List Nat → Prop
  | [], _ => True
  | _ :: _, [] => True
  | a :: w, b :: l => a < b ∨ (a = b ∧ lexLe w l)
theorem wd_len {n : Nat} {d : List Int} {w l : List Nat} (h : Wd n d w) (hl : okN n l) (e : actW n l (idL n) = d) : w.length ≤ l.length := by
  have a := (wd_val h).2.2
  have b := act_hs hl (idL_lm n)
  rw [e, hs_idL] at b
  omega
theorem wd_lex {n : Nat} (h0 : 0 < n) (hn : n ≤ 10) {d : List Int} {w : List Nat} (h : Wd n d w) : ∀ l, okN n l → actW n l (idL n) = d → w.length = l.length → lexLe w l := by
  induction h with
  | nil => intro l _ _ _; exact trivial
  | @cons d c i w hd hi hc hm hg he hw ih =>
    intro l hl e hlen
    cases l with
    | nil => exact trivial
    | cons j l =>
      have hj := hl j List.mem_cons_self
      have hl' : okN n l := fun x hx => hl x (List.mem_cons_of_mem _ hx)
      have hD := act_dia h0 hn hl'
      have a := (wd_val (.cons hd hi hc hm hg he hw)).2.2
      have b := act_hs hl' (idL_lm n)
      rw [hs_idL] at b
      have e' : prodL n (hkL n j) (actW n l (idL n)) = d := e
      have s := hs_le hD.lm hj e'
      simp only [List.length_cons] at hlen a
      have s2 : HS n (fn d) = HS n (fn (actW n l (idL n))) + 2 := by omega
      have g := good_got hD hj e' s2
      show i < j ∨ (i = j ∧ lexLe w l)
      by_cases q : i < j
      · exact .inl q
      · have q2 : i = j := by
          refine Classical.byContradiction fun ne => ?_
          exact hm j (by omega) g.cup
        subst q2
        have u := good_uniq hd hi hg.1 he hg.2 hD e' s2
        exact .inr ⟨rfl, ih l hl' u.symm (by omega)⟩
/-! ### Hooks of a word -/
theorem ints_len (v : List Nat) : (ints v).length = v.length := by simp [ints]
theorem ints_rd {v : List Nat} {j : Nat} (h : j < v.length) : rd (ints v) (j : Int) = ((v[j]'h : Nat) : Int) := by
  unfold rd ints
  rw [Int.toNat_natCast, List.getD_eq_getElem?_getD]
  simp [h]
theorem ints_ok {n : Nat} {v : List Nat} (h : okN n v) : okW n (ints v) := by
  intro j hj
  rw [ints_len] at hj
  rw [ints_rd hj]
  have := h _ (List.getElem_mem hj)
  omega
theorem hkW_act {n : Nat} {v : List Nat} (hv : okN n v) (d : Nat) : ∀ (j : Nat) (l : List Int) (s : Int), j + d = v.length → LM n l → (hkW n (ints v) d j l s).1 = prodL n l (actW n (v.drop j) (idL n)) := by
  induction d with
  | zero =>
    intro j l s hj h
    simp only [hkW]
    rw [List.drop_of_length_le (by omega)]
    exact (prodL_id h).1.symm
  | succ d ih =>
    intro j l s hj h
    have hj2 : j < v.length := by omega
    have hi := hv _ (List.getElem_mem hj2)
    simp only [hkW]
    rw [ints_rd hj2, Int.toNat_natCast, ih (j + 1) _ _ (by omega) (prodL_lm h (hkL_lm hi).1), List.drop_eq_getElem_cons hj2]
    have ha : LM n (actW n (v.drop (j + 1)) (idL n)) := act_lm (fun x hx => hv x (List.mem_of_mem_drop hx)) (idL_lm n)
    exact (prodL_assoc h (hkL_lm hi).1 ha).1
theorem hooks_val {n : Nat} (h0 : 1 ≤ n) (hn : n ≤ 10) {v : List Nat} (hl : v.length ≤ 200) (hv : okN n v) : ∃ s, Ev (fun k => plait_Hooks.f k (n : Int) (ints v)) (actW n v (idL n), s, 0) ∧ s = (hkW n (ints v) v.length 0 (idL n) 0).2 := by
  have hw := ints_ok hv
  have g := (hooks_l0 (by omega) (by rw [ints_len]; omega) hw v.length 0 (idL n) 0 (by rw [ints_len]; omega) (idL_lm n)).1
  refine ⟨_, ?_, rfl⟩
  have e1 : (hkW n (ints v) v.length 0 (idL n) 0).1 = actW n v (idL n) := by
    rw [hkW_act hv v.length 0 (idL n) 0 (by omega) (idL_lm n), List.drop_zero]
    exact (prodL_id (act_lm hv (idL_lm n))).2.1
  rw [e1] at g
  have ho : plait_ordered.f (n : Int) (ints v) = some 0 := by
    have na : (ints v).any (fun x => decide (x < 0 ∨ (n : Int) - 2 < x)) = false := by
      rw [List.any_eq_false]
      intro x hx
      obtain ⟨y, hy, rfl⟩ := List.mem_map.1 hx
      have := hv y hy
      simp only [decide_eq_true_eq]
      omega
    unfold plait_ordered.f
    rw [if_neg (by omega), if_neg (by rw [ints_len]; omega), na]
    rfl
  refine Ev.congr (f := fun k => (plait_identity.f k (n : Int)).bind fun t340 => (plait_Hooks.l0 k (n : Int) t340 0 (ints v) ((ints v).length : Int) 0)) (fun k => ?_) (Ev.bind (identity_ev (by omega)) g)
  unfold plait_Hooks.f
  rw [ho, Option.bind_some, if_pos rfl]
theorem wordP_val {n : Nat} {d : List Int} (hd : Dia n d) : ∃ w, Wd n d w ∧ w.length ≤ 200 ∧ Ev (fun k => plait_Word.f k d) (ints w, 0) := by
  obtain ⟨w, w1, w2⟩ := word_val hd
  have a := (wd_val w1).2.2
  have b := hs_20 hd.pos hd.lim (fn d)
  exact ⟨w, w1, by omega, Ev.congr (fun k => rfl) (Ev.bind (dia_yes hd).1 (Ev.congr (fun k => by rw [if_pos rfl]) (Ev.bind w2 (Ev.now _))))⟩
end Go.Proofs.Ytjfkompfkgjdaaa.L
end
section
/- Plait: PlaitShorter: no word that makes a diagram is shorter than Word, or of the same length and before it. -/
namespace Go.Proofs.Ytjfkompfkgjdaaa.L
open Go.RowKit Go.Proofs.Ytjfkompfkgjdaaa.PC Go.Proofs.YtjfkompfkgjdaaaW.PrintWords Go.Proofs.YtjfkompfkgjdaaaW.PrintLast Go.Proofs.Ytjfkompfkgjdaaa.G
theorem u8_range {a : Int} (h : (Lit.int .u8 a).wf = true) : 0 ≤ a ∧ a ≤ 255 := by
  simp [Lit.wf, IntKind.bits, IntKind.signed, IntKind.min, IntKind.max] at h
  omega
theorem lex_l1 {w v : List Nat} (hv : v.length ≤ 1000) (hw : w.length ≤ v.length) (c : Nat) : ∀ i, i + c = w.length → (w.length = v.length → lexLe (w.drop i) (v.drop i)) →
    Ev (fun k => pomadelaw07_PlaitShorter.l1 k (ints v) (ints w) (i : Int)) true := by
  have lv := ints_len v
  have lw := ints_len w
  induction c with
  | zero =>
    intro i hi _
    refine Ev.step (f := fun k => pomadelaw07_PlaitShorter.j3 k (ints v) (ints w) (i : Int) false) (fun k => ?_) ?_
    · simp only [pomadelaw07_PlaitShorter.l1]
      rw [if_neg (by omega)]
    · refine Ev.step (f := fun _ => some true) (fun k => ?_) (Ev.now _)
      simp only [pomadelaw07_PlaitShorter.j3]
      rw [if_neg (by decide)]; rfl
  | succ c ih =>
    intro i hi h
    refine Ev.step (f := fun k => pomadelaw07_PlaitShorter.j3 k (ints v) (ints w) (i : Int) (((ints w).length : Int) == ((ints v).length : Int))) (fun k => ?_) ?_
    · simp only [pomadelaw07_PlaitShorter.l1]
      rw [if_pos (by omega)]
    by_cases q : w.length = v.length
    · have hl := h q
      have i1 : i < w.length := by omega
      have i2 : i < v.length := by omega
      rw [List.drop_eq_getElem_cons i1, List.drop_eq_getElem_cons i2] at hl
      have hl : w[i] < v[i] ∨ (w[i] = v[i] ∧ lexLe (w.drop (i + 1)) (v.drop (i + 1))) := hl
      rw [show (((ints w).length : Int) == ((ints v).length : Int)) = true from beq_iff_eq.2 (by omega)]
      rcases hl with hl | ⟨he, hl⟩
      · refine Ev.step (f := fun _ => some true) (fun k => ?_) (Ev.now _)
        simp only [pomadelaw07_PlaitShorter.j3]
        rw [if_pos trivial, if_pos (by omega), if_pos (by omega), if_pos (by omega), ints_rd i1, ints_rd i2, if_neg (by omega), if_pos (by omega)]; rfl
      · refine Ev.step (fun k => ?_) (ih (i + 1) (by omega) (fun _ => hl))
        simp only [pomadelaw07_PlaitShorter.j3]
        rw [if_pos trivial, if_pos (by omega), if_pos (by omega), if_pos (by omega), ints_rd i1, ints_rd i2, if_pos (by omega), pw64 (by omega) (by omega)]
        rfl
    · rw [show (((ints w).length : Int) == ((ints v).length : Int)) = false from beq_eq_false_iff_ne.2 (by omega)]
      refine Ev.step (f := fun _ => some true) (fun k => ?_) (Ev.now _)
      simp only [pomadelaw07_PlaitShorter.j3]
      rw [if_neg (by decide)]; rfl
theorem short_l0 {n : Nat} (hn : 2 ≤ n ∧ n ≤ 8) {l : List Int} (hl : l.length ≤ 60) (hr : ∀ x ∈ l, 0 ≤ x ∧ x ≤ 255) (c : Nat) : ∀ i, i + c = l.length →
    Ev (fun k => pomadelaw07_PlaitShorter.l0 k l (n : Int) (ints ((l.take i).map (fun x => (x % ((n : Int) - 1)).toNat))) (i : Int)) true := by
  induction c with
  | zero =>
    intro i hi
    have hv : okN n (l.map (fun x => (x % ((n : Int) - 1)).toNat)) := fun y hy => by
      obtain ⟨x, hx, rfl⟩ := List.mem_map.1 hy
      have a := Int.emod_nonneg x (show ((n : Int) - 1) ≠ 0 by omega)
      have b := Int.emod_lt_of_pos x (show 0 < (n : Int) - 1 by omega)
      omega
    rw [List.take_of_length_le (by omega)]
    generalize hV : l.map (fun x => (x % ((n : Int) - 1)).toNat) = v at hv ⊢
    have lv : v.length = l.length := by rw [← hV]; simp
    obtain ⟨s, g, _⟩ := hooks_val (n := n) (by omega) (by omega) (v := v) (by omega) hv
    have hd := act_dia (n := n) (by omega) (by omega) hv
    obtain ⟨w, w1, w2, w3⟩ := wordP_val hd
    have hle := wd_len w1 hv rfl
    refine Ev.step (f := fun k => (plait_Hooks.f k (n : Int) (ints v)).bind fun bt780 => ((plait_Word.f k bt780.1).bind fun bt785 => (if bt780.2.2 = 0 then (if bt785.2 = 0 then (pomadelaw07_PlaitShorter.j1 k (ints v) bt785.1 (decide ((bt785.1.length : Int) > ((ints v).length : Int)))) else (pomadelaw07_PlaitShorter.j1 k (ints v) bt785.1 true)) else (pomadelaw07_PlaitShorter.j1 k (ints v) bt785.1 true)))) (fun k => ?_) ?_
    · simp only [pomadelaw07_PlaitShorter.l0]
      rw [if_neg (by omega)]
    · refine Ev.bind g ?_
      refine Ev.bind w3 ?_
      have d1 : decide (((ints w).length : Int) > ((ints v).length : Int)) = false := decide_eq_false (by rw [ints_len, ints_len]; omega)
      refine Ev.congr (f := fun k => pomadelaw07_PlaitShorter.j1 k (ints v) (ints w) false) (fun k => by
        rw [if_pos rfl, if_pos rfl]
        show pomadelaw07_PlaitShorter.j1 k (ints v) (ints w) (decide (((ints w).length : Int) > ((ints v).length : Int))) = _
        rw [d1]) ?_
      refine Ev.step (fun k => ?_) (lex_l1 (v := v) (w := w) (by omega) hle w.length 0 (by omega) (fun q => by
        rw [List.drop_zero, List.drop_zero]
        exact wd_lex (by omega) (by omega) w1 v hv rfl q))
      simp only [pomadelaw07_PlaitShorter.j1]
      rw [if_neg (by decide)]
      rfl
  | succ c ih =>
    intro i hi
    have i1 : i < l.length := by omega
    have r := hr _ (List.getElem_mem i1)
    have e : rd l (i : Int) = l[i] := by
      unfold rd
      rw [Int.toNat_natCast, List.getD_eq_getElem?_getD, List.getElem?_eq_getElem i1]; rfl
    have a := Int.emod_nonneg l[i] (show ((n : Int) - 1) ≠ 0 by omega)
    have et : Int.tmod (wrap64 (rd l (i : Int))) (wrap64 ((n : Int) - 1)) = (((l[i] % ((n : Int) - 1)).toNat : Nat) : Int) := by
      rw [e, pw64 (x := l[i]) (by omega) (by omega), pw64 (x := (n : Int) - 1) (by omega) (by omega), Int.tmod_eq_emod_of_nonneg r.1]
      omega
    have es : ints ((l.take (i + 1)).map (fun x => (x % ((n : Int) - 1)).toNat)) = ints ((l.take i).map (fun x => (x % ((n : Int) - 1)).toNat)) ++ [(((l[i] % ((n : Int) - 1)).toNat : Nat) : Int)] := by
      rw [List.take_succ_eq_append_getElem i1]
      unfold ints
      rw [List.map_append, List.map_append]
      rfl
    have g := ih (i + 1) (by omega)
    rw [es] at g
    refine Ev.step (fun k => ?_) g
    simp only [pomadelaw07_PlaitShorter.l0]
    rw [if_pos (by omega), if_pos (by omega), if_neg (by rw [pw64 (by omega) (by omega)]; omega), if_pos (by simp [ints]; omega), et, pw64 (x := (i : Int) + 1) (by omega) (by omega)]
    rfl
theorem PlaitShorter_pure : pomadelaw07_PlaitShorter.Pure := by
  intro a0 l w0 _ _ w1
  refine Ev.rounds (g := fun k => pomadelaw07_PlaitShorter.f k a0 l) ?_
  have b0 := u8_range w0
  by_cases c : (l.length : Int) > 60
  · refine Ev.congr (f := fun _ => some true) (fun k => ?_) (Ev.now _)
    unfold pomadelaw07_PlaitShorter.f
    rw [if_pos c]; rfl
  · have e0 : wrap64 (2 + wrap64 (Int.tmod a0 7)) = ((2 + (a0 % 7).toNat : Nat) : Int) := by
      rw [Int.tmod_eq_emod_of_nonneg b0.1, pw64 (x := a0 % 7) (by omega) (by omega), pw64 (by omega) (by omega)]; omega
    have g := short_l0 (n := 2 + (a0 % 7).toNat) (by omega) (by omega) (fun x hx => u8_range (w1 x hx)) l.length 0 (by omega)
    refine Ev.congr (fun k => ?_) g
    unfold pomadelaw07_PlaitShorter.f
    rw [if_neg c, e0]
    rfl
end Go.Proofs.Ytjfkompfkgjdaaa.L
namespace Go.Proofs.Ytjfkompfkgjdaaa.Pure
theorem PlaitShorter : Go.Proofs.Ytjfkompfkgjdaaa.PC.pomadelaw07_PlaitShorter.Pure := Go.Proofs.Ytjfkompfkgjdaaa.L.PlaitShorter_pure
end Go.Proofs.Ytjfkompfkgjdaaa.Pure
end
section
namespace Go.Proofs.Ytjfkompfkgjdaaa.plaitShorter
open Go.ChangeShapes Go.WideShapes Go.ChangeAt Go.RowKit
open Go.ChangeMaps (open_string shut_string)
set_option linter.unusedVariables false
theorem own : ownKnob Try.prog.godebug = none := by kernel_rfl
theorem laidOut : laidOutB Try.prog = true := by kernel_rfl
def IsRow (k : IntKind) (w : World) (a : Option Addr) (len cap : Nat) (zs : List Int) : Prop :=
  (a = none ∧ len = 0 ∧ cap = 0 ∧ zs = []) ∨
  ∃ x, a = some x ∧ len ≤ cap ∧ cap ≤ maxLen ∧ zs.length = cap ∧ (∀ i, i < zs.length → w.cell? (x.add i) = some (.int k (zs.getD i 0))) ∧ ∀ n ∈ zs, (Lit.int k n).wf = true
set_option maxRecDepth 100000 in
theorem lifted (os : Os) (started : os.Started) (H : Type) (enc : TypeId × Value → H) :
    ReturnsInHanded {} Try.checked os 17 .any (Rows.plaitShorterSpec.pre6 enc Try.prog Try.f17 Rows.plaitShorterRow.domain false) (Rows.plaitShorterSpec.post enc Try.prog Try.f17 false true false false) := by
  refine returnsInHanded_of_change_sized (C := Try.checked) own started (by kernel_rfl) Try.func17
    (ChangeSpec.witness6 (enc := enc) (C := Try.checked) false ⟨#[], #[.int .u8 0, .slice none 0 0], []⟩ 8 (by kernel_rfl) (by kernel_rfl) (by kernel_rfl) (by kernel_rfl)) ?_
  intro W base args ds gs before hval0 hW hcnd hsz0 _
  have hsz : (DataW.weightsEach Try.prog (Try.f17.params.toList ++ Rows.plaitShorterSpec.plain.varTypes Try.prog) (ds ++ gs)).all (· ≤ reachBytes) = true := hsz0
  have hval : ∀ (j : Nat) t v, Try.f17.params[j]? = some t → args[j]? = some v → Value.okWide Try.prog W .any base t v := hval0
  have hW' := hW
  obtain ⟨p, q, hA0, hV, rfl, hfz, hnd⟩ := hW
  have hA : DataW.TrodAll enc Try.prog W 0 (fun _ => true) true Try.f17.params.toList args.toList ds p := hA0
  rw [Try.params17] at hA hval hsz
  obtain ⟨v0, vs0, d0, ds0, p0, q0, hargs, rfl, rfl, h0, r0⟩ := trodAll_cons hA
  obtain ⟨v1, vs1, d1, ds1, p1, q1, rfl, rfl, rfl, h1, r1⟩ := trodAll_cons r0
  obtain ⟨rfl, rfl, rfl⟩ := trodAll_nil r1
  obtain rfl : args = #[v0, v1] := by cases args; simp_all
  obtain ⟨rfl, rfl⟩ := trodVars_none hV
  obtain ⟨a0, rfl, rfl, rfl, w0⟩ := open_int Try.underlying5 (hval 0 5 v0 rfl rfl) h0
  obtain ⟨a1, len1, cap1, rfl⟩ := okWide_slice Try.underlying60 (hval 1 60 v1 rfl rfl)
  have k1 := h1
  have lt1 : ∀ x ∈ p1, x.block < W.heap.size := by obtain ⟨m, hm⟩ := k1; exact DataW.trod_lt m _ _ _ hm
  obtain ⟨z1, w1⟩ : ∃ zs, IsRow .u8 W a1 len1 cap1 zs := by
    obtain ⟨fuel, hf⟩ := h1
    rcases open_ints Try.underlying60 Try.underlying5 (by kernel_rfl) hf with ⟨hcs, _⟩ | ⟨x, l, c, zs, hcs, _, hl, hm, hz, _, hcell, hwz⟩
    · simp [Value.cells] at hcs
      obtain ⟨rfl, rfl, rfl⟩ := hcs
      exact ⟨[], .inl ⟨rfl, rfl, rfl, rfl⟩⟩
    · simp [Value.cells] at hcs
      obtain ⟨rfl, rfl, rfl⟩ := hcs
      exact ⟨zs, .inr ⟨_, rfl, hl, hm, by simpa using hz, hcell, hwz⟩⟩
  have y1 : len1 * 1 ≤ 140737488351232 := Go.Proofs.YtjfkompfkgjdaaaW.PrintWords.sized_ints hsz (j := 1) (t := 60) rfl rfl Try.underlying60 Try.underlying5 (by kernel_rfl) (by kernel_rfl) h1
  clear hA0 hval0 hsz0 hsz
  refine (PC.pomadelaw07_PlaitShorter.walk Pure.PlaitShorter a0 a1 len1 cap1 z1 W w0 w1 y1).mono fun e W' ⟨he, bel⟩ => ?_
  subst he
  exact ⟨_, rfl, _, _, _, [], _, [], hW', trodAll_mk1 (shut_bool Try.underlying4 _), (trodAll_cons_mk (shut_int Try.underlying5 w0) (trodAll_cons_mk (Below.trod laidOut (by kernel_rfl) (of_decide_eq_true (by kernel_rfl)) k1 bel lt1) trodAll_mk0)), rfl, bel.frame _, fun h => by cases h⟩
theorem over : Rows.plaitShorterRow.holds Try.pinned (OpenSpec.ofChange Rows.plaitShorterSpec) :=
  OpenClaim.holds_of_wide 17 Try.f17 rfl rfl rfl rfl rfl rfl rfl ⟨rfl, rfl, rfl, rfl, rfl⟩ rfl rfl rfl rfl rfl (by kernel_rfl) Try.func17 (by kernel_rfl)
    (of_decide_eq_true (by kernel_rfl)) (by unfold Func.isWrapper; first | (rw [if_pos (by decide +kernel)]; kernel_rfl) | (rw [if_neg (by decide +kernel)]; exact ⟨rfl, rfl⟩))
    (fun os started H enc _ => lifted os started H enc)
theorem proved : Rows.PlaitShorterSaid := over
#print axioms proved
end Go.Proofs.Ytjfkompfkgjdaaa.plaitShorter
namespace Go.Proofs.Ytjfkompfkgjdaaa
/-- The row, under a short name, for the claim. -/
theorem plaitShorter_holds : Rows.PlaitShorterSaid := plaitShorter.proved
end Go.Proofs.Ytjfkompfkgjdaaa
end
