/- Products of diagrams are diagrams; three in a row; the identity. -/
import Derived.Test.YtjfkompfkgjdaaaLIdent
import Derived.Test.YtjfkompfkgjdaaaMPlan
namespace Go.Proofs.Ytjfkompfkgjdaaa.L
open Go.RowKit Go.Proofs.Ytjfkompfkgjdaaa.PC Go.Proofs.YtjfkompfkgjdaaaW.PrintWords Go.Proofs.YtjfkompfkgjdaaaW.PrintLast Go.Proofs.Ytjfkompfkgjdaaa.G
theorem Ev.det {α : Type} {g : Nat → Option α} {r s : α} (h : Ev g r) (k : Ev g s) : r = s := by
  obtain ⟨K, h⟩ := h
  obtain ⟨L, k⟩ := k
  have a := h (max K L) (Nat.le_max_left ..)
  have b := k (max K L) (Nat.le_max_right ..)
  rw [a] at b
  exact Option.some.inj b
theorem dia_ref {n : Nat} {l : List Int} (h : Dia n l) : Ev (fun k => pomaderef07_Diagram.f k l) 0 := by
  have hl := h.lm.len
  have hn := h.lim
  refine dia_even h.pos hn hl (dia_l0_miss (by omega) (fun y hy => h.lm.good (by omega)) (dia_l1_miss (by omega) h.lm (crs_nc.1 h.nc) (2 * n) 0 (by omega)) l.length 0 (by omega))
theorem dia_yes {n : Nat} {l : List Int} (h : Dia n l) : Ev (fun k => plait_of.f k l) 0 ∧ Ev (fun k => pomaderef07_Diagram.f k l) 0 ∧ Ev (fun k => plait_diagram_arches.f k l) (strOfNums (brk n l), true) := by
  obtain ⟨e, h1, h2, h3⟩ := dia_both l
  have e0 := Ev.det h2 (dia_ref h)
  subst e0
  rcases h3 with c | c | ⟨_, m, d, h3⟩
  · omega
  · omega
  · obtain rfl := h.two d
    exact ⟨h1, h2, h3⟩
theorem dia_of {l : List Int} (h : Ev (fun k => pomaderef07_Diagram.f k l) 0) : ∃ n, Dia n l := by
  obtain ⟨e, h1, h2, h3⟩ := dia_both l
  have e0 := Ev.det h2 h
  subst e0
  rcases h3 with c | c | ⟨_, m, d, h3⟩
  · omega
  · omega
  · exact ⟨m, d⟩
theorem product_yes {n : Nat} {a b : List Int} (ha : Dia n a) (hb : Dia n b) : Ev (fun k => plait_Product.f k a b) (prodL n a b, (lops n (fn a) (fn b) : Int), 0) := by
  obtain ⟨e1, e2, _, d1, _, d2, h⟩ := product_plait a b
  have z1 := Ev.det d1 (dia_ref ha)
  have z2 := Ev.det d2 (dia_ref hb)
  have l1 := ha.lm.len
  have l2 := hb.lm.len
  rcases h with ⟨_, _, _, m, d, _, h⟩ | ⟨h, _⟩
  · obtain rfl := ha.two d
    exact h
  · exact absurd ⟨z1, z2, by omega⟩ h
theorem product_no {n m : Nat} {a b : List Int} (ha : Dia n a) (hb : Dia m b) (hne : a.length ≠ b.length) : ∃ e : Int, e ≠ 0 ∧ Ev (fun k => plait_Product.f k a b) ([], 0, e) := by
  obtain ⟨e1, e2, _, d1, _, d2, h⟩ := product_plait a b
  rcases h with ⟨_, _, h, _⟩ | ⟨_, he, h⟩
  · exact absurd h hne
  · exact ⟨_, he, h⟩
theorem nc_iff {n : Nat} {l : List Int} : NCD (2 * n) (Db n l) ↔ NCf n (fn l) := crs_nc
theorem ncf_congr {n : Nat} {a b : Nat → Nat} (h : ∀ z, z < 2 * n → a z = b z) (hb : NCf n b) : NCf n a := by
  intro i k hi hk
  rw [h i hi, h k hk]
  exact hb i k hi hk
theorem dia_prod {n : Nat} {a b : List Int} (ha : Dia n a) (hb : Dia n b) : Dia n (prodL n a b) :=
  ⟨ha.pos, ha.lim, prodL_lm ha.lm hb.lm, nc_iff.2 (ncf_congr (fun z hz => prodL_fn hz) (prod_nc ha.lm.mat hb.lm.mat (nc_iff.1 ha.nc) (nc_iff.1 hb.nc)))⟩
/-! ### the product depends on the points of the matchings alone -/
theorem jn_congr {n : Nat} {a a' b b' : Nat → Nat} (ha : ∀ z, z < 2 * n → a z = a' z) (hb : ∀ z, z < 2 * n → b z = b' z) : jn n a b = jn n a' b' := by
  funext z
  unfold jn
  by_cases c : z < 2 * n
  · rw [if_pos c, if_pos c, ha z c]
  · rw [if_neg c, if_neg c]
    by_cases d : z < 4 * n
    · rw [if_pos d, if_pos d, hb _ (by omega)]
    · rw [if_neg d, if_neg d]
theorem prod_congr {n : Nat} {a a' b b' : Nat → Nat} (ha : ∀ z, z < 2 * n → a z = a' z) (hb : ∀ z, z < 2 * n → b z = b' z) : prod n a b = prod n a' b' ∧ lops n a b = lops n a' b' := by
  unfold prod lops
  rw [jn_congr ha hb]
  exact ⟨rfl, rfl⟩
theorem lm_eq {n : Nat} {a b : List Int} (ha : LM n a) (hb : LM n b) (h : ∀ z, z < 2 * n → fn a z = fn b z) : a = b :=
  list_eq (by rw [ha.len, hb.len]) (fun z hz => by have := ha.len; rw [ha.nn z (by omega), hb.nn z (by omega), h z (by omega)])
theorem prodL_assoc {n : Nat} {a b c : List Int} (ha : LM n a) (hb : LM n b) (hc : LM n c) : prodL n (prodL n a b) c = prodL n a (prodL n b c) ∧
    lops n (fn (prodL n a b)) (fn c) + lops n (fn a) (fn b) = lops n (fn a) (fn (prodL n b c)) + lops n (fn b) (fn c) := by
  have h := assoc ha.mat hb.mat hc.mat
  have e1 := prod_congr (n := n) (a := fn (prodL n a b)) (a' := prod n (fn a) (fn b)) (b := fn c) (b' := fn c) (fun z hz => prodL_fn hz) (fun _ _ => rfl)
  have e2 := prod_congr (n := n) (a := fn a) (a' := fn a) (b := fn (prodL n b c)) (b' := prod n (fn b) (fn c)) (fun _ _ => rfl) (fun z hz => prodL_fn hz)
  refine ⟨lm_eq (prodL_lm (prodL_lm ha hb) hc) (prodL_lm ha (prodL_lm hb hc)) (fun z hz => ?_), ?_⟩
  · rw [prodL_fn hz, prodL_fn hz, e1.1, e2.1]; exact h.1 z hz
  · rw [e1.2, e2.2]; exact h.2
theorem idL_fn {n z : Nat} (h : z < 2 * n) : fn (idL n) z = G.idf n z := by
  show (rd (idL n) (z : Int)).toNat = _
  rw [idL_rd h, Int.toNat_natCast]; rfl
theorem prodL_id {n : Nat} {a : List Int} (ha : LM n a) : prodL n a (idL n) = a ∧ prodL n (idL n) a = a ∧ lops n (fn a) (fn (idL n)) = 0 ∧ lops n (fn (idL n)) (fn a) = 0 := by
  have e1 := prod_congr (n := n) (a := fn a) (a' := fn a) (b := fn (idL n)) (b' := G.idf n) (fun _ _ => rfl) (fun z hz => idL_fn hz)
  have e2 := prod_congr (n := n) (a := fn (idL n)) (a' := G.idf n) (b := fn a) (b' := fn a) (fun z hz => idL_fn hz) (fun _ _ => rfl)
  refine ⟨lm_eq (prodL_lm ha (idL_lm n)) ha (fun z hz => ?_), lm_eq (prodL_lm (idL_lm n) ha) ha (fun z hz => ?_), ?_, ?_⟩
  · rw [prodL_fn hz, e1.1]; exact prod_id ha.mat hz
  · rw [prodL_fn hz, e2.1]; exact id_prod ha.mat hz
  · rw [e1.2]; exact (lops_id ha.mat).1
  · rw [e2.2]; exact (lops_id ha.mat).2
theorem idL_dia {n : Nat} (h0 : 0 < n) (h1 : n ≤ 10) : Dia n (idL n) := by
  refine ⟨h0, h1, idL_lm n, nc_iff.2 (ncf_congr (fun z hz => idL_fn hz) (fun i k hi hk c => ?_))⟩
  unfold G.bo G.idf at c
  by_cases ci : i < n <;> by_cases ck : k < n <;> simp only [ci, ck, ↓reduceIte] at c <;> (repeat' split at c) <;> omega
theorem lops_le {n : Nat} {a b : Nat → Nat} (ha : Mat n a) (hb : Mat n b) : lops n a b ≤ n := by
  rw [lops_fst ha hb]; exact cntP_le _ _
end Go.Proofs.Ytjfkompfkgjdaaa.L
