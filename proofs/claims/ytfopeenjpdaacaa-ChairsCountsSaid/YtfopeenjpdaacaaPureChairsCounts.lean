/- Chairs: ChairsCounts: the specification's table of counts, beside the product of the answer. -/
import Derived.Test.YtfopeenjpdaacaaLSit
import Derived.Test.YtfopeenjpdaacaaLWays
import Derived.Test.YtfopeenjpdaacaaPCf3
namespace Go.Proofs.Ytfopeenjpdaacaa.L
open Go.RowKit Go.Proofs.Ytfopeenjpdaacaa.PC Go.Proofs.YtfopeenjpdaacaaW.PrintWords Go.Proofs.YtfopeenjpdaacaaW.PrintLast Go.Proofs.YtfopeenjpdaacaaW.PrintMore
-- The table (printed by a program of this session; checked below).
def TT : List (List (List Nat)) :=
  [[[1]],
  [[1, 1], [1]],
  [[1, 1, 1], [2, 2], [3]],
  [[1, 1, 1, 1], [3, 3, 3], [8, 8], [16]],
  [[1, 1, 1, 1, 1], [4, 4, 4, 4], [15, 15, 15], [50, 50], [125]],
  [[1, 1, 1, 1, 1, 1], [5, 5, 5, 5, 5], [24, 24, 24, 24], [108, 108, 108], [432, 432], [1296]],
  [[1, 1, 1, 1, 1, 1, 1], [6, 6, 6, 6, 6, 6], [35, 35, 35, 35, 35], [196, 196, 196, 196], [1029, 1029, 1029], [4802, 4802], [16807]],
  [[1, 1, 1, 1, 1, 1, 1, 1], [7, 7, 7, 7, 7, 7, 7], [48, 48, 48, 48, 48, 48], [320, 320, 320, 320, 320], [2048, 2048, 2048, 2048], [12288, 12288, 12288], [65536, 65536], [262144]],
  [[1, 1, 1, 1, 1, 1, 1, 1, 1], [8, 8, 8, 8, 8, 8, 8, 8], [63, 63, 63, 63, 63, 63, 63], [486, 486, 486, 486, 486, 486], [3645, 3645, 3645, 3645, 3645], [26244, 26244, 26244, 26244], [177147, 177147, 177147], [1062882, 1062882], [4782969]],
  [[1, 1, 1, 1, 1, 1, 1, 1, 1, 1], [9, 9, 9, 9, 9, 9, 9, 9, 9], [80, 80, 80, 80, 80, 80, 80, 80], [700, 700, 700, 700, 700, 700, 700], [6000, 6000, 6000, 6000, 6000, 6000], [50000, 50000, 50000, 50000, 50000], [400000, 400000, 400000, 400000], [3000000, 3000000, 3000000], [20000000, 20000000], [100000000]],
  [[1, 1, 1, 1, 1, 1, 1, 1, 1, 1, 1], [10, 10, 10, 10, 10, 10, 10, 10, 10, 10], [99, 99, 99, 99, 99, 99, 99, 99, 99], [968, 968, 968, 968, 968, 968, 968, 968], [9317, 9317, 9317, 9317, 9317, 9317, 9317], [87846, 87846, 87846, 87846, 87846, 87846], [805255, 805255, 805255, 805255, 805255], [7086244, 7086244, 7086244, 7086244], [58461513, 58461513, 58461513], [428717762, 428717762], [2357947691]],
  [[1, 1, 1, 1, 1, 1, 1, 1, 1, 1, 1, 1], [11, 11, 11, 11, 11, 11, 11, 11, 11, 11, 11], [120, 120, 120, 120, 120, 120, 120, 120, 120, 120], [1296, 1296, 1296, 1296, 1296, 1296, 1296, 1296, 1296], [13824, 13824, 13824, 13824, 13824, 13824, 13824, 13824], [145152, 145152, 145152, 145152, 145152, 145152, 145152], [1492992, 1492992, 1492992, 1492992, 1492992, 1492992], [14929920, 14929920, 14929920, 14929920, 14929920], [143327232, 143327232, 143327232, 143327232], [1289945088, 1289945088, 1289945088], [10319560704, 10319560704], [61917364224]],
  [[1, 1, 1, 1, 1, 1, 1, 1, 1, 1, 1, 1, 1], [12, 12, 12, 12, 12, 12, 12, 12, 12, 12, 12, 12], [143, 143, 143, 143, 143, 143, 143, 143, 143, 143, 143], [1690, 1690, 1690, 1690, 1690, 1690, 1690, 1690, 1690, 1690], [19773, 19773, 19773, 19773, 19773, 19773, 19773, 19773, 19773], [228488, 228488, 228488, 228488, 228488, 228488, 228488, 228488], [2599051, 2599051, 2599051, 2599051, 2599051, 2599051, 2599051], [28960854, 28960854, 28960854, 28960854, 28960854, 28960854], [313742585, 313742585, 313742585, 313742585, 313742585], [3262922884, 3262922884, 3262922884, 3262922884], [31813498119, 31813498119, 31813498119], [275716983698, 275716983698], [1792160394037]],
  [[1, 1, 1, 1, 1, 1, 1, 1, 1, 1, 1, 1, 1, 1], [13, 13, 13, 13, 13, 13, 13, 13, 13, 13, 13, 13, 13], [168, 168, 168, 168, 168, 168, 168, 168, 168, 168, 168, 168], [2156, 2156, 2156, 2156, 2156, 2156, 2156, 2156, 2156, 2156, 2156], [27440, 27440, 27440, 27440, 27440, 27440, 27440, 27440, 27440, 27440], [345744, 345744, 345744, 345744, 345744, 345744, 345744, 345744, 345744], [4302592, 4302592, 4302592, 4302592, 4302592, 4302592, 4302592, 4302592], [52706752, 52706752, 52706752, 52706752, 52706752, 52706752, 52706752], [632481024, 632481024, 632481024, 632481024, 632481024, 632481024], [7378945280, 7378945280, 7378945280, 7378945280, 7378945280], [82644187136, 82644187136, 82644187136, 82644187136], [867763964928, 867763964928, 867763964928], [8099130339328, 8099130339328], [56693912375296]],
  [[1, 1, 1, 1, 1, 1, 1, 1, 1, 1, 1, 1, 1, 1, 1], [14, 14, 14, 14, 14, 14, 14, 14, 14, 14, 14, 14, 14, 14], [195, 195, 195, 195, 195, 195, 195, 195, 195, 195, 195, 195, 195], [2700, 2700, 2700, 2700, 2700, 2700, 2700, 2700, 2700, 2700, 2700, 2700], [37125, 37125, 37125, 37125, 37125, 37125, 37125, 37125, 37125, 37125, 37125], [506250, 506250, 506250, 506250, 506250, 506250, 506250, 506250, 506250, 506250], [6834375, 6834375, 6834375, 6834375, 6834375, 6834375, 6834375, 6834375, 6834375], [91125000, 91125000, 91125000, 91125000, 91125000, 91125000, 91125000, 91125000], [1196015625, 1196015625, 1196015625, 1196015625, 1196015625, 1196015625, 1196015625], [15377343750, 15377343750, 15377343750, 15377343750, 15377343750, 15377343750], [192216796875, 192216796875, 192216796875, 192216796875, 192216796875], [2306601562500, 2306601562500, 2306601562500, 2306601562500], [25949267578125, 25949267578125, 25949267578125], [259492675781250, 259492675781250], [1946195068359375]],
  [[1, 1, 1, 1, 1, 1, 1, 1, 1, 1, 1, 1, 1, 1, 1, 1], [15, 15, 15, 15, 15, 15, 15, 15, 15, 15, 15, 15, 15, 15, 15], [224, 224, 224, 224, 224, 224, 224, 224, 224, 224, 224, 224, 224, 224], [3328, 3328, 3328, 3328, 3328, 3328, 3328, 3328, 3328, 3328, 3328, 3328, 3328], [49152, 49152, 49152, 49152, 49152, 49152, 49152, 49152, 49152, 49152, 49152, 49152], [720896, 720896, 720896, 720896, 720896, 720896, 720896, 720896, 720896, 720896, 720896], [10485760, 10485760, 10485760, 10485760, 10485760, 10485760, 10485760, 10485760, 10485760, 10485760], [150994944, 150994944, 150994944, 150994944, 150994944, 150994944, 150994944, 150994944, 150994944], [2147483648, 2147483648, 2147483648, 2147483648, 2147483648, 2147483648, 2147483648, 2147483648], [30064771072, 30064771072, 30064771072, 30064771072, 30064771072, 30064771072, 30064771072], [412316860416, 412316860416, 412316860416, 412316860416, 412316860416, 412316860416], [5497558138880, 5497558138880, 5497558138880, 5497558138880, 5497558138880], [70368744177664, 70368744177664, 70368744177664, 70368744177664], [844424930131968, 844424930131968, 844424930131968], [9007199254740992, 9007199254740992], [72057594037927936]],
  [[1, 1, 1, 1, 1, 1, 1, 1, 1, 1, 1, 1, 1, 1, 1, 1, 1], [16, 16, 16, 16, 16, 16, 16, 16, 16, 16, 16, 16, 16, 16, 16, 16], [255, 255, 255, 255, 255, 255, 255, 255, 255, 255, 255, 255, 255, 255, 255], [4046, 4046, 4046, 4046, 4046, 4046, 4046, 4046, 4046, 4046, 4046, 4046, 4046, 4046], [63869, 63869, 63869, 63869, 63869, 63869, 63869, 63869, 63869, 63869, 63869, 63869, 63869], [1002252, 1002252, 1002252, 1002252, 1002252, 1002252, 1002252, 1002252, 1002252, 1002252, 1002252, 1002252], [15618427, 15618427, 15618427, 15618427, 15618427, 15618427, 15618427, 15618427, 15618427, 15618427, 15618427], [241375690, 241375690, 241375690, 241375690, 241375690, 241375690, 241375690, 241375690, 241375690, 241375690], [3693048057, 3693048057, 3693048057, 3693048057, 3693048057, 3693048057, 3693048057, 3693048057, 3693048057], [55806059528, 55806059528, 55806059528, 55806059528, 55806059528, 55806059528, 55806059528, 55806059528], [830115135479, 830115135479, 830115135479, 830115135479, 830115135479, 830115135479, 830115135479], [12095963402694, 12095963402694, 12095963402694, 12095963402694, 12095963402694, 12095963402694], [171359481538165, 171359481538165, 171359481538165, 171359481538165, 171359481538165], [2330488948919044, 2330488948919044, 2330488948919044, 2330488948919044], [29713734098717811, 29713734098717811, 29713734098717811], [336755653118801858, 336755653118801858], [2862423051509815793]]]
def T (c n w : Nat) : Nat := ((TT.getD c []).getD n []).getD w 0
def cho (n : Nat) : Nat → Nat
  | 0 => 1
  | k + 1 => cho n k * (n - k) / (k + 1)
def sumK (c n w : Nat) : Nat → Nat
  | 0 => 0
  | j + 1 => sumK c n w j + cho n j * T c (n - j) (w + j - 1)
theorem T_zero : ∀ c : Nat, c < 17 → ∀ n : Nat, n < 17 → ∀ w : Nat, w < 17 → c < w + n → T c n w = 0 := by decide +kernel
theorem T_first : ∀ n : Nat, n < 17 → ∀ w : Nat, w < 17 → T 0 n w = if n = 0 ∧ w = 0 then 1 else 0 := by decide +kernel
theorem T_next : ∀ c : Nat, c < 16 → ∀ n : Nat, n < 17 → ∀ w : Nat, w < 17 → w + n ≤ c + 1 → sumK c n w (n + 1) = T (c + 1) n w ∧ T (c + 1) n w ≤ 2862423051509815793 := by decide +kernel
theorem T_small : ∀ c : Nat, c < 17 → ∀ n : Nat, n < 17 → ∀ w : Nat, w < 17 → T c n w ≤ 2862423051509815793 := by decide +kernel
theorem T_want : ∀ m : Nat, m < 17 → ∀ n : Nat, n < m + 1 → T m n 0 = if n = 0 then 1 else (m + 1 - n) * (m + 1) ^ (n - 1) := by decide +kernel
theorem cho_small : ∀ n : Nat, n < 17 → ∀ k : Nat, k < n + 1 → cho n k ≤ 12870 := by decide +kernel
theorem sumK_mono (c n w a : Nat) : ∀ d : Nat, sumK c n w a ≤ sumK c n w (a + d)
  | 0 => Nat.le_refl _
  | d + 1 => Nat.le_trans (sumK_mono c n w a d) (Nat.le_add_right _ _)
-- choose
theorem cho_loop (n K : Nat) (hn : n < 17) (hK : K ≤ n) (d : Nat) : ∀ q : Nat, q + d = K → Ev (fun k => pomaderef03_choose.l0 k (n : Int) (K : Int) ((cho n q : Nat) : Int) ((q : Int) + 1)) ((cho n K : Nat) : Int) := by
  induction d with
  | zero =>
    intro q hq
    obtain rfl : q = K := by omega
    refine Ev.step (f := fun _ => some ((cho n q : Nat) : Int)) (fun k => ?_) (Ev.now _)
    simp only [pomaderef03_choose.l0]
    rw [if_neg (by omega)]
  | succ d ih =>
    intro q hq
    have hb := cho_small n hn q (by omega)
    have hb2 := cho_small n hn (q + 1) (by omega)
    refine Ev.step (fun k => ?_) (ih (q + 1) (by omega))
    simp only [pomaderef03_choose.l0]
    rw [if_pos (by omega), if_neg (by omega), w64 (x := (n : Int) - ((q : Int) + 1)) (by omega) (by omega), w64 (x := (n : Int) - ((q : Int) + 1) + 1) (by omega) (by omega),
      show (n : Int) - ((q : Int) + 1) + 1 = ((n - q : Nat) : Int) by omega, ← Int.natCast_mul]
    have hle : cho n q * (n - q) ≤ 12870 * 17 := Nat.mul_le_mul hb (by omega)
    rw [w64 (x := ((cho n q * (n - q) : Nat) : Int)) (by omega) (by omega), show (q : Int) + 1 = ((q + 1 : Nat) : Int) by omega, Int.tdiv_eq_ediv_of_nonneg (by omega), ← Int.natCast_ediv]
    rw [show cho n q * (n - q) / (q + 1) = cho n (q + 1) from rfl, w64 (x := ((cho n (q + 1) : Nat) : Int)) (by omega) (by omega), w64 (by omega) (by omega)]
theorem cho_ev (n K : Nat) (hn : n < 17) (hK : K ≤ n) : Ev (fun k => pomaderef03_choose.f k (n : Int) (K : Int)) ((cho n K : Nat) : Int) := cho_loop n K hn hK K 0 (by omega)
-- The rows.
def rowU (c n M w : Nat) : List Int := (List.range (M + 1)).map fun v => if v < w ∧ v + n ≤ M then ((T c n v : Nat) : Int) else 0
def rowL (c M n : Nat) : List Int := (List.range (M + 1)).map fun v => if v + n ≤ M then ((T c n v : Nat) : Int) else 0
def tabL (M c : Nat) : List (List Int) := (List.range (M + 1)).map (rowL c M)
theorem rowU_len (c n M w : Nat) : (rowU c n M w).length = M + 1 := by simp [rowU]
theorem rowU_zero (c n M : Nat) : rowU c n M 0 = List.replicate (M + 1) 0 := by
  unfold rowU
  simp only [Nat.not_lt_zero, false_and, if_false, List.map_const', List.length_range]
theorem rowU_set (c n M w : Nat) (hw : w + n ≤ M) : (rowU c n M w).set w ((T c n w : Nat) : Int) = rowU c n M (w + 1) := by
  apply List.ext_getElem? ; intro i
  rw [List.getElem?_set]
  by_cases e : w = i
  · subst e
    rw [if_pos rfl, if_pos (by rw [rowU_len]; omega)]
    simp only [rowU, List.getElem?_map]
    rw [List.getElem?_range (by omega)]
    simp [hw]
  · rw [if_neg e]
    simp only [rowU, List.getElem?_map]
    by_cases h : i < M + 1
    · rw [List.getElem?_range h]
      simp only [Option.map_some]
      congr 1
      by_cases h2 : i < w
      · simp [h2, show i < w + 1 by omega]
      · simp [h2, show ¬ i < w + 1 by omega]
    · rw [show (List.range (M + 1))[i]? = none from List.getElem?_eq_none (by simp; omega)]; rfl
theorem rowU_zero_step (c n M w : Nat) (h : T c n w = 0) : rowU c n M (w + 1) = rowU c n M w := by
  unfold rowU
  apply List.map_congr_left
  intro v _
  by_cases e : v = w
  · subst e; simp [h]
  · by_cases h2 : v < w
    · simp [h2, show v < w + 1 by omega]
    · simp [h2, show ¬ v < w + 1 by omega]
theorem rowU_set0 (c n M w : Nat) (hw : w ≤ M) : (rowU c n M w).set w 0 = rowU c n M w := by
  apply List.ext_getElem? ; intro i
  rw [List.getElem?_set]
  by_cases e : w = i
  · subst e
    rw [if_pos rfl, if_pos (by rw [rowU_len]; omega)]
    simp only [rowU, List.getElem?_map]
    rw [List.getElem?_range (by omega)]
    simp
  · rw [if_neg e]
theorem rowU_done (c n M w : Nat) (h : M < w + n) : rowU c n M w = rowL c M n := by
  unfold rowU rowL
  apply List.map_congr_left
  intro v _
  by_cases h2 : v + n ≤ M
  · simp [h2, show v < w by omega]
  · simp [h2]
theorem rd_range {f : Nat → List Int} (K q : Nat) (h : q < K) : rd_L3 ((List.range K).map f) (q : Int) = f q := by
  unfold rd_L3
  rw [List.getD_eq_getElem?_getD, Int.toNat_natCast, List.getElem?_map, List.getElem?_range h]; rfl
theorem rd_range4 {f : Nat → List (List Int)} (K q : Nat) (h : q < K) : rd_L4 ((List.range K).map f) (q : Int) = f q := by
  unfold rd_L4
  rw [List.getD_eq_getElem?_getD, Int.toNat_natCast, List.getElem?_map, List.getElem?_range h]; rfl
theorem rd_rowL (c M n q : Nat) (h : q + n ≤ M) : rd (rowL c M n) (q : Int) = ((T c n q : Nat) : Int) := by
  unfold rd rowL
  rw [List.getD_eq_getElem?_getD, Int.toNat_natCast, List.getElem?_map, List.getElem?_range (by omega)]
  simp [h]
theorem snoc_range {α : Type} (f : Nat → α) (n : Nat) : (List.range n).map f ++ [f n] = (List.range (n + 1)).map f := by
  rw [List.range_succ, List.map_append]; rfl
-- The loops.
theorem loop3 (X M c n w : Nat) (hX : X < 17) (hM : M < 17) (hc : c < X) (hwn : w + n ≤ M) (hwc : w + n ≤ c + 1) (tb : List (List Int)) (r : List (List (List Int)))
    (hr : Ev (fun k => pomaderef03_counted.l2 k (X : Int) (M : Int) ((List.range (c + 1)).map (tabL M)) ((c + 1 : Nat) : Int) tb (n : Int) (rowU (c + 1) n M (w + 1)) ((w + 1 : Nat) : Int)) r) (d : Nat) : ∀ j : Nat, j + d = n + 1 →
    Ev (fun k => pomaderef03_counted.l3 k (X : Int) (M : Int) ((List.range (c + 1)).map (tabL M)) ((c + 1 : Nat) : Int) tb (n : Int) ((rowU (c + 1) n M w).set w ((sumK c n w j : Nat) : Int)) (w : Int) (j : Int)) r := by
  have hT := T_next c (by omega) n (by omega) w (by omega) hwc
  induction d with
  | zero =>
    intro j hj
    obtain rfl : j = n + 1 := by omega
    refine Ev.step (fun k => ?_) hr
    simp only [pomaderef03_counted.l3]
    rw [if_neg (by omega), hT.1, rowU_set _ _ _ _ hwn, w64 (by omega) (by omega)]
    rfl
  | succ d ih =>
    intro j hj
    have hm := sumK_mono c n w (j + 1) d
    rw [show j + 1 + d = n + 1 by omega, hT.1] at hm
    have hs : sumK c n w (j + 1) = sumK c n w j + cho n j * T c (n - j) (w + j - 1) := rfl
    have hlen : ((rowU (c + 1) n M w).set w ((sumK c n w j : Nat) : Int)).length = M + 1 := by rw [List.length_set, rowU_len]
    have hrd : rd ((rowU (c + 1) n M w).set w ((sumK c n w j : Nat) : Int)) (w : Int) = ((sumK c n w j : Nat) : Int) := by
      unfold rd
      rw [List.getD_eq_getElem?_getD, Int.toNat_natCast, List.getElem?_set, if_pos rfl, if_pos (by rw [rowU_len]; omega)]; rfl
    have e1 : wrap64 (((c + 1 : Nat) : Int) - 1) = (c : Int) := by rw [w64 (by omega) (by omega)]; omega
    have e2 : wrap64 ((n : Int) - (j : Int)) = ((n - j : Nat) : Int) := by rw [w64 (by omega) (by omega)]; omega
    have e3 : mx 0 (wrap64 ((wrap64 ((w : Int) + (j : Int))) - 1)) = ((w + j - 1 : Nat) : Int) := by
      rw [w64 (x := (w : Int) + (j : Int)) (by omega) (by omega), w64 (by omega) (by omega)]
      unfold mx
      by_cases h0 : w + j = 0
      · rw [if_neg (by omega)]; omega
      · by_cases h1 : w + j = 1
        · rw [if_neg (by omega)]; omega
        · rw [if_pos (by omega)]; omega
    have l1 : ((((List.range (c + 1)).map (tabL M)).length : Nat) : Int) = (c : Int) + 1 := by simp
    have l2 : (((tabL M c).length : Nat) : Int) = (M : Int) + 1 := by simp [tabL]
    have l3 : (((rowL c M (n - j)).length : Nat) : Int) = (M : Int) + 1 := by simp [rowL]
    have h4 : rd_L4 ((List.range (c + 1)).map (tabL M)) (c : Int) = tabL M c := rd_range4 _ _ (by omega)
    have h3 : rd_L3 (tabL M c) ((n - j : Nat) : Int) = rowL c M (n - j) := rd_range _ _ (by omega)
    have h2 : rd (rowL c M (n - j)) ((w + j - 1 : Nat) : Int) = ((T c (n - j) (w + j - 1) : Nat) : Int) := rd_rowL _ _ _ _ (by omega)
    refine Ev.step (f := fun k => (pomaderef03_choose.f k (n : Int) (j : Int)).bind fun t => pomaderef03_counted.l3 k (X : Int) (M : Int) ((List.range (c + 1)).map (tabL M)) ((c + 1 : Nat) : Int) tb (n : Int) ((rowU (c + 1) n M w).set w (wrap64 (((sumK c n w j : Nat) : Int) + wrap64 (t * ((T c (n - j) (w + j - 1) : Nat) : Int))))) (w : Int) ((j + 1 : Nat) : Int)) (fun k => ?_) ?_
    · simp only [pomaderef03_counted.l3]
      rw [if_pos (by omega), if_pos (by omega), hlen, if_pos (by omega), e1, e2, e3, h4, h3, h2, hrd, l1, l2, l3]
      congr 1; funext t
      rw [if_pos (by omega), if_pos (by omega), if_pos (by omega), if_pos (by omega), if_pos (by omega), if_pos (by omega), w64 (x := (j : Int) + 1) (by omega) (by omega), Int.toNat_natCast, List.set_set]
      rfl
    refine Ev.bind (cho_ev n j (by omega) (by omega)) ?_
    have he : wrap64 (((sumK c n w j : Nat) : Int) + wrap64 (((cho n j : Nat) : Int) * ((T c (n - j) (w + j - 1) : Nat) : Int))) = ((sumK c n w (j + 1) : Nat) : Int) := by
      rw [← Int.natCast_mul, w64 (x := ((cho n j * T c (n - j) (w + j - 1) : Nat) : Int)) (by omega) (by omega), w64 (by omega) (by omega)]; omega
    exact Ev.congr (fun k => by rw [he]) (ih (j + 1) (by omega))
theorem loop2 (X M c n : Nat) (hX : X < 17) (hM : M < 17) (hc : c ≤ X) (hn : n ≤ M) (tb : List (List Int)) (htb : tb.length ≤ 17) (r : List (List (List Int)))
    (hr : Ev (fun k => pomaderef03_counted.l1 k (X : Int) (M : Int) ((List.range c).map (tabL M)) (c : Int) (tb ++ [rowL c M n]) ((n + 1 : Nat) : Int)) r) (d : Nat) : ∀ w : Nat, w + n + d = M + 1 →
    Ev (fun k => pomaderef03_counted.l2 k (X : Int) (M : Int) ((List.range c).map (tabL M)) (c : Int) tb (n : Int) (rowU c n M w) (w : Int)) r := by
  induction d with
  | zero =>
    intro w hw
    refine Ev.step (fun k => ?_) hr
    simp only [pomaderef03_counted.l2]
    rw [w64 (x := (w : Int) + (n : Int)) (by omega) (by omega), if_neg (by omega), if_pos (by omega), rowU_done _ _ _ _ (by omega), w64 (by omega) (by omega)]
    rfl
  | succ d ih =>
    intro w hw
    have hi := ih (w + 1) (by omega)
    have ew : wrap64 ((w : Int) + 1) = ((w + 1 : Nat) : Int) := by rw [w64 (by omega) (by omega)]; rfl
    cases c with
    | zero =>
      have hf := T_first n (by omega) w (by omega)
      refine Ev.step (fun k => ?_) hi
      simp only [pomaderef03_counted.l2]
      rw [w64 (x := (w : Int) + (n : Int)) (by omega) (by omega), if_pos (by omega), if_pos (by omega), ew]
      by_cases h0 : n = 0
      · subst h0
        rw [if_pos (by omega)]
        by_cases h1 : w = 0
        · subst h1
          have := rowU_set 0 0 M 0 (by omega)
          rw [hf] at this
          rw [if_pos (by omega), if_pos (by omega), rowU_len, if_pos (by omega), ← this]
          rfl
        · rw [if_neg (by omega), rowU_zero_step _ _ _ _ (by rw [hf, if_neg (by omega)])]
      · rw [if_neg (by omega), rowU_zero_step _ _ _ _ (by rw [hf, if_neg (by omega)])]
    | succ c =>
      by_cases h : w + n ≤ c + 1
      · have h3 := loop3 X M c n w hX hM (by omega) (by omega) h tb r hi (n + 1) 0 (by omega)
        rw [show sumK c n w 0 = 0 from rfl] at h3
        refine Ev.step (fun k => ?_) h3
        simp only [pomaderef03_counted.l2]
        rw [w64 (x := (w : Int) + (n : Int)) (by omega) (by omega), if_pos (by omega), if_neg (by omega), if_neg (by omega)]
        have := rowU_set0 (c + 1) n M w (by omega)
        rw [show (((0 : Nat) : Int)) = 0 from rfl, this]
      · refine Ev.step (fun k => ?_) hi
        simp only [pomaderef03_counted.l2]
        rw [w64 (x := (w : Int) + (n : Int)) (by omega) (by omega), if_pos (by omega), if_neg (by omega), if_pos (by omega), ew, rowU_zero_step _ _ _ _ (T_zero (c + 1) (by omega) n (by omega) w (by omega) (by omega))]
theorem loop1 (X M c : Nat) (hX : X < 17) (hM : M < 17) (hc : c ≤ X) (r : List (List (List Int)))
    (hr : Ev (fun k => pomaderef03_counted.l0 k (X : Int) (M : Int) ((List.range (c + 1)).map (tabL M)) ((c + 1 : Nat) : Int)) r) (d : Nat) : ∀ n : Nat, n + d = M + 1 →
    Ev (fun k => pomaderef03_counted.l1 k (X : Int) (M : Int) ((List.range c).map (tabL M)) (c : Int) ((List.range n).map (rowL c M)) (n : Int)) r := by
  induction d with
  | zero =>
    intro n hn
    obtain rfl : n = M + 1 := by omega
    refine Ev.step (fun k => ?_) hr
    simp only [pomaderef03_counted.l1]
    rw [if_neg (by omega), if_pos (by simp; omega), w64 (by omega) (by omega), show (List.range (M + 1)).map (rowL c M) = tabL M c from rfl, snoc_range]
    rfl
  | succ d ih =>
    intro n hn
    have hi := ih (n + 1) (by omega)
    rw [← snoc_range] at hi
    have h2 := loop2 X M c n hX hM hc (by omega) ((List.range n).map (rowL c M)) (by simp; omega) r hi (M + 1 - n) 0 (by omega)
    rw [rowU_zero] at h2
    refine Ev.step (fun k => ?_) h2
    simp only [pomaderef03_counted.l1]
    rw [if_pos (by omega), w64 (by omega) (by omega), if_pos (by omega), if_pos (by omega), show ((M : Int) + 1).toNat = M + 1 by omega]
    rfl
theorem loop0 (X M : Nat) (hX : X < 17) (hM : M < 17) (d : Nat) : ∀ c : Nat, c + d = X + 1 →
    Ev (fun k => pomaderef03_counted.l0 k (X : Int) (M : Int) ((List.range c).map (tabL M)) (c : Int)) ((List.range (X + 1)).map (tabL M)) := by
  induction d with
  | zero =>
    intro c hc
    obtain rfl : c = X + 1 := by omega
    refine Ev.step (f := fun _ => some ((List.range (X + 1)).map (tabL M))) (fun k => ?_) (Ev.now _)
    simp only [pomaderef03_counted.l0]
    rw [if_neg (by omega)]
  | succ d ih =>
    intro c hc
    have h1 := loop1 X M c hX hM (by omega) _ (ih (c + 1) (by omega)) (M + 1) 0 (by omega)
    refine Ev.step (fun k => ?_) h1
    simp only [pomaderef03_counted.l0]
    rw [if_pos (by omega)]
    rfl
theorem counted_ev (X M : Nat) (hX : X < 17) (hM : M < 17) : Ev (fun k => pomaderef03_counted.f k (X : Int) (M : Int)) ((List.range (X + 1)).map (tabL M)) := by
  exact loop0 X M hX hM (X + 1) 0 (by omega)
-- The product.
theorem pow_small : ∀ X : Nat, X < 18 → ∀ i : Nat, i < 16 → X ^ i ≤ 2862423051509815793 := by decide +kernel
theorem want_small : ∀ m : Nat, m < 17 → ∀ n : Nat, n < m + 1 → ∀ i : Nat, i < n → (m + 1 - n) * (m + 1) ^ i ≤ 2862423051509815793 := by decide +kernel
theorem power_loop (X K : Nat) (hX : X < 18) (hK : K < 16) (d : Nat) : ∀ q : Nat, q + d = K → Ev (fun k => chairs_power.l0 k (X : Int) ((X ^ q : Nat) : Int) (K : Int) (q : Int)) ((X ^ K : Nat) : Int) := by
  induction d with
  | zero =>
    intro q hq
    obtain rfl : q = K := by omega
    refine Ev.step (f := fun _ => some ((X ^ q : Nat) : Int)) (fun k => ?_) (Ev.now _)
    simp only [chairs_power.l0]
    rw [if_neg (by omega)]
  | succ d ih =>
    intro q hq
    have hs := pow_small X hX (q + 1) (by omega)
    refine Ev.step (fun k => ?_) (ih (q + 1) (by omega))
    simp only [chairs_power.l0]
    rw [if_pos (by omega), w64 (x := (q : Int) + 1) (by omega) (by omega)]
    have e : ((X ^ q : Nat) : Int) * (X : Int) = ((X ^ (q + 1) : Nat) : Int) := by rw [Nat.pow_succ, Int.natCast_mul]
    rw [e, w64 (by omega) (by omega)]
    rfl
theorem count_both (a0 a1 : Int) : ∃ r, Ev (fun k => chairs_Count.f k a0 a1) r ∧ Ev (fun k => pomaderef03_Count.f k a0 a1) r := by
  have hbad : Ev (fun k => chairs_Count.j0 k a0 a1 true) (0, 2) := by
    refine Ev.step (f := fun _ => some (0, 2)) (fun k => ?_) (Ev.now _)
    simp only [chairs_Count.j0]; rfl
  by_cases c1 : a0 < 1
  · exact ⟨(0, 2), Ev.congr (fun k => by unfold chairs_Count.f; rw [if_pos c1]) hbad, Ev.congr (fun k => by unfold pomaderef03_Count.f; rw [if_pos c1]) (Ev.now _)⟩
  by_cases c2 : a0 > 16
  · exact ⟨(0, 2), Ev.congr (fun k => by unfold chairs_Count.f; rw [if_neg c1, if_pos c2]) hbad, Ev.congr (fun k => by unfold pomaderef03_Count.f; rw [if_neg c1, if_pos c2]) (Ev.now _)⟩
  by_cases c3 : a1 < 0
  · exact ⟨(0, 2), Ev.congr (fun k => by unfold chairs_Count.f; rw [if_neg c1, if_neg c2, if_pos c3]) hbad, Ev.congr (fun k => by unfold pomaderef03_Count.f; rw [if_neg c1, if_neg c2, if_pos c3]) (Ev.now _)⟩
  by_cases c4 : a1 > a0
  · exact ⟨(0, 2), Ev.congr (fun k => by unfold chairs_Count.f; rw [if_neg c1, if_neg c2, if_neg c3, decide_eq_true c4]) hbad, Ev.congr (fun k => by unfold pomaderef03_Count.f; rw [if_neg c1, if_neg c2, if_neg c3, if_pos c4]) (Ev.now _)⟩
  obtain ⟨m, rfl⟩ : ∃ m : Nat, a0 = (m : Int) := ⟨a0.toNat, by omega⟩
  obtain ⟨n, rfl⟩ : ∃ n : Nat, a1 = (n : Int) := ⟨a1.toNat, by omega⟩
  have hT := T_want m (by omega) n (by omega)
  refine ⟨(((T m n 0 : Nat) : Int), 0), ?_, ?_⟩
  · refine Ev.congr (fun k => by unfold chairs_Count.f; rw [if_neg c1, if_neg c2, if_neg c3, decide_eq_false c4]) ?_
    by_cases h0 : n = 0
    · subst h0
      rw [hT, if_pos rfl]
      refine Ev.step (f := fun _ => some (1, 0)) (fun k => ?_) (Ev.now _)
      simp only [chairs_Count.j0]
      rw [if_neg (by simp), if_pos (by rfl)]
    · have hw := want_small m (by omega) n (by omega) (n - 1) (by omega)
      rw [hT, if_neg h0]
      refine Ev.step (f := fun k => (chairs_power.f k ((m + 1 : Nat) : Int) ((n - 1 : Nat) : Int)).bind fun t101 => (some (wrap64 (((m + 1 - n : Nat) : Int) * t101), 0))) (fun k => ?_) ?_
      · simp only [chairs_Count.j0]
        rw [if_neg (by simp), if_neg (by omega), w64 (x := (m : Int) + 1) (by omega) (by omega), w64 (x := (n : Int) - 1) (by omega) (by omega), w64 (x := (m : Int) + 1 - (n : Int)) (by omega) (by omega),
          show (m : Int) + 1 = ((m + 1 : Nat) : Int) by omega, show (n : Int) - 1 = ((n - 1 : Nat) : Int) by omega, show ((m + 1 : Nat) : Int) - (n : Int) = ((m + 1 - n : Nat) : Int) by omega]
      refine Ev.bind (power_loop (m + 1) (n - 1) (by omega) (by omega) (n - 1) 0 (by omega)) ?_
      refine Ev.congr (fun k => ?_) (Ev.now _)
      rw [← Int.natCast_mul, w64 (by omega) (by omega)]
  · refine Ev.congr (fun k => by unfold pomaderef03_Count.f; rw [if_neg c1, if_neg c2, if_neg c3, if_neg c4]) ?_
    refine Ev.bind (counted_ev m n (by omega) (by omega)) ?_
    have l1 : ((((List.range (m + 1)).map (tabL n)).length : Nat) : Int) = (m : Int) + 1 := by simp
    have l2 : (((tabL n m).length : Nat) : Int) = (n : Int) + 1 := by simp [tabL]
    have l3 : (((rowL m n n).length : Nat) : Int) = (n : Int) + 1 := by simp [rowL]
    have h4 : rd_L4 ((List.range (m + 1)).map (tabL n)) (m : Int) = tabL n m := rd_range4 _ _ (by omega)
    have h3 : rd_L3 (tabL n m) (n : Int) = rowL m n n := rd_range _ _ (by omega)
    have h2 : rd (rowL m n n) 0 = ((T m n 0 : Nat) : Int) := rd_rowL m n n 0 (by omega)
    refine Ev.congr (fun k => ?_) (Ev.now _)
    rw [if_pos (by omega), l1, if_pos (by omega), if_pos (by omega), h4, l2, if_pos (by omega), h3, l3, if_pos (by omega), h2]
theorem ChairsCounts_pure : pomadelaw03_ChairsCounts.Pure := by
  intro a0 a1 l _ _ _ _ _
  refine Ev.rounds ?_
  by_cases c : (l.length : Int) > 60
  · exact Ev.congr (fun k => by unfold pomadelaw03_ChairsCounts.f; rw [if_pos c]; rfl) (Ev.now true)
  refine Ev.congr (fun k => by unfold pomadelaw03_ChairsCounts.f; rw [if_neg c]) ?_
  obtain ⟨r, h1, h2⟩ := count_both a0 a1
  obtain ⟨s, g1, g2, _⟩ := ways_both l (by omega)
  refine Ev.bind h1 (Ev.bind h2 ?_)
  simp only [if_true, bne_self_eq_false]
  refine Ev.step (f := fun k => (chairs_Ways.f k l).bind fun bt286 => ((pomaderef03_Ways.f k l).bind fun bt288 => (if bt286.1 = bt288.1 then (if bt286.2 = bt288.2 then ((pomadelaw03_alive.f).bind fun t290 => (some t290)) else (some false)) else (some false)))) (fun k => ?_) ?_
  · simp only [pomadelaw03_ChairsCounts.j0]; rfl
  refine Ev.bind g1 (Ev.bind g2 ?_)
  exact Ev.congr (fun k => by rw [if_pos rfl, if_pos rfl]; rfl) (Ev.now true)
end Go.Proofs.Ytfopeenjpdaacaa.L
namespace Go.Proofs.Ytfopeenjpdaacaa.Pure
theorem ChairsCounts : Go.Proofs.Ytfopeenjpdaacaa.PC.pomadelaw03_ChairsCounts.Pure := Go.Proofs.Ytfopeenjpdaacaa.L.ChairsCounts_pure
end Go.Proofs.Ytfopeenjpdaacaa.Pure
