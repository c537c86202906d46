/- The iterator over rows of numbers: its closure hands out the rows one after the other. -/
import Derived.Test.YtfopeenjpdaacaaHInit
import Derived.RangeFuncBox
import Derived.RangeFuncNested
import Derived.RangeFuncCalls
import Derived.RangeFuncLeaves
import Derived.TacticsInMore
import Derived.LoopIn
import Derived.IntWalk
namespace Go.Proofs.Ytfopeenjpdaacaa.PC
open Go.RowKit Go.Proofs.YtfopeenjpdaacaaW.PrintWords Go.Proofs.YtfopeenjpdaacaaW.PrintLast Go.Proofs.YtfopeenjpdaacaaW.PrintMore
/-- what a round of the caller keeps -/
structure KpM (Bs : Nat) (A B : World) : Prop where
  size : A.heap.size ≤ B.heap.size
  box : B.heap[Bs]? = A.heap[Bs]?
  same : ∀ (r : Nat) (cells : Array Value) (t : Nat), A.heap[r]? = some (.cells cells t (0, 0)) → t = 65 ∨ t = 66 ∨ t = 82 ∨ t = 92 → B.heap[r]? = A.heap[r]?
def MovesYield (l Bs n : Nat) (J : Nat → World → Prop) : Prop := ∀ (k : Nat) (v : Value) (W1 : World), J k W1 → k < n → RowV W1 v (chairs_Spread.row (chairs_Spread.known k) (k + 1)) → YieldAt Fence.wide 3 Try.prog l #[v] W1 fun e W' => e = .returned (.bool true) ∧ J (k + 1) W' ∧ KpM Bs W1 W'
theorem KnV.kp {B0 : Nat} {A B : World} {Bs : Nat} {kv : Value} {rows : List (List Nat)} (h : KnV B0 A kv rows) (k : KpM Bs A B) : KnV B0 B kv rows := by
  obtain ⟨vals, h1, h2⟩ := h
  refine ⟨vals, own_move h1 (fun r hr => ?_), fun i hi => (h2 i hi).keep fun r cells t hr ht => k.same r cells t hr (.inr ht)⟩
  obtain ⟨cells, hc⟩ := own_typed h1 r hr
  exact k.same r cells 65 hc (.inl rfl)
theorem info65 : (Try.prog.info? 65).map (fun i => (i.zero, i.size, i.bytes)) = some (some (.slice none 0 0), 1, 24) := by kernel_rfl
/-- the state at the head of the outer loop -/
structure LSt (B0 : Nat) (J : Nat → World → Prop) (Bs n k : Nat) (kv : Value) (W : World) : Prop where
  size : B0 ≤ W.heap.size
  known : KnV B0 W kv (chairs_Spread.known k)
  j : J k W
  box : W.heap[Bs]? = some (.cells #[.int .i64 (n : Int)] 3 (0, 0))
set_option maxRecDepth 1000000 in
set_option maxHeartbeats 4000000 in
theorem moves_in (l Bs n : Nat) (hn : n ≤ 10) (W : World) (J : Nat → World → Prop) (hJ : ∀ k, Stable W.heap.size (J k)) (hB : W.heap[Bs]? = some (.cells #[.int .i64 (n : Int)] 3 (0, 0))) (hY : MovesYield l Bs n J) (h0 : J 0 W) :
    CallsIn Fence.wide 4 Try.prog 69 #[.func (.yield l) #[] #[], .pointer (some ⟨Bs, 0, none⟩)] W fun e W' => (∃ v, e = .returned v) ∧ J n W' := by
  have HJ := Lib.hid hJ
  have HY := Lib.hid hY
  have H0 := Lib.hid h0
  have HB := Lib.hid hB
  clear hJ hY h0 hB
  refine callsIn_wide.2 ?_
  go_enter Try.func69, Try.ntmps69
  go_wp2_with (go_at_call 70; refine (NewInt_walk 1 (by omega) _).mono ?_; rintro e w' ⟨p0, rfl, hp0, hp1, hb0⟩; have HP0 := Lib.hid hp0; have HP1 := Lib.hid hp1; have HB0 := Lib.hid hb0; clear hp0 hp1 hb0)
  have hK0 := KnV.start (B0 := W.heap.size) HP1.out HB0.out.size
  have hb1 : Below W.heap.size W ((w'.alloc (.cells #[.pointer (some ⟨p0, 0, none⟩)] 66)).alloc (.cells #[.slice (some ⟨w'.heap.size, 0, none⟩) 1 1] 65)) := ((HB0.out.alloc HB0.out.size _).alloc (by have := HB0.out.size; simp; omega) _)
  have hL0 : LSt W.heap.size J Bs n 0 (.slice (some ⟨w'.heap.size + 1, 0, none⟩) 1 1) ((w'.alloc (.cells #[.pointer (some ⟨p0, 0, none⟩)] 66)).alloc (.cells #[.slice (some ⟨w'.heap.size, 0, none⟩) 1 1] 65)) :=
    ⟨hb1.size, hK0, HJ.out 0 _ _ H0.out (.of_below hb1), (hb1.block Bs (block_lt' HB.out)).trans HB.out⟩
  have HL0 := Lib.hid hL0
  clear hK0 hb1 hL0
  go_loopw [3, 4] (fun kv sz wr => ∃ s g cap : Nat, 1 ≤ s ∧ s ≤ n + 1 ∧ sz = .int .i64 (s : Int) ∧ kv = .slice (some ⟨g, 0, none⟩) s cap ∧ LSt W.heap.size J Bs n (s - 1) kv wr) (fun _ sz _ => n + 1 - (intOf sz).toNat)
  case atStart => exact ⟨1, _, _, by omega, by omega, rfl, rfl, HL0.out⟩
  case round =>
    obtain ⟨s, g, cap, hs1, hs2, rfl, rfl, hL⟩ := hrel
    have hBc : wr.cell? ⟨Bs, 0, none⟩ = some (.int .i64 (n : Int)) := by
      have := hL.box
      simp [World.cell?, this]
    have HL := Lib.hid hL
    clear hL HL0
    obtain ⟨wl, rfl⟩ : ∃ wl : World, wl = wr := ⟨_, rfl⟩
    by_cases hlt : s ≤ n
    · have d1 : decide ((s : Int) ≤ (n : Int)) = true := decide_eq_true (by omega)
      obtain ⟨s1, hs1'⟩ : ∃ s1, s1 + 1 = s := ⟨s - 1, by omega⟩
      have e0 : (s : Int) - 1 = (s1 : Int) := by omega
      have HS1 := Lib.hid hs1'
      obtain ⟨P, hP⟩ : ∃ P, s * (s - 1) = P := ⟨_, rfl⟩
      have hPb : P ≤ 90 := by
        rw [← hP]
        exact Nat.mul_le_mul (show s ≤ 10 by omega) (show s - 1 ≤ 9 by omega)
      have e1 : (s : Int) * (s1 : Int) = (P : Int) := by
        rw [← hP, Int.natCast_mul]; congr 1; omega
      have hs9 : s1 < 10 := by omega
      clear hs1'
      obtain ⟨M, hM⟩ : ∃ M, P / 2 + 1 = M := ⟨_, rfl⟩
      have e2 : (P : Int) / 2 + 1 = (M : Int) := by omega
      have hmk : ∀ W : World, (Instr.makeSlice 65 (.int .i64 (M : Int)) (.int .i64 (M : Int))).run Try.prog W = .ok (.slice (some ⟨W.heap.size, 0, none⟩) M M) (W.alloc (.cells (madeCells #[.pointer none] M) 66)) := fun W => run_make_row' 65 66 (.pointer none) 8 Try.underlying65 (by kernel_rfl) rfl .i64 .i64 M (by omega) (by omega) W
      have HI := Lib.hid (ISt.start (J := J (s - 1)) (HJ.out _) wl M HL.out.j)
      have HP := Lib.hid hP
      have HM := Lib.hid hM
      have hMb : M ≤ 46 := by omega
      clear hP hM
      go_wp2
      obtain ⟨q, hq⟩ : ∃ q, wl.heap.size = q := ⟨_, rfl⟩
      obtain ⟨W2, hW2⟩ : ∃ W2, wl.alloc (.cells (madeCells #[.pointer none] M) 66) = W2 := ⟨_, rfl⟩
      have hI1 := HI.out
      rw [hW2] at hI1 ⊢
      rw [hq] at hI1 ⊢
      have HI1 := Lib.hid hI1
      have HW2 := Lib.hid hW2
      have HQ := Lib.hid hq
      clear hI1 hW2 hq HI
      go_loopw [33] (fun i w3 => ∃ ps : List Nat, i = .int .i64 ((ps.length : Nat) : Int) ∧ ISt (J (s - 1)) wl q M ps w3) (fun i _ => M - (intOf i).toNat)
      case atStart => exact ⟨[], rfl, HI1.out⟩
      case round =>
        obtain ⟨ps, rfl, hI⟩ := hrel
        have hMl := hI.hM
        have HI := Lib.hid hI
        clear hI
        obtain ⟨i, hi⟩ : ∃ i, ps.length = i := ⟨_, rfl⟩
        rw [hi] at hMl ⊢
        by_cases hlt2 : i < M
        · have d2 : decide ((i : Int) < (M : Int)) = true := decide_eq_true (by omega)
          have hc := (HI.out.cell (by omega))
          have hst := HI.out.step' (HJ.out _) HL.out.size (by omega)
          rw [hi] at hc hst
          obtain ⟨hc1, hc2⟩ := hc
          have hqw : q < wr.heap.size := block_lt' HI.out.row
          have HST := Lib.hid hst
          have HIL := Lib.hid hi
          clear hst hi
          go_wp2
          go_roundw
          case rel => exact ⟨ps ++ [wr.heap.size], by simp [HIL.out], HST.out⟩
          case measure => simp [intOf]; omega
        · obtain rfl : i = M := by omega
          have d2 : decide ((i : Int) < (i : Int)) = false := decide_eq_false (by omega)
          have hR := HI.out.done hi
          have HR := Lib.hid hR
          have HIL := Lib.hid hi
          obtain ⟨rows, hrows⟩ : ∃ rows, chairs_Spread.known (s - 1) = rows := ⟨_, rfl⟩
          obtain ⟨F, hF⟩ : ∃ F, chairs_Spread.row rows s = F := ⟨_, rfl⟩
          have hlen : rows.length = s := by rw [← hrows, MSpread.known_length]; omega
          have hKN := HL.out.known
          rw [hrows] at hKN
          have HKN := Lib.hid hKN
          have HROWS := Lib.hid hrows
          have HF := Lib.hid hF
          have HLEN := Lib.hid hlen
          have hfb : ∀ x ∈ F, x < 4294967296 := by
            rw [← hF, ← hrows]
            have := MSpread.all_small (n := s - 1) (by omega)
            rwa [show s - 1 + 1 = s by omega] at this
          have HFB := Lib.hid hfb
          clear hfb
          have hst0 : chairs_Spread.befs rows s (s - 0) 0 (List.replicate i 0) = F := by
            rw [← hF]
            unfold chairs_Spread.row
            rw [Nat.sub_zero, HP.out, HM.out]
          have HST0 := Lib.hid hst0
          clear hR hi hrows hF hlen hKN hst0
          go_wp2
          obtain ⟨wo, rfl⟩ : ∃ wo : World, wo = wr := ⟨_, rfl⟩
          go_loopw [42] (fun t w3 => ∃ (b : Nat) (vs : List Nat), b ≤ s ∧ t = .int .i64 (b : Int) ∧ RSt (J (s - 1)) wl q ps vs w3 ∧ Hid (chairs_Spread.befs rows s (s - b) b vs = F)) (fun t _ => s - (intOf t).toNat)
          case atStart => exact ⟨0, _, by omega, rfl, HR.out, HST0⟩
          case round =>
            obtain ⟨b, vs, hb1, rfl, hR3, hG3⟩ := hrel
            have HR3 := Lib.hid hR3
            clear hR3
            by_cases hlt3 : b < s
            · have d3 : decide ((b : Int) < (s : Int)) = true := decide_eq_true (by omega)
              have hs1' := HS1.out
              obtain ⟨af, haf⟩ : ∃ af, af + b = s1 := ⟨s1 - b, by omega⟩
              obtain ⟨c, hc⟩ : ∃ c, chairs_Spread.ch s1 b = c := ⟨_, rfl⟩
              have hcb := MSpread.ch_small s1 (by omega) b (by omega)
              rw [hc] at hcb
              obtain ⟨hc0, hc1⟩ := hcb
              have e5 : (s1 : Int) - (b : Int) = (af : Int) := by omega
              have HC := Lib.hid hc
              obtain ⟨xr, hxr⟩ : ∃ xr, rows.getD b [] = xr := ⟨_, rfl⟩
              obtain ⟨yr, hyr⟩ : ∃ yr, rows.getD af [] = yr := ⟨_, rfl⟩
              have HXR := Lib.hid hxr
              have HYR := Lib.hid hyr
              obtain ⟨G4, hG4⟩ : ∃ G4, chairs_Spread.xs c (b + 1) yr xr 0 vs = G4 := ⟨_, rfl⟩
              have hg3 : chairs_Spread.befs rows s (s - (b + 1)) (b + 1) G4 = F := by
                have h := hG3.out
                rw [show s - b = (s - (b + 1)) + 1 by omega] at h
                simp only [chairs_Spread.befs] at h
                rw [show s - 1 = s1 by omega, hc, hxr, show s1 - b = af by omega, hyr, hG4] at h
                exact h
              have HG3 := Lib.hid hg3
              have HG4 : Hid (chairs_Spread.xs c (b + 1) yr (xr.drop 0) 0 vs = G4) := Lib.hid hG4
              obtain ⟨lx, hlx⟩ : ∃ lx, xr.length = lx := ⟨_, rfl⟩
              have HLX := Lib.hid hlx
              obtain ⟨ly, hly⟩ : ∃ ly, yr.length = ly := ⟨_, rfl⟩
              have HLY := Lib.hid hly
              have hsz := MSpread.sizes (s := s) (b := b) (af := af) (by omega) (by omega)
              rw [HROWS.out, hxr, hyr, hlx, hly, HP.out] at hsz
              obtain ⟨hfit, hlb, hlyb⟩ := hsz
              have hfit2 : lx + ly + b ≤ i + 1 := by have := HM.out; omega
              have HLE4 : Hid (MSpread.Le2 G4 F) := Lib.hid (by rw [← hg3]; exact MSpread.befs_le _ _ _ _ _)
              have hgf := HKN.out.at_ af (by rw [HLEN.out]; omega)
              rw [hyr] at hgf
              obtain ⟨qy, py, hqy, hny⟩ := hgf
              rw [hly] at hqy
              have HNY := Lib.hid hny
              have HQY := Lib.hid hqy
              clear hfit hly hny hqy
              have HAF := Lib.hid haf
              have hbs : b ≤ s1 := by omega
              have hafs : af < s := by omega
              have hgb := HKN.out.at_ b (by rw [HLEN.out]; exact hlt3)
              rw [hxr] at hgb
              obtain ⟨qx, px, hqx, hnx⟩ := hgb
              rw [hlx] at hqx
              have hgw := World.block_lt_of_cell? _ _ hqx
              simp only at hgw
              have HNX := Lib.hid hnx
              have HQX := Lib.hid hqx
              clear hs1' haf hc hxr hyr hG4 hG3 hg3 hlx hnx hqx
              have hb0i : (0 : Int) ≤ (b : Int) := Int.natCast_nonneg _
              have hbsi : (b : Int) < (s : Int) := by omega
              go_wp2_with fail
              refine (choose_at s1 b c hs9 hbs HC.out _).mono ?_
              rintro e w' ⟨rfl, rfl⟩
              go_wp2_with fail
              refine (NewInt_walk c (by omega) _).mono ?_
              rintro e w4 ⟨pw, rfl, hpw, hnw, hbw⟩
              have HPW : Hid (pw ∉ ps) := Lib.hid (HR3.out.notin hpw)
              have HR4 := Lib.hid (HR3.out.later (HJ.out _) hbw)
              have HNW := Lib.hid hnw
              have hqx := (HR4.out.below.cell (p := ⟨g, b, none⟩) hgw).trans HQX.out
              clear hpw hnw hbw
              have hafi : (0 : Int) ≤ (af : Int) := Int.natCast_nonneg _
              have hafj : (af : Int) < (s : Int) := by omega
              go_wp2
              clear hqx
              go_loopw [59] (fun t w5 => ∃ (a : Nat) (vs : List Nat), a ≤ lx ∧ t = .int .i64 (a : Int) ∧ RSt (J (s - 1)) wl q ps vs w5 ∧ Num w5 pw c ∧ Hid (chairs_Spread.xs c (b + 1) yr (xr.drop a) a vs = G4)) (fun t _ => lx - (intOf t).toNat)
              case atStart => exact ⟨0, _, by omega, rfl, HR4.out, HNW.out, HG4⟩
              case round =>
                obtain ⟨a, vs4, ha1, rfl, hR5, hN5, hG4⟩ := hrel
                have HR5 := Lib.hid hR5
                have HN5 := Lib.hid hN5
                clear hR5 hN5
                by_cases hlt4 : a < lx
                · have d4 : decide ((a : Int) < (lx : Int)) = true := decide_eq_true (by omega)
                  have hNXa := HNX.out.below HR5.out.below
                  have hpl : px.length = lx := by rw [hNXa.len, HLX.out]
                  have hcx := hNXa.row.cell a (by omega)
                  have hnx := hNXa.num a (by rw [HLX.out]; exact hlt4)
                  obtain ⟨x, hx⟩ : ∃ x, xr.getD a 0 = x := ⟨_, rfl⟩
                  obtain ⟨pa, hpa⟩ : ∃ pa, px.getD a 0 = pa := ⟨_, rfl⟩
                  rw [hpa] at hcx
                  rw [hx, hpa] at hnx
                  have HXV := Lib.hid hx
                  have HPA := Lib.hid hpa
                  obtain ⟨G5, hG5⟩ : ∃ G5, chairs_Spread.ys (c * x) (b + 1) a yr 0 vs4 = G5 := ⟨_, rfl⟩
                  have hg4 : chairs_Spread.xs c (b + 1) yr (xr.drop (a + 1)) (a + 1) G5 = G4 := by
                    have h := hG4.out
                    rw [List.drop_eq_getElem_cons (show a < xr.length by rw [HLX.out]; exact hlt4)] at h
                    have e : xr[a]'(by rw [HLX.out]; exact hlt4) = x := by rw [← hx]; simp [List.getD_eq_getElem?_getD, HLX.out, hlt4]
                    rw [e] at h
                    simp only [chairs_Spread.xs] at h
                    rw [hG5] at h
                    exact h
                  have HG4' := Lib.hid hg4
                  have HG5 : Hid (chairs_Spread.ys (c * x) (b + 1) a (yr.drop 0) 0 vs4 = G5) := Lib.hid hG5
                  have HLE5 : Hid (MSpread.Le2 G5 F) := Lib.hid ((by rw [← hg4]; exact MSpread.xs_le _ _ _ _ _ _ : MSpread.Le2 G5 G4).trans HLE4.out)
                  have hqy := (HR5.out.below.cell (p := ⟨g, af, none⟩) hgw).trans HQY.out
                  have hpaw : pa < wl.heap.size := by
                    rw [← hpa]; exact (HNX.out.num a (by rw [HLX.out]; exact hlt4)).lt
                  clear hNXa hpl hnx hx hpa hG5 hg4 hG4
                  have ha0i : (0 : Int) ≤ (a : Int) := Int.natCast_nonneg _
                  have hali : (a : Int) < (lx : Int) := by omega
                  go_wp2
                  clear hcx hqy
                  go_loopw [69] (fun t w6 => ∃ (k : Nat) (vs : List Nat), k ≤ ly ∧ t = .int .i64 (k : Int) ∧ RSt (J (s - 1)) wl q ps vs w6 ∧ Num w6 pw c ∧ Hid (chairs_Spread.ys (c * x) (b + 1) a (yr.drop k) k vs = G5)) (fun t _ => ly - (intOf t).toNat)
                  case atStart => exact ⟨0, _, by omega, rfl, HR5.out, HN5.out, HG5⟩
                  case round =>
                    obtain ⟨k, vs5, hk1, rfl, hR6, hN6, hG5⟩ := hrel
                    have HR6 := Lib.hid hR6
                    have HN6 := Lib.hid hN6
                    clear hR6 hN6
                    by_cases hlt5 : k < ly
                    · have d5 : decide ((k : Int) < (ly : Int)) = true := decide_eq_true (by omega)
                      have hNYa := HNY.out.below HR6.out.below
                      have hpl : py.length = ly := by rw [hNYa.len, HLY.out]
                      have hcy := hNYa.row.cell k (by omega)
                      have hny := hNYa.num k (by rw [HLY.out]; exact hlt5)
                      have hnx := (HNX.out.below HR6.out.below).num a (by rw [HLX.out]; exact hlt4)
                      obtain ⟨y, hy⟩ : ∃ y, yr.getD k 0 = y := ⟨_, rfl⟩
                      obtain ⟨pb, hpb⟩ : ∃ pb, py.getD k 0 = pb := ⟨_, rfl⟩
                      rw [hpb] at hcy
                      rw [hy, hpb] at hny
                      rw [HXV.out, HPA.out] at hnx
                      have hpbw : pb < wl.heap.size := by
                        rw [← hpb]; exact (HNY.out.num k (by rw [HLY.out]; exact hlt5)).lt
                      obtain ⟨V, hV⟩ : ∃ V, c * x * y = V := ⟨_, rfl⟩
                      obtain ⟨G6, hG6⟩ : ∃ G6, chairs_Spread.adds V (b + 1) (a + k) vs5 = G6 := ⟨_, rfl⟩
                      have hg5 : chairs_Spread.ys (c * x) (b + 1) a (yr.drop (k + 1)) (k + 1) G6 = G5 := by
                        have h := hG5.out
                        rw [List.drop_eq_getElem_cons (show k < yr.length by rw [HLY.out]; exact hlt5)] at h
                        have e : yr[k]'(by rw [HLY.out]; exact hlt5) = y := by rw [← hy]; simp [List.getD_eq_getElem?_getD, HLY.out, hlt5]
                        rw [e] at h
                        simp only [chairs_Spread.ys] at h
                        rw [hV, hG6] at h
                        exact h
                      have hle6 : MSpread.Le2 G6 F := (by rw [← hg5]; exact MSpread.ys_le _ _ _ _ _ _ : MSpread.Le2 G6 G5).trans HLE5.out
                      have hak : a + k < vs5.length := by have := HR6.out.row.len; have := HIL.out; omega
                      have hVs : V < 4294967296 := Nat.lt_of_le_of_lt (by rw [← hG6]; exact MSpread.adds_ge V b (a + k) vs5 hak) (hle6.lt (by omega) HFB.out (a + k))
                      have hxyV : x * y * c = V := by rw [← hV, Nat.mul_comm (x * y) c, Nat.mul_assoc]
                      have hxy : x * y < 4294967296 := by
                        have : x * y * 1 ≤ x * y * c := Nat.mul_le_mul_left _ hc0
                        omega
                      have HV := Lib.hid hxyV
                      have HVS := Lib.hid hVs
                      have HXY := Lib.hid hxy
                      have HG5' := Lib.hid hg5
                      have HG6 : Hid (chairs_Spread.adds V (b + 1 - 0) (a + k + 0) vs5 = G6) := Lib.hid hG6
                      have HLE6 := Lib.hid hle6
                      have HNy := Lib.hid hny
                      have HNx := Lib.hid hnx
                      have HWS := Lib.hid (HR6.out.below.size)
                      clear hNYa hpl hny hnx hy hpb hV hG6 hg5 hG5 hle6 hak hVs hxyV hxy
                      have hk0i : (0 : Int) ≤ (k : Int) := Int.natCast_nonneg _
                      have hkli : (k : Int) < (ly : Int) := by omega
                      obtain ⟨wn, rfl⟩ : ∃ wn : World, wn = wr := ⟨_, rfl⟩
                      have h2 := two_new wn
                      have HT := Lib.hid h2
                      clear h2
                      go_wp2_with fail
                      refine (Mul_walk (wn.heap.size + 1) pa pb x y _ HT.out.2.1 (HNx.out.below HT.out.2.2) (HNy.out.below HT.out.2.2) (by have := HWS.out; omega) (by have := HWS.out; omega) HXY.out).mono ?_
                      rintro e w7 ⟨rfl, hm7, hg7⟩
                      have HM7 := Lib.hid hm7
                      have HG7 := Lib.hid hg7
                      clear hm7 hg7
                      go_wp2_with fail
                      refine (Mul_walk wn.heap.size (wn.heap.size + 1) pw (x * y) c _ (HT.out.1.grown (by omega) HG7.out) HM7.out ((HN6.out.below HT.out.2.2).grown HT.out.2.1 (by have := HN6.out.lt; omega) HG7.out) (by omega) (by have := HN6.out.lt; omega) (by rw [HV.out]; exact HVS.out)).mono ?_
                      rintro e w8 ⟨rfl, hm8, hg8⟩
                      have hb78 : Below wn.heap.size wn w8 := below_num (below_num HT.out.2.2 (by omega) HG7.out (Nat.le_refl _)  ) (Nat.le_refl _) hg8 (Nat.le_refl _)
                      rw [HV.out] at hm8
                      have HM8 := Lib.hid hm8
                      have HR8 := Lib.hid (HR6.out.later (HJ.out _) hb78)
                      have HN8 := Lib.hid (HN6.out.below hb78)
                      obtain ⟨pz, hpz⟩ : ∃ pz, wn.heap.size = pz := ⟨_, rfl⟩
                      have HPZ : Hid (pz ∉ ps) := Lib.hid (HR6.out.notin (by omega))
                      rw [hpz] at HM8 ⊢
                      clear hm8 hg8 hb78 hpz HT HM7 HG7
                      go_wp2
                      go_loopw [83] (fun t w9 => ∃ (d : Nat) (vs : List Nat), d ≤ b + 1 ∧ t = .int .i64 (d : Int) ∧ RSt (J (s - 1)) wl q ps vs w9 ∧ Num w9 pw c ∧ Num w9 pz V ∧ Hid (chairs_Spread.adds V (b + 1 - d) (a + k + d) vs = G6)) (fun t _ => b + 1 - (intOf t).toNat)
                      case atStart => exact ⟨0, _, by omega, rfl, HR8.out, HN8.out, HM8.out, HG6⟩
                      case round =>
                        obtain ⟨d, vs6, hd1, rfl, hR9, hN9, hM9, hG6⟩ := hrel
                        have HR9 := Lib.hid hR9
                        have HN9 := Lib.hid hN9
                        have HM9 := Lib.hid hM9
                        clear hR9 hN9 hM9
                        by_cases hlt6 : d < b + 1
                        · have d6 : decide ((d : Int) < (b : Int) + 1) = true := decide_eq_true (by omega)
                          obtain ⟨wm, rfl⟩ : ∃ wm : World, wm = wr := ⟨_, rfl⟩
                          obtain ⟨ak, hak⟩ : ∃ ak, a + k = ak := ⟨_, rfl⟩
                          obtain ⟨ix, hix⟩ : ∃ ix, ak + d = ix := ⟨_, rfl⟩
                          have hvl : vs6.length = i := by rw [← HR9.out.row.len, HIL.out]
                          have hixl : ix < i := by omega
                          obtain ⟨pt, hpt⟩ : ∃ pt, ps.getD ix 0 = pt := ⟨_, rfl⟩
                          obtain ⟨v0, hv0⟩ : ∃ v0, vs6.getD ix 0 = v0 := ⟨_, rfl⟩
                          have hcq := HR9.out.row.row.cell ix (by rw [HIL.out]; exact hixl)
                          rw [hpt] at hcq
                          have hg6 : chairs_Spread.adds V (b + 1 - (d + 1)) (a + k + (d + 1)) (vs6.set ix (v0 + V)) = G6 := by
                            have h := hG6.out
                            rw [show b + 1 - d = (b + 1 - (d + 1)) + 1 by omega] at h
                            simp only [chairs_Spread.adds] at h
                            rw [show a + k + d = ix by omega, hv0, show ix + 1 = a + k + (d + 1) by omega] at h
                            exact h
                          have hsum : v0 + V < 4294967296 := by
                            have h1 := (MSpread.adds_le V (b + 1 - (d + 1)) (a + k + (d + 1)) (vs6.set ix (v0 + V))).trans (by rw [hg6]; exact HLE6.out)
                            have h2 := h1.lt (by omega) HFB.out ix
                            rwa [show (vs6.set ix (v0 + V)).getD ix 0 = v0 + V by simp [List.getD_eq_getElem?_getD, hvl, hixl]] at h2
                          have hbd : Below wm.heap.size wm wm.drew := (Below.refl _ _).drew
                          have hRd := HR9.out.later (HJ.out _) hbd
                          have hnt := hRd.row.num ix (by rw [hvl]; exact hixl)
                          rw [hpt, hv0] at hnt
                          have hptm : pt ∈ ps := by rw [← hpt]; exact getD_mem (by rw [HIL.out]; exact hixl)
                          have HRD := Lib.hid hRd
                          have HNT := Lib.hid hnt
                          have HNZ := Lib.hid (HM9.out.below hbd)
                          have HNW2 := Lib.hid (HN9.out.below hbd)
                          have HZT : Hid (pz ≠ pt) := Lib.hid (fun e => HPZ.out (by rw [e]; exact hptm))
                          have HWT : Hid (pw ≠ pt) := Lib.hid (fun e => HPW.out (by rw [e]; exact hptm))
                          have HPT := Lib.hid hpt
                          have HV0 := Lib.hid hv0
                          have HVL := Lib.hid hvl
                          have HG6' := Lib.hid hg6
                          have HSUM := Lib.hid hsum
                          have e7 : (a : Int) + (k : Int) = (ak : Int) := by omega
                          have e8 : (ak : Int) + (d : Int) = (ix : Int) := by omega
                          have e9 : IntKind.i64.wrap (ak : Int) = (ak : Int) := IntWalk.i64_in _ (by omega)
                          have e10 : IntKind.i64.wrap (ix : Int) = (ix : Int) := IntWalk.i64_in _ (by omega)
                          have hix0 : (0 : Int) ≤ (ix : Int) := Int.natCast_nonneg _
                          have hix1 : (ix : Int) < (i : Int) := by omega
                          clear hak hix hvl hpt hv0 hg6 hG6 hsum hbd hRd hnt hptm
                          go_wp2_with fail
                          go_region_held3 (fun w' => w'.cell? ⟨q, ix, none⟩ = some (.pointer (some ⟨pt, 0, none⟩)))
                            (first | exact hcq | exact hcqE)
                            (first | (go_at_call 73; refine (Add_walk pt pz v0 V _ HNT.out HNZ.out HZT.out HSUM.out).mono ?_; rintro e w' ⟨rfl, hadd, hgr⟩; have hst := HRD.out.add (HJ.out _) HL.out.size (i := ix) (v := v0 + V) (by rw [HVL.out]; exact hixl) (by rw [HPT.out]; exact hgr) (by rw [HPT.out]; exact hadd); have HST := Lib.hid hst; have hcqE := hst.row.row.cell ix (by rw [HIL.out]; exact hixl); rw [HPT.out] at hcqE; have HNW3 := Lib.hid (HNW2.out.grown HNT.out.slot HWT.out hgr); have HNZ3 := Lib.hid (HNZ.out.grown HNT.out.slot HZT.out hgr); clear hst hadd hgr))
                          clear e7 e8 e9 e10
                          go_wp2
                          go_roundw
                          case rel => exact ⟨d + 1, _, by omega, by go_num, HST.out, HNW3.out, HNZ3.out, HG6'⟩
                          case measure => simp [intOf]; omega
                        · obtain rfl : d = b + 1 := by omega
                          have d6 : decide (((b + 1 : Nat) : Int) < (b : Int) + 1) = false := decide_eq_false (by omega)
                          have hg := hG6.out
                          rw [Nat.sub_self] at hg
                          obtain rfl : vs6 = G6 := hg
                          clear hG6 HG6
                          go_wp2
                          go_roundw
                          case rel => exact ⟨k + 1, vs6, by omega, by go_num, HR9.out, HN9.out, HG5'⟩
                          case measure => simp [intOf]; omega
                    · obtain rfl : k = ly := by omega
                      have d5 : decide ((k : Int) < (k : Int)) = false := decide_eq_false (by omega)
                      have hg := hG5.out
                      rw [List.drop_of_length_le (by rw [HLY.out]; exact Nat.le_refl _)] at hg
                      obtain rfl : vs5 = G5 := hg
                      clear hG5 HG5
                      go_wp2
                      go_roundw
                      case rel => exact ⟨a + 1, vs5, by omega, by go_num, HR6.out, HN6.out, HG4'⟩
                      case measure => simp [intOf]; omega
                · obtain rfl : a = lx := by omega
                  have d4 : decide ((a : Int) < (a : Int)) = false := decide_eq_false (by omega)
                  have hg := hG4.out
                  rw [List.drop_of_length_le (by rw [HLX.out]; exact Nat.le_refl _)] at hg
                  obtain rfl : vs4 = G4 := hg
                  clear hG4 HG4
                  go_wp2
                  go_roundw
                  case rel => exact ⟨b + 1, vs4, by omega, by go_num, HR5.out, HG3⟩
                  case measure => simp [intOf]; omega
            · obtain rfl : b = s := by omega
              have d3 : decide ((b : Int) < (b : Int)) = false := decide_eq_false (by omega)
              have hg := hG3.out
              rw [Nat.sub_self] at hg
              obtain rfl : vs = F := hg
              clear hG3 HST0
              obtain ⟨wz, rfl⟩ : ∃ wz : World, wz = wr := ⟨_, rfl⟩
              obtain ⟨vals, ho, hrv⟩ := HR3.out.kn HKN.out
              have hvl : vals.length = b := by have := ho.1; have := HLEN.out; omega
              rw [← hvl.trans HLEN.out.symm] at ho
              have HO := Lib.hid ho
              have HRV := Lib.hid hrv
              have HVL := Lib.hid hvl
              have hv46 : vals.length ≤ 10 := by omega
              clear ho hrv hvl
              go_upto_region 31 with (first | (at_builtin; go_loud (refine print_append (w0 := wz) W.heap.size rfl (.tmp 108) (.tmp 110) 78 65 (.slice none 0 0) 24 rfl Try.underlying78 info65 rfl (by omega) (.slice (some ⟨g, 0, none⟩) b cap) vals (.slice (some ⟨q, 0, none⟩) i i) rfl rfl rfl HO.out (Below.refl _ _) (Nat.le_trans HL.out.size HR3.out.below.size) (by omega) ?_); intro v1 w1 ho1 _ hg1 _; have HO1 := Lib.hid ho1; have HG1 := Lib.hid hg1; clear ho1 hg1))
              have hst := stp_of_own HO.out HG1.out
              have hkp := keep_of_own HO.out HG1.out
              have hrow : chairs_Spread.row (chairs_Spread.known (b - 1)) (b - 1 + 1) = vs := by rw [HROWS.out, show b - 1 + 1 = b by omega]; exact HF.out
              have hkn : KnV W.heap.size w1 v1 (chairs_Spread.known b) := by
                have h := KnV.snoc (by rw [← HVL.out.trans HLEN.out.symm]; exact HO.out) HRV.out (HR3.out.rowv i HIL.out) HG1.out HO1.out
                rw [show chairs_Spread.known b = rows ++ [vs] by rw [show b = b - 1 + 1 by omega, chairs_Spread.known, hrow, HROWS.out]]
                exact h
              have hbox : w1.heap[Bs]? = some (.cells #[.int .i64 (n : Int)] 3 (0, 0)) := by
                have h0 := HL.out.box
                have h1 := (HR3.out.below.block Bs (block_lt' h0)).trans h0
                refine (HG1.out.block Bs (block_lt' h1) fun e => ?_).trans h1
                obtain ⟨cells', hc⟩ := own_typed HO.out Bs e.symm
                rw [h1] at hc
                injection hc with hc
                injection hc with _ h2
                cases h2
              obtain ⟨g1, cap1, e1v⟩ := hkn.form (by rw [MSpread.known_length]; omega)
              rw [MSpread.known_length] at e1v
              subst e1v
              obtain ⟨fn, tmps, assign, body, hy, hR⟩ := HY.out (b - 1) (.slice (some ⟨q, 0, none⟩) i i) w1 (HJ.out _ _ _ HR3.out.j hst) (by omega) (by rw [hrow]; exact (HR3.out.rowv i HIL.out).keep hkp)
              have HKN1 := Lib.hid hkn
              have HBOX1 := Lib.hid hbox
              clear hst hkp hrow hkn hbox
              refine (wpIn_wide (n := 4)).1 ?_
              gi_wp2
              refine hR.mono ?_
              rintro e W3 ⟨rfl, hJ3, hk3⟩
              have hL3 : LSt W.heap.size J Bs n b (.slice (some ⟨g1, 0, none⟩) (b + 1) cap1) W3   := ⟨Nat.le_trans (Nat.le_trans (Nat.le_trans HL.out.size HR3.out.below.size) HG1.out.size) hk3.size, HKN1.out.kp hk3, by rwa [show b - 1 + 1 = b by omega] at hJ3, hk3.box.trans HBOX1.out⟩
              have HL3 := Lib.hid hL3
              clear hL3 hJ3 hk3 hR
              gi_wp2
              go_wp2
              go_roundw
              case rel => exact ⟨b + 1, g1, cap1, by omega, by omega, by go_num, rfl, HL3.out⟩
              case measure => simp [intOf]; omega
    · have d1 : decide ((s : Int) ≤ (n : Int)) = false := decide_eq_false (by omega)
      have hj := HL.out.j
      rw [show s - 1 = n by omega] at hj
      have HJ2 := Lib.hid hj
      clear hj
      go_wp2
      go_end0
      exact ⟨⟨_, rfl⟩, HJ2.out⟩
end Go.Proofs.Ytfopeenjpdaacaa.PC
