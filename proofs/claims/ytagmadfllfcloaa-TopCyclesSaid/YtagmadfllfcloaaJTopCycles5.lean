/- Parts of the proof of LawTopCycles, one behind the other: HCyc1 HCyc2 HCyc HKernel HOddW HCycW HIs HSent HNext HLeast LGr HSpoken HGr LCyc. -/
import Derived.Test.YtagmadfllfcloaaJTopCycles4
section
set_option linter.unusedVariables false
set_option linter.unusedSimpArgs false
/- truth.Cycle's closure: the walk, part 1. -/
namespace Go.Proofs.Ytagmadfllfcloaa.PC
open Go.RowKit Go.Proofs.YtagmadfllfcloaaW.PrintWords Go.Proofs.YtagmadfllfcloaaW.PrintLast Go.Proofs.YtagmadfllfcloaaW.PrintMore
set_option linter.unusedVariables false
set_option linter.unusedSimpArgs false
attribute [local go_sem] run_store_func sl_neq
set_option maxHeartbeats 16000000 in
set_option maxRecDepth 100000 in
theorem cyc_false (N : Nat) (hN : N ≤ 10) (ms : List (List Nat)) (gO garc gl godd gon long : Nat) (hlong : long ≤ 12) (d : Nat) (ih : ∀ m, m < d → CycOn N ms gO garc gl godd gon long m) (hd0 : ¬ d = 0) :
    ∀ (way : List Int) (hd : way.length + d = long) (hw : WayN N way) (e : Bool) (he : e = (way.length % 2 == 1)) (hsel : e = false) (A : Option Addr) (c : Nat) (w : World) (hc : Kd.C (Kd.int .i64) w A way.length way) (hcap : way.length ≤ c) (hI : InvC N ms gO garc gl godd gon long w),
    Calls Try.prog 25 #[.slice A way.length c, .agg #[.bool e, .bool (!e)], .pointer (some ⟨garc, 0, none⟩), .pointer (some ⟨gl, 0, none⟩), .pointer (some ⟨godd, 0, none⟩), .pointer (some ⟨gon, 0, none⟩)] w (SrchPost (srchT N ms (long % 2 == 1) d way) w) := by
  intro way hd hw e he hsel A c w hc hcap hI
  have HSEL := Aside0.mk hsel
  clear hsel
  have HIH := Lib.hid (fun (d' : Nat) (h : d' + 1 = d) (j : Int) (hj : WayN N (way ++ [j])) (P : Nat) (hP : (way ++ [j]).length = P) (A : Option Addr) (c : Nat) (wr : World) (hc : Kd.C (Kd.int .i64) wr A P (way ++ [j])) (hcap : P ≤ c) (hI : InvC N ms gO garc gl godd gon long wr) =>
    show Calls Try.prog 25 #[.slice A P c, .agg #[.bool (!e), .bool e], .pointer (some ⟨garc, 0, none⟩), .pointer (some ⟨gl, 0, none⟩), .pointer (some ⟨godd, 0, none⟩), .pointer (some ⟨gon, 0, none⟩)] wr (SrchPost (srchT N ms (long % 2 == 1) d' (way ++ [j])) wr) by
      subst hP
      have := ih d' (by omega) (way ++ [j]) (by rw [List.length_append, List.length_singleton]; omega) hj (!e) (by rw [he, List.length_append, List.length_singleton]; exact par_flip _) A c wr hc hcap hI
      rwa [Bool.not_not] at this)
  have HCO := Lib.hid (fun (x : Int) (wr : World) hr => contains_walk A way.length c way x wr hr (Nat.le_trans hw.2.1 (by decide)))
  obtain ⟨L, hL⟩ : ∃ L, way.length = L := ⟨_, rfl⟩
  obtain ⟨M, hM⟩ : ∃ M, L = M + 1 := ⟨L - 1, by have := hw.1; omega⟩
  obtain ⟨ad, hA, hx⟩ := at_scalar hc M (by omega) (by omega)
  obtain ⟨ad', hA', hf⟩ := at_scalar hc 0 (by omega) (by omega)
  obtain rfl : ad = ad' := by rw [hA] at hA'; exact Option.some.inj hA'
  subst hA
  have hxin := hw.2.2 way[M] (List.getElem_mem _)
  have hfin := hw.2.2 way[0] (List.getElem_mem _)
  have hln : lastN way = way[M].toNat := by
    have h1 : way.length - 1 = M := by omega
    unfold lastN
    rw [h1]
    simp [List.getD_eq_getElem?_getD, show M < way.length by omega]
  have hfn : firstN way = way[0].toNat := by unfold firstN; simp [List.getD_eq_getElem?_getD, show 0 < way.length by omega]
  obtain ⟨x, hxx⟩ : ∃ x, way[M] = x := ⟨_, rfl⟩
  obtain ⟨f, hff⟩ : ∃ f, way[0] = f := ⟨_, rfl⟩
  rw [hxx] at hx hxin hln
  rw [hff] at hf hfin hfn
  obtain ⟨X, rfl⟩ := Int.eq_ofNat_of_zero_le hxin.1
  obtain ⟨F, rfl⟩ := Int.eq_ofNat_of_zero_le hfin.1
  rw [Int.toNat_natCast] at hln hfn
  have hX12 : X < N := by omega
  have hF12 : F < N := by omega
  obtain ⟨gr, hrc, hrow⟩ := hI.t X hX12
  obtain ⟨T, hT⟩ : ∃ T, ms.getD X [] = T := ⟨_, rfl⟩
  rw [hT] at hrow
  have harc := hI.arc
  have hll := hI.l
  have k1 : (L ≤ c) = True := eq_true (by omega)
  have k2 : ((L : Int) ≤ (c : Int)) = True := eq_true (by omega)
  have k3 : decide ((L : Int) ≤ (c : Int)) = true := decide_eq_true (by omega)
  have k4 : (0 : Int) ≤ (L : Int) := by omega
  have e1 : wrap64 ((L : Int) - 1) = (M : Int) := by unfold wrap64; omega
  have e1' : IntKind.i64.wrap ((L : Int) - 1) = (M : Int) := (i64_w _).trans e1
  have b1 : decide ((M : Int) < (L : Int)) = true := decide_eq_true (by omega)
  have b1n : (M < L) = True := eq_true (by omega)
  have b0n : (0 < L) = True := eq_true (by omega)
  have HS := Aside0.mk (And.intro hd (And.intro hL hM))
  have HL12 := Aside0.mk (show L ≤ 12 by have := hw.2.1; omega)
  have HW := Aside0.mk hw
  have HI0 := Aside0.mk hI
  have HC := Aside0.mk hc
  have HLF := Aside0.mk (And.intro hln hfn)
  have HRW := Aside0.mk hrow
  have b2n : (X < N) = True := eq_true hX12
  have b2 : decide ((X : Int) < (N : Int)) = true := decide_eq_true (by omega)
  have b3 : ((X : Int) < (N : Int)) = True := eq_true (by omega)
  have HX := Aside0.mk (And.intro hX12 (And.intro hF12 hN))
  have HE := Aside0.mk he
  have HT := Aside0.mk hT
  rw [hL] at HC HCO ⊢
  rw [hL] at he
  clear hcap ih hd hw hc hI hA' hxin hfin hln hfn hxx hff hM hX12 hF12 hL hN hrow hT
  have HLW := Aside0.mk HS.out.2.1
  have HL100 := Aside0.mk (Nat.le_trans HL12.out (by decide : 12 ≤ 100))
  have HEL := Aside0.mk he
  clear he HE
  have hf0 : w.cell? ad = some (.int .i64 (F : Int)) := by rw [← hf]; rfl
  have hb1 : Below w.heap.size w (w.alloc (.cells #[.bool e, .bool (!e)] 65)) := (Below.refl _ _).alloc (Nat.le_refl _) _
  replace hx := (hb1.cell (World.block_lt_of_cell? w _ hx)).trans hx
  replace hrc := (hb1.cell (World.block_lt_of_cell? w _ hrc)).trans hrc
  replace harc := (hb1.cell (World.block_lt_of_cell? w _ harc)).trans harc
  have HF0 := Aside0.mk ((hb1.cell (World.block_lt_of_cell? w _ hf0)).trans hf0)
  have HRW1 := Aside0.mk (HRW.out.below hb1)
  have HI1 := Aside0.mk (HI0.out.below hb1)
  have HC1 := Aside0.mk (Kd.C_below HC.out hb1)
  have HB1 := Aside0.mk hb1
  clear hf hf0 hll HRW HI0 HC hb1
  go_enter Try.func25, Try.ntmps25
  go_wp2_with (fail)
  generalize hW : (World.alloc _ _ : World) = w1
  rw [hW] at HF0 HRW1 HI1 HC1 HB1
  have hs0 : w1.cell? ⟨w.heap.size, 0, none⟩ = some (.bool e) := by rw [← hW]; refine (World.cell?_alloc_at _ _ _ _ rfl).trans ?_; rfl
  have hs1 : w1.cell? ⟨w.heap.size, 1, none⟩ = some (.bool (!e)) := by rw [← hW]; refine (World.cell?_alloc_at _ _ _ _ rfl).trans ?_; rfl
  obtain ⟨g7, hg7⟩ : ∃ g7, w.heap.size = g7 := ⟨_, rfl⟩
  rw [hg7] at hs0 hs1 ⊢
  have HS01 := Aside0.mk (And.intro hs0 hs1)
  clear hx hrc harc hW hg7 hs0 hs1
  obtain ⟨d', rfl⟩ : ∃ d', d = d' + 1 := ⟨d - 1, by omega⟩
  have c1 : ((L : Int) == (long : Int)) = false := beq_eq_false_iff_ne.2 (by have := HS.out; omega)
  have c1n : (L = long) = False := eq_false (by have := HS.out; omega)
  clear hd0
  obtain ⟨ne, hne⟩ : ∃ ne, (!e) = ne := ⟨_, rfl⟩
  rw [hne] at HS01 HIH ⊢
  have HNE := Aside0.mk hne
  clear hne
  have HSR := Aside0.mk (show srchT N ms (long % 2 == 1) (d' + 1) way = ((List.range N).drop 0).findSome? (fun j : Nat => if j ∈ T then (if (j : Int) ∈ way then none else srchT N ms (long % 2 == 1) d' (way ++ [(j : Int)])) else none) by rw [srchT, HLF.out.1, HT.out, List.drop_zero])
  go_loopw [25] (fun v25 wr => ∃ j : Nat, j ≤ N ∧ v25 = .int .i64 (j : Int) ∧ Aside0 (Below w1.heap.size w1 wr) ∧ Aside0 (srchT N ms (long % 2 == 1) (d' + 1) way = ((List.range N).drop j).findSome? (fun j : Nat => if j ∈ T then (if (j : Int) ∈ way then none else srchT N ms (long % 2 == 1) d' (way ++ [(j : Int)])) else none))) (fun v25 _ => N - (intOf v25).toNat)
  case atStart => exact ⟨0, by omega, rfl, ⟨Below.refl _ _⟩, HSR⟩
  case round =>
    clear HSR
    obtain ⟨j, hj, rfl, HBW, HSR⟩ := hrel
    by_cases hjN : j < N
    · have d1 : decide ((j : Int) < (N : Int)) = true := decide_eq_true (by omega)
      have d1n : (j < N) = True := eq_true hjN
      have hrw := HRW1.out.below HBW.out
      have hc0 := hrw.c0 (j := j) (by rw [rowOf_len]; exact hjN)
      have hc1 := hrw.c1 (j := j) (by rw [rowOf_len]; exact hjN)
      rw [rowOf_getD N T j hjN] at hc1
      have HIW := Aside0.mk (HI1.out.below HBW.out)
      have f1 := old1 ((HBW.out.cell (World.block_lt_of_cell? w1 _ HS01.out.1)).trans HS01.out.1)
      have f2 := old1 ((HBW.out.cell (World.block_lt_of_cell? w1 _ HS01.out.2)).trans HS01.out.2)
      have f3 := old2 HIW.out.l
      have HJ0 := Aside0.mk hjN
      have HJ1 := Aside0.mk (show j + 1 ≤ N from hjN)
      have HMS := Aside0.mk (mstepA hjN (show N ≤ 1000 by have := HX.out; omega))
      have HVI := Aside0.mk (vI (show j ≤ 1000000 by have := HX.out; omega))
      have hjR : j < (List.range N).length := by rw [List.length_range]; exact hjN
      have hs := HSR.out
      rw [List.drop_eq_getElem_cons hjR, List.findSome?_cons, List.getElem_range] at hs
      obtain ⟨b, hb⟩ : ∃ b, decide (j ∈ T) = b := ⟨_, rfl⟩
      rw [hb] at hc1
      cases b with
      | false =>
        rw [if_neg (of_decide_eq_false hb)] at hs
        have HS1 := Aside0.mk hs
        clear hs hb hrw hjR HSR
        cases e
        all_goals
          first
            | (obtain rfl : true = ne := HNE.out)
            | (obtain rfl : false = ne := HNE.out)
          go_wp2_with (fail)
          exact ⟨⟨j + 1, HJ1.out, HVI.out, ⟨HBW.out.trans ((below2 _ _ _).mono HBW.out.size)⟩, HS1⟩, HMS.out⟩
      | true =>
        rw [if_pos (of_decide_eq_true hb)] at hs
        have HS1 := Aside0.mk hs
        clear hs hb hrw hjR HSR
        cases e with
        | false =>
            obtain rfl : true = ne := HNE.out
            go_wp2_with (fail)
            generalize hW9 : (World.alloc _ _ : World) = w9
            have hb9 : Below wr.heap.size wr w9 := by rw [← hW9]; exact below2 _ _ _
            obtain ⟨g12, hg12⟩ : ∃ g12, wr.heap.size + 1 = g12 := ⟨_, rfl⟩
            have hh9 := alloc2_new wr (.cells #[.bool false, .bool true] 65) (.cells #[.bool true, .bool false] 65)
            rw [hW9, hg12] at hh9
            have hs9 : w9.cell? ⟨g12, 0, none⟩ = some (.bool true) := by
              unfold World.cell?
              rw [hh9]
              rfl
            have ht9 : w9.cell? ⟨g12, 1, none⟩ = some (.bool false) := by
              unfold World.cell?
              rw [hh9]
              rfl
            rw [hg12]
            have hc9 := Kd.C_below HC1.out (HBW.out.trans (hb9.mono HBW.out.size))
            have HC9 := Aside0.mk hc9
            have HI9 := Aside0.mk (HIW.out.below hb9)
            have HBW9 := Aside0.mk (HBW.out.trans (hb9.mono HBW.out.size))
            have HX9 := Lib.hid (HCO.out (j : Int) w9 hc9)
            clear hW9 hb9 hg12 hh9 hc9 f1 f2 f3 hc0 hc1
            by_cases hjw : (j : Int) ∈ way
            · have q1 : decide ((j : Int) ∈ way) = true := decide_eq_true hjw
              rw [q1] at HX9
              have hs := HS1.out
              rw [if_pos hjw] at hs
              have HS2 := Aside0.mk hs
              clear hs HS1 q1 hjw
              refine HX9.out.mono ?_; rintro _ wb ⟨rfl, rfl⟩
              go_wp2_with (fail)
              go_roundw
              case rel => exact ⟨j + 1, HJ1.out, HVI.out, HBW9, HS2⟩
              case measure => exact HMS.out
            · have q1 : decide ((j : Int) ∈ way) = false := decide_eq_false hjw
              rw [q1] at HX9
              have hs := HS1.out
              rw [if_neg hjw] at hs
              have HS2 := Aside0.mk hs
              clear hs HS1 q1 hjw
              refine HX9.out.mono ?_; rintro _ wb ⟨rfl, rfl⟩
              have hon := HI9.out.on
              have r1 := old1 hon
              have r2 := old1 hs9
              have r3 := old1 ht9
              have HST := Aside0.mk (And.intro hs9 ht9)
              go_wp2_with (fail)
              have HWJ := Aside0.mk (show WayN N (way ++ [(j : Int)]) from ⟨by simp, by have := HS.out; have := hlong; rw [List.length_append, List.length_singleton]; omega, fun y hy => by rcases List.mem_append.1 hy with h | h; exact HW.out.2.2 y h; rw [List.mem_singleton] at h; rw [h]; have := HJ0.out; omega⟩)
              have HLJ := Aside0.mk (show (way ++ [(j : Int)]).length = L + 1 by rw [List.length_append, List.length_singleton, HLW.out])
              go_region_law (first
                | (refine step_cut_own (W := wb.drew) rfl (.tmp 101) (.tmp 103) 23 rfl Try.underlying23 info3c (some ad) way L HLW.out HL100.out (j : Int) (by simp [Act.eval, Act.put]) (by simp [Act.eval, Act.put]) ?hC ?_; (case hC => exact Kd.C_drew HC9.out); intro v51 w51 ho51 hb51; obtain ⟨A51, c51, e51, hl51, hc51⟩ := Kd.R_reads ho51; rw [HLJ.out] at e51 hl51 hc51; subst e51; have HB51 := Aside0.mk hb51; have HC51 := Aside0.mk (And.intro hl51 hc51); have hon51 := ((HI9.out.below ((Below.refl _ _).drew)).below HB51.out).on; have hsa51 : w51.cell? ⟨g12, 0, none⟩ = some (.bool true) := ((((Below.refl _ _).drew).trans HB51.out).cell (World.block_lt_of_cell? wb _ HST.out.1)).trans HST.out.1; have hsb51 : w51.cell? ⟨g12, 1, none⟩ = some (.bool false) := ((((Below.refl _ _).drew).trans HB51.out).cell (World.block_lt_of_cell? wb _ HST.out.2)).trans HST.out.2; clear hb51 hl51 hc51 ho51)
                | (go_simp; refine (HIH.out d' rfl (j : Int) HWJ.out (L + 1) HLJ.out A51 c51 w51 HC51.out.2 HC51.out.1 ((HI9.out.below ((Below.refl _ _).drew)).below HB51.out)).mono ?_; intro e w52 hp52; obtain ⟨A52, n52, c52, rfl, HB52, HP52⟩ := srch_shape hp52; clear hp52))
              all_goals
                have hbw := HBW9.out.trans ((((Below.refl wb.heap.size wb).drew.trans (HB51.out.mono (Nat.le_refl _))).trans (HB52.out.mono HB51.out.size)).mono HBW9.out.size)
                have HBF := Aside0.mk hbw
                obtain ⟨r, hr⟩ : ∃ r, srchT N ms (long % 2 == 1) d' (way ++ [(j : Int)]) = r := ⟨_, rfl⟩
                have hs3 := HS2.out
                have hp3 := HP52.out
                rw [hr] at hs3 hp3
                clear HS2 HP52 hbw hr r1 r2 r3 hon51 hsa51 hsb51 hon hs9 ht9
                cases r with
                | none =>
                  have HS4 := Aside0.mk hs3
                  have e0 : A52.isNone = true := by rw [hp3.1]; rfl
                  clear hs3 hp3
                  go_wp2_with (fail)
                  go_roundw
                  case rel => exact ⟨j + 1, HJ1.out, HVI.out, HBF, HS4⟩
                  case measure => exact HMS.out
                | some l =>
                  have HS4 := Aside0.mk hs3
                  have e0 : A52.isNone = false := by obtain ⟨_, _, _, ad5, e, _⟩ := hp3; rw [e]; rfl
                  have HC5 := Aside0.mk hp3
                  clear hs3 hp3
                  go_wp2_with (fail)
                  go_ret
                  obtain ⟨hl1, hl2, rfl, ad5, rfl, hc5⟩ := HC5.out
                  rw [HS4.out]
                  exact ⟨HB1.out.trans (HBF.out.mono HB1.out.size), hl1, hl2, ad5, c52, rfl, hc5⟩
        | true => exact absurd HSEL.out (by decide)
    · have d1 : decide ((j : Int) < (N : Int)) = false := decide_eq_false (by omega)
      have d1n : (j < N) = False := eq_false hjN
      have hsr := HSR.out
      rw [List.drop_eq_nil_of_le (by rw [List.length_range]; omega), List.findSome?_nil] at hsr
      have HSR2 := Aside0.mk hsr
      clear hsr HSR
      go_wp2_with (fail)
      go_ret
      rw [HSR2.out]
      exact ⟨HB1.out.trans (HBW.out.mono HB1.out.size), rfl⟩
end Go.Proofs.Ytagmadfllfcloaa.PC
end
section
set_option linter.unusedVariables false
set_option linter.unusedSimpArgs false
/- truth.Cycle's closure: the walk, part 2. -/
namespace Go.Proofs.Ytagmadfllfcloaa.PC
open Go.RowKit Go.Proofs.YtagmadfllfcloaaW.PrintWords Go.Proofs.YtagmadfllfcloaaW.PrintLast Go.Proofs.YtagmadfllfcloaaW.PrintMore
set_option linter.unusedVariables false
set_option linter.unusedSimpArgs false
attribute [local go_sem] run_store_func sl_neq
set_option maxHeartbeats 16000000 in
set_option maxRecDepth 100000 in
theorem cyc_true (N : Nat) (hN : N ≤ 10) (ms : List (List Nat)) (gO garc gl godd gon long : Nat) (hlong : long ≤ 12) (d : Nat) (ih : ∀ m, m < d → CycOn N ms gO garc gl godd gon long m) (hd0 : ¬ d = 0) :
    ∀ (way : List Int) (hd : way.length + d = long) (hw : WayN N way) (e : Bool) (he : e = (way.length % 2 == 1)) (hsel : e = true) (A : Option Addr) (c : Nat) (w : World) (hc : Kd.C (Kd.int .i64) w A way.length way) (hcap : way.length ≤ c) (hI : InvC N ms gO garc gl godd gon long w),
    Calls Try.prog 25 #[.slice A way.length c, .agg #[.bool e, .bool (!e)], .pointer (some ⟨garc, 0, none⟩), .pointer (some ⟨gl, 0, none⟩), .pointer (some ⟨godd, 0, none⟩), .pointer (some ⟨gon, 0, none⟩)] w (SrchPost (srchT N ms (long % 2 == 1) d way) w) := by
  intro way hd hw e he hsel A c w hc hcap hI
  have HSEL := Aside0.mk hsel
  clear hsel
  have HIH := Lib.hid (fun (d' : Nat) (h : d' + 1 = d) (j : Int) (hj : WayN N (way ++ [j])) (P : Nat) (hP : (way ++ [j]).length = P) (A : Option Addr) (c : Nat) (wr : World) (hc : Kd.C (Kd.int .i64) wr A P (way ++ [j])) (hcap : P ≤ c) (hI : InvC N ms gO garc gl godd gon long wr) =>
    show Calls Try.prog 25 #[.slice A P c, .agg #[.bool (!e), .bool e], .pointer (some ⟨garc, 0, none⟩), .pointer (some ⟨gl, 0, none⟩), .pointer (some ⟨godd, 0, none⟩), .pointer (some ⟨gon, 0, none⟩)] wr (SrchPost (srchT N ms (long % 2 == 1) d' (way ++ [j])) wr) by
      subst hP
      have := ih d' (by omega) (way ++ [j]) (by rw [List.length_append, List.length_singleton]; omega) hj (!e) (by rw [he, List.length_append, List.length_singleton]; exact par_flip _) A c wr hc hcap hI
      rwa [Bool.not_not] at this)
  have HCO := Lib.hid (fun (x : Int) (wr : World) hr => contains_walk A way.length c way x wr hr (Nat.le_trans hw.2.1 (by decide)))
  obtain ⟨L, hL⟩ : ∃ L, way.length = L := ⟨_, rfl⟩
  obtain ⟨M, hM⟩ : ∃ M, L = M + 1 := ⟨L - 1, by have := hw.1; omega⟩
  obtain ⟨ad, hA, hx⟩ := at_scalar hc M (by omega) (by omega)
  obtain ⟨ad', hA', hf⟩ := at_scalar hc 0 (by omega) (by omega)
  obtain rfl : ad = ad' := by rw [hA] at hA'; exact Option.some.inj hA'
  subst hA
  have hxin := hw.2.2 way[M] (List.getElem_mem _)
  have hfin := hw.2.2 way[0] (List.getElem_mem _)
  have hln : lastN way = way[M].toNat := by
    have h1 : way.length - 1 = M := by omega
    unfold lastN
    rw [h1]
    simp [List.getD_eq_getElem?_getD, show M < way.length by omega]
  have hfn : firstN way = way[0].toNat := by unfold firstN; simp [List.getD_eq_getElem?_getD, show 0 < way.length by omega]
  obtain ⟨x, hxx⟩ : ∃ x, way[M] = x := ⟨_, rfl⟩
  obtain ⟨f, hff⟩ : ∃ f, way[0] = f := ⟨_, rfl⟩
  rw [hxx] at hx hxin hln
  rw [hff] at hf hfin hfn
  obtain ⟨X, rfl⟩ := Int.eq_ofNat_of_zero_le hxin.1
  obtain ⟨F, rfl⟩ := Int.eq_ofNat_of_zero_le hfin.1
  rw [Int.toNat_natCast] at hln hfn
  have hX12 : X < N := by omega
  have hF12 : F < N := by omega
  obtain ⟨gr, hrc, hrow⟩ := hI.t X hX12
  obtain ⟨T, hT⟩ : ∃ T, ms.getD X [] = T := ⟨_, rfl⟩
  rw [hT] at hrow
  have harc := hI.arc
  have hll := hI.l
  have k1 : (L ≤ c) = True := eq_true (by omega)
  have k2 : ((L : Int) ≤ (c : Int)) = True := eq_true (by omega)
  have k3 : decide ((L : Int) ≤ (c : Int)) = true := decide_eq_true (by omega)
  have k4 : (0 : Int) ≤ (L : Int) := by omega
  have e1 : wrap64 ((L : Int) - 1) = (M : Int) := by unfold wrap64; omega
  have e1' : IntKind.i64.wrap ((L : Int) - 1) = (M : Int) := (i64_w _).trans e1
  have b1 : decide ((M : Int) < (L : Int)) = true := decide_eq_true (by omega)
  have b1n : (M < L) = True := eq_true (by omega)
  have b0n : (0 < L) = True := eq_true (by omega)
  have HS := Aside0.mk (And.intro hd (And.intro hL hM))
  have HL12 := Aside0.mk (show L ≤ 12 by have := hw.2.1; omega)
  have HW := Aside0.mk hw
  have HI0 := Aside0.mk hI
  have HC := Aside0.mk hc
  have HLF := Aside0.mk (And.intro hln hfn)
  have HRW := Aside0.mk hrow
  have b2n : (X < N) = True := eq_true hX12
  have b2 : decide ((X : Int) < (N : Int)) = true := decide_eq_true (by omega)
  have b3 : ((X : Int) < (N : Int)) = True := eq_true (by omega)
  have HX := Aside0.mk (And.intro hX12 (And.intro hF12 hN))
  have HE := Aside0.mk he
  have HT := Aside0.mk hT
  rw [hL] at HC HCO ⊢
  rw [hL] at he
  clear hcap ih hd hw hc hI hA' hxin hfin hln hfn hxx hff hM hX12 hF12 hL hN hrow hT
  have HLW := Aside0.mk HS.out.2.1
  have HL100 := Aside0.mk (Nat.le_trans HL12.out (by decide : 12 ≤ 100))
  have HEL := Aside0.mk he
  clear he HE
  have hf0 : w.cell? ad = some (.int .i64 (F : Int)) := by rw [← hf]; rfl
  have hb1 : Below w.heap.size w (w.alloc (.cells #[.bool e, .bool (!e)] 65)) := (Below.refl _ _).alloc (Nat.le_refl _) _
  replace hx := (hb1.cell (World.block_lt_of_cell? w _ hx)).trans hx
  replace hrc := (hb1.cell (World.block_lt_of_cell? w _ hrc)).trans hrc
  replace harc := (hb1.cell (World.block_lt_of_cell? w _ harc)).trans harc
  have HF0 := Aside0.mk ((hb1.cell (World.block_lt_of_cell? w _ hf0)).trans hf0)
  have HRW1 := Aside0.mk (HRW.out.below hb1)
  have HI1 := Aside0.mk (HI0.out.below hb1)
  have HC1 := Aside0.mk (Kd.C_below HC.out hb1)
  have HB1 := Aside0.mk hb1
  clear hf hf0 hll HRW HI0 HC hb1
  go_enter Try.func25, Try.ntmps25
  go_wp2_with (fail)
  generalize hW : (World.alloc _ _ : World) = w1
  rw [hW] at HF0 HRW1 HI1 HC1 HB1
  have hs0 : w1.cell? ⟨w.heap.size, 0, none⟩ = some (.bool e) := by rw [← hW]; refine (World.cell?_alloc_at _ _ _ _ rfl).trans ?_; rfl
  have hs1 : w1.cell? ⟨w.heap.size, 1, none⟩ = some (.bool (!e)) := by rw [← hW]; refine (World.cell?_alloc_at _ _ _ _ rfl).trans ?_; rfl
  obtain ⟨g7, hg7⟩ : ∃ g7, w.heap.size = g7 := ⟨_, rfl⟩
  rw [hg7] at hs0 hs1 ⊢
  have HS01 := Aside0.mk (And.intro hs0 hs1)
  clear hx hrc harc hW hg7 hs0 hs1
  obtain ⟨d', rfl⟩ : ∃ d', d = d' + 1 := ⟨d - 1, by omega⟩
  have c1 : ((L : Int) == (long : Int)) = false := beq_eq_false_iff_ne.2 (by have := HS.out; omega)
  have c1n : (L = long) = False := eq_false (by have := HS.out; omega)
  clear hd0
  obtain ⟨ne, hne⟩ : ∃ ne, (!e) = ne := ⟨_, rfl⟩
  rw [hne] at HS01 HIH ⊢
  have HNE := Aside0.mk hne
  clear hne
  have HSR := Aside0.mk (show srchT N ms (long % 2 == 1) (d' + 1) way = ((List.range N).drop 0).findSome? (fun j : Nat => if j ∈ T then (if (j : Int) ∈ way then none else srchT N ms (long % 2 == 1) d' (way ++ [(j : Int)])) else none) by rw [srchT, HLF.out.1, HT.out, List.drop_zero])
  go_loopw [25] (fun v25 wr => ∃ j : Nat, j ≤ N ∧ v25 = .int .i64 (j : Int) ∧ Aside0 (Below w1.heap.size w1 wr) ∧ Aside0 (srchT N ms (long % 2 == 1) (d' + 1) way = ((List.range N).drop j).findSome? (fun j : Nat => if j ∈ T then (if (j : Int) ∈ way then none else srchT N ms (long % 2 == 1) d' (way ++ [(j : Int)])) else none))) (fun v25 _ => N - (intOf v25).toNat)
  case atStart => exact ⟨0, by omega, rfl, ⟨Below.refl _ _⟩, HSR⟩
  case round =>
    clear HSR
    obtain ⟨j, hj, rfl, HBW, HSR⟩ := hrel
    by_cases hjN : j < N
    · have d1 : decide ((j : Int) < (N : Int)) = true := decide_eq_true (by omega)
      have d1n : (j < N) = True := eq_true hjN
      have hrw := HRW1.out.below HBW.out
      have hc0 := hrw.c0 (j := j) (by rw [rowOf_len]; exact hjN)
      have hc1 := hrw.c1 (j := j) (by rw [rowOf_len]; exact hjN)
      rw [rowOf_getD N T j hjN] at hc1
      have HIW := Aside0.mk (HI1.out.below HBW.out)
      have f1 := old1 ((HBW.out.cell (World.block_lt_of_cell? w1 _ HS01.out.1)).trans HS01.out.1)
      have f2 := old1 ((HBW.out.cell (World.block_lt_of_cell? w1 _ HS01.out.2)).trans HS01.out.2)
      have f3 := old2 HIW.out.l
      have HJ0 := Aside0.mk hjN
      have HJ1 := Aside0.mk (show j + 1 ≤ N from hjN)
      have HMS := Aside0.mk (mstepA hjN (show N ≤ 1000 by have := HX.out; omega))
      have HVI := Aside0.mk (vI (show j ≤ 1000000 by have := HX.out; omega))
      have hjR : j < (List.range N).length := by rw [List.length_range]; exact hjN
      have hs := HSR.out
      rw [List.drop_eq_getElem_cons hjR, List.findSome?_cons, List.getElem_range] at hs
      obtain ⟨b, hb⟩ : ∃ b, decide (j ∈ T) = b := ⟨_, rfl⟩
      rw [hb] at hc1
      cases b with
      | false =>
        rw [if_neg (of_decide_eq_false hb)] at hs
        have HS1 := Aside0.mk hs
        clear hs hb hrw hjR HSR
        cases e
        all_goals
          first
            | (obtain rfl : true = ne := HNE.out)
            | (obtain rfl : false = ne := HNE.out)
          go_wp2_with (fail)
          exact ⟨⟨j + 1, HJ1.out, HVI.out, ⟨HBW.out.trans ((below2 _ _ _).mono HBW.out.size)⟩, HS1⟩, HMS.out⟩
      | true =>
        rw [if_pos (of_decide_eq_true hb)] at hs
        have HS1 := Aside0.mk hs
        clear hs hb hrw hjR HSR
        cases e with
        | false => exact absurd HSEL.out (by decide)
        | true =>
            obtain rfl : false = ne := HNE.out
            go_wp2_with (fail)
            generalize hW9 : (World.alloc _ _ : World) = w9
            have hb9 : Below wr.heap.size wr w9 := by rw [← hW9]; exact below2 _ _ _
            obtain ⟨g12, hg12⟩ : ∃ g12, wr.heap.size + 1 = g12 := ⟨_, rfl⟩
            have hh9 := alloc2_new wr (.cells #[.bool false, .bool true] 65) (.cells #[.bool false, .bool true] 65)
            rw [hW9, hg12] at hh9
            have hs9 : w9.cell? ⟨g12, 0, none⟩ = some (.bool false) := by
              unfold World.cell?
              rw [hh9]
              rfl
            have ht9 : w9.cell? ⟨g12, 1, none⟩ = some (.bool true) := by
              unfold World.cell?
              rw [hh9]
              rfl
            rw [hg12]
            have hc9 := Kd.C_below HC1.out (HBW.out.trans (hb9.mono HBW.out.size))
            have HC9 := Aside0.mk hc9
            have HI9 := Aside0.mk (HIW.out.below hb9)
            have HBW9 := Aside0.mk (HBW.out.trans (hb9.mono HBW.out.size))
            have HX9 := Lib.hid (HCO.out (j : Int) w9 hc9)
            clear hW9 hb9 hg12 hh9 hc9 f1 f2 f3 hc0 hc1
            by_cases hjw : (j : Int) ∈ way
            · have q1 : decide ((j : Int) ∈ way) = true := decide_eq_true hjw
              rw [q1] at HX9
              have hs := HS1.out
              rw [if_pos hjw] at hs
              have HS2 := Aside0.mk hs
              clear hs HS1 q1 hjw
              refine HX9.out.mono ?_; rintro _ wb ⟨rfl, rfl⟩
              go_wp2_with (fail)
              go_roundw
              case rel => exact ⟨j + 1, HJ1.out, HVI.out, HBW9, HS2⟩
              case measure => exact HMS.out
            · have q1 : decide ((j : Int) ∈ way) = false := decide_eq_false hjw
              rw [q1] at HX9
              have hs := HS1.out
              rw [if_neg hjw] at hs
              have HS2 := Aside0.mk hs
              clear hs HS1 q1 hjw
              refine HX9.out.mono ?_; rintro _ wb ⟨rfl, rfl⟩
              have hon := HI9.out.on
              have r1 := old1 hon
              have r2 := old1 hs9
              have r3 := old1 ht9
              have HST := Aside0.mk (And.intro hs9 ht9)
              go_wp2_with (fail)
              have HWJ := Aside0.mk (show WayN N (way ++ [(j : Int)]) from ⟨by simp, by have := HS.out; have := hlong; rw [List.length_append, List.length_singleton]; omega, fun y hy => by rcases List.mem_append.1 hy with h | h; exact HW.out.2.2 y h; rw [List.mem_singleton] at h; rw [h]; have := HJ0.out; omega⟩)
              have HLJ := Aside0.mk (show (way ++ [(j : Int)]).length = L + 1 by rw [List.length_append, List.length_singleton, HLW.out])
              go_region_law (first
                | (refine step_cut_own (W := wb.drew) rfl (.tmp 101) (.tmp 103) 23 rfl Try.underlying23 info3c (some ad) way L HLW.out HL100.out (j : Int) (by simp [Act.eval, Act.put]) (by simp [Act.eval, Act.put]) ?hC ?_; (case hC => exact Kd.C_drew HC9.out); intro v51 w51 ho51 hb51; obtain ⟨A51, c51, e51, hl51, hc51⟩ := Kd.R_reads ho51; rw [HLJ.out] at e51 hl51 hc51; subst e51; have HB51 := Aside0.mk hb51; have HC51 := Aside0.mk (And.intro hl51 hc51); have hon51 := ((HI9.out.below ((Below.refl _ _).drew)).below HB51.out).on; have hsa51 : w51.cell? ⟨g12, 0, none⟩ = some (.bool false) := ((((Below.refl _ _).drew).trans HB51.out).cell (World.block_lt_of_cell? wb _ HST.out.1)).trans HST.out.1; have hsb51 : w51.cell? ⟨g12, 1, none⟩ = some (.bool true) := ((((Below.refl _ _).drew).trans HB51.out).cell (World.block_lt_of_cell? wb _ HST.out.2)).trans HST.out.2; clear hb51 hl51 hc51 ho51)
                | (go_simp; refine (HIH.out d' rfl (j : Int) HWJ.out (L + 1) HLJ.out A51 c51 w51 HC51.out.2 HC51.out.1 ((HI9.out.below ((Below.refl _ _).drew)).below HB51.out)).mono ?_; intro e w52 hp52; obtain ⟨A52, n52, c52, rfl, HB52, HP52⟩ := srch_shape hp52; clear hp52))
              all_goals
                have hbw := HBW9.out.trans ((((Below.refl wb.heap.size wb).drew.trans (HB51.out.mono (Nat.le_refl _))).trans (HB52.out.mono HB51.out.size)).mono HBW9.out.size)
                have HBF := Aside0.mk hbw
                obtain ⟨r, hr⟩ : ∃ r, srchT N ms (long % 2 == 1) d' (way ++ [(j : Int)]) = r := ⟨_, rfl⟩
                have hs3 := HS2.out
                have hp3 := HP52.out
                rw [hr] at hs3 hp3
                clear HS2 HP52 hbw hr r1 r2 r3 hon51 hsa51 hsb51 hon hs9 ht9
                cases r with
                | none =>
                  have HS4 := Aside0.mk hs3
                  have e0 : A52.isNone = true := by rw [hp3.1]; rfl
                  clear hs3 hp3
                  go_wp2_with (fail)
                  go_roundw
                  case rel => exact ⟨j + 1, HJ1.out, HVI.out, HBF, HS4⟩
                  case measure => exact HMS.out
                | some l =>
                  have HS4 := Aside0.mk hs3
                  have e0 : A52.isNone = false := by obtain ⟨_, _, _, ad5, e, _⟩ := hp3; rw [e]; rfl
                  have HC5 := Aside0.mk hp3
                  clear hs3 hp3
                  go_wp2_with (fail)
                  go_ret
                  obtain ⟨hl1, hl2, rfl, ad5, rfl, hc5⟩ := HC5.out
                  rw [HS4.out]
                  exact ⟨HB1.out.trans (HBF.out.mono HB1.out.size), hl1, hl2, ad5, c52, rfl, hc5⟩
    · have d1 : decide ((j : Int) < (N : Int)) = false := decide_eq_false (by omega)
      have d1n : (j < N) = False := eq_false hjN
      have hsr := HSR.out
      rw [List.drop_eq_nil_of_le (by rw [List.length_range]; omega), List.findSome?_nil] at hsr
      have HSR2 := Aside0.mk hsr
      clear hsr HSR
      go_wp2_with (fail)
      go_ret
      rw [HSR2.out]
      exact ⟨HB1.out.trans (HBW.out.mono HB1.out.size), rfl⟩
end Go.Proofs.Ytagmadfllfcloaa.PC
end
section
set_option linter.unusedVariables false
set_option linter.unusedSimpArgs false
/- truth.Cycle's closure: the walk, part 3. -/
namespace Go.Proofs.Ytagmadfllfcloaa.PC
open Go.RowKit Go.Proofs.YtagmadfllfcloaaW.PrintWords Go.Proofs.YtagmadfllfcloaaW.PrintLast Go.Proofs.YtagmadfllfcloaaW.PrintMore
set_option linter.unusedVariables false
set_option linter.unusedSimpArgs false
attribute [local go_sem] run_store_func sl_neq
theorem cyc_on (N : Nat) (hN : N ≤ 10) (ms : List (List Nat)) (gO garc gl godd gon long : Nat) (hlong : long ≤ 12) : ∀ d, CycOn N ms gO garc gl godd gon long d := by
  intro d
  induction d using Nat.strongRecOn with
  | ind d ih =>
    by_cases hd : d = 0
    · exact cyc_zero N hN ms gO garc gl godd gon long hlong d ih hd
    · intro way h1 h2 e he
      cases e with
      | false => exact cyc_false N hN ms gO garc gl godd gon long hlong d ih hd way h1 h2 false he rfl
      | true => exact cyc_true N hN ms gO garc gl godd gon long hlong d ih hd way h1 h2 true he rfl
end Go.Proofs.Ytagmadfllfcloaa.PC
end
section
set_option linter.unusedVariables false
set_option linter.unusedSimpArgs false
/- shave.Kernel: the walk. -/
namespace Go.Proofs.Ytagmadfllfcloaa.PC
open Go.RowKit Go.Proofs.YtagmadfllfcloaaW.PrintWords Go.Proofs.YtagmadfllfcloaaW.PrintLast Go.Proofs.YtagmadfllfcloaaW.PrintMore
set_option linter.unusedVariables false
set_option linter.unusedSimpArgs false
theorem townE_zero' {n : Int} {l : List S41} (h : townE n l = 0) : 1 ≤ n ∧ n ≤ 12 ∧ l.all (inT n) = true := by
  unfold townE at h
  by_cases c1 : n < 1 ∨ 12 < n
  · rw [if_pos c1] at h; omega
  by_cases c2 : 80 < l.length
  · rw [if_neg c1, if_pos c2] at h; omega
  by_cases c3 : l.all (inT n) = true
  · exact ⟨by omega, by omega, c3⟩
  · rw [if_neg c1, if_neg c2, if_neg c3] at h; omega
/-- What Kernel tells. -/
def KerPost (n : Int) (l1 : List S41) (E : Int) (l : List Int) : Prop := (townE n l1 ≠ 0 ∧ E = townE n l1 ∧ l = []) ∨ (townE n l1 = 0 ∧ FirstPost n.toNat (townO l1) E l)
def KerEnd (n : Int) (l1 : List S41) (w : World) (e : Ending) (w' : World) : Prop := ∃ v E l, e = .returned (.tuple #[v, .int .i64 E]) ∧ Kd.R (Kd.int .i64) 3 w' w.heap.size (fun _ => True) v l ∧ KerPost n l1 E l ∧ Below w.heap.size w w'
set_option maxHeartbeats 8000000 in
set_option maxRecDepth 100000 in
theorem kernel_calls (n : Int) (A1 : Option Addr) (c1 : Nat) (l1 : List S41) (w : World) (hr1 : Kd.C k41 w A1 l1.length l1) :
    Calls Try.prog 9 #[.int .i64 n, .slice A1 l1.length c1] w (KerEnd n l1 w) := by
  have HOF := Lib.hid (shave_of n A1 c1 l1 w hr1)
  clear hr1
  obtain ⟨N, hN⟩ : ∃ N, l1.length = N := ⟨_, rfl⟩
  rw [hN] at HOF ⊢
  clear hN
  go_enter Try.func9, Try.ntmps9
  go_wp2_with (fail)
  refine HOF.out.mono ?_; rintro e wa ⟨⟨T, E, rfl, hE, n', o', ho', rfl, hP⟩, hb⟩
  obtain ⟨o0, o1, o2, o3, o4, o5, o6, o7, o8, o9, o10, o11, rfl⟩ := len12 ho'
  rw [show townV n' [o0, o1, o2, o3, o4, o5, o6, o7, o8, o9, o10, o11] = .agg #[.int .i64 n', .int .i64 (o0 : Int), .int .i64 (o1 : Int), .int .i64 (o2 : Int), .int .i64 (o3 : Int), .int .i64 (o4 : Int), .int .i64 (o5 : Int), .int .i64 (o6 : Int), .int .i64 (o7 : Int), .int .i64 (o8 : Int), .int .i64 (o9 : Int), .int .i64 (o10 : Int), .int .i64 (o11 : Int)] from rfl]
  have HB := Aside0.mk hb
  have HP := Aside0.mk hP
  have HE := Aside0.mk hE
  clear hb hP hE ho'
  by_cases cE : E = 0
  · subst cE
    obtain ⟨rfl, hto⟩ := HP.out rfl
    have HZ0 := Aside0.mk HE.out.symm
    clear HP HE
    have h1n := townE_zero' HZ0.out
    obtain ⟨M, rfl⟩ := Int.eq_ofNat_of_zero_le (show 0 ≤ n' by omega)
    have HTO := Aside0.mk hto
    have HFI := Lib.hid (fun (gt : Nat) (wr : World) (ht : TownAt wr gt (M : Int) [o0, o1, o2, o3, o4, o5, o6, o7, o8, o9, o10, o11]) => first_walk M (by omega) o0 o1 o2 o3 o4 o5 o6 o7 o8 o9 o10 o11 (fun j => by rw [hto]; exact townO_lt l1 (M : Int) h1n.2.1 h1n.2.2 j) gt wr ht)
    unfold townL at HFI
    clear h1n hto
    go_wp2_with (fail)
    generalize hW : (World.alloc _ _ : World) = w1
    obtain ⟨gt, hgt⟩ : ∃ gt, gt = wa.heap.size := ⟨_, rfl⟩
    have ht : TownAt w1 gt (M : Int) [o0, o1, o2, o3, o4, o5, o6, o7, o8, o9, o10, o11] := by rw [← hW, hgt]; exact alloc1_newT wa _
    have hb1 : Below w.heap.size w w1 := by rw [← hW]; exact HB.out.alloc HB.out.size _
    rw [← hgt]
    have HB1 := Aside0.mk hb1
    clear hW hb1 HB hgt
    refine (HFI.out gt w1 ht).mono ?_
    rintro e w2 ⟨v, E, l, rfl, hr, hf, hb2⟩
    have HR := Aside0.mk hr
    have HF := Aside0.mk hf
    have HB2 := Aside0.mk hb2
    clear hr hf hb2 ht
    go_wp2_with (fail)
    go_ret2
    exact ⟨_, _, l, rfl, Kd.R_lower HR.out HB1.out.size, .inr ⟨HZ0.out, by rw [← HTO.out]; exact HF.out⟩, HB1.out.trans (HB2.out.mono HB1.out.size)⟩
  · have d1 : (E == 0) = false := beq_eq_false_iff_ne.2 cE
    have d1n : (E = 0) = False := eq_false cE
    have HC := Aside0.mk cE
    clear cE HP
    go_wp2
    go_ret2
    exact ⟨_, _, [], rfl, Kd.R_nil _ _ _ _ _, .inl ⟨by rw [← HE.out]; exact HC.out, HE.out, rfl⟩, HB.out.alloc HB.out.size _⟩
end Go.Proofs.Ytagmadfllfcloaa.PC
end
section
set_option linter.unusedVariables false
set_option linter.unusedSimpArgs false
/- shave.Odd: the walk. -/
namespace Go.Proofs.Ytagmadfllfcloaa.PC
open Go.RowKit Go.Proofs.YtagmadfllfcloaaW.PrintWords Go.Proofs.YtagmadfllfcloaaW.PrintLast Go.Proofs.YtagmadfllfcloaaW.PrintMore
set_option linter.unusedVariables false
set_option linter.unusedSimpArgs false
attribute [local go_sem] run_store_func sl_neq
theorem C_one (w : World) (v : Int) : Kd.C (Kd.int .i64) (w.alloc (.cells #[.int .i64 v] 3)) (some ⟨w.heap.size, 0, none⟩) 1 [v] := by
  refine Kd.C_of_reads (d := (0 : Int)) ⟨rfl, by decide, fun _ => ⟨_, rfl, fun i hi => ?_⟩⟩
  obtain rfl : i = 0 := by omega
  show (w.alloc (.cells #[.int .i64 v] 3)).cell? ⟨w.heap.size, 0, none⟩ = _
  rw [World.cell?_alloc_at _ _ _ _ rfl]; rfl
/-- The round of one length. -/
def oddG (n : Nat) (o : List Nat) (k : Nat) : Option (List Int) := if k % 2 = 0 then srchAt n o (k + 1) else none
theorem odd_step (n : Nat) (o : List Nat) (lg : Nat) (h1 : lg % 2 = 1) (h2 : lg ≤ n) : ((List.range n).drop (lg - 1)).findSome? (oddG n o) = match srchAt n o lg with
    | some l => some l
    | none => ((List.range n).drop (lg + 1)).findSome? (oddG n o) := by
  obtain ⟨k, rfl⟩ : ∃ k, lg = k + 1 := ⟨lg - 1, by omega⟩
  have hk : k < (List.range n).length := by rw [List.length_range]; omega
  rw [Nat.add_sub_cancel, List.drop_eq_getElem_cons hk, List.findSome?_cons, List.getElem_range]
  have e1 : oddG n o k = srchAt n o (k + 1) := by unfold oddG; rw [if_pos (by omega)]
  rw [e1]
  cases srchAt n o (k + 1) with
  | some l => rfl
  | none =>
    show ((List.range n).drop (k + 1)).findSome? (oddG n o) = ((List.range n).drop (k + 1 + 1)).findSome? (oddG n o)
    by_cases hn : k + 1 < n
    · have hk1 : k + 1 < (List.range n).length := by rw [List.length_range]; omega
      have e2 : oddG n o (k + 1) = none := by unfold oddG; rw [if_neg (by omega)]
      rw [List.drop_eq_getElem_cons hk1, List.findSome?_cons, List.getElem_range, e2]
    · rw [List.drop_eq_nil_of_le (by rw [List.length_range]; omega), List.drop_eq_nil_of_le (by rw [List.length_range]; omega)]
/-- What Odd tells. -/
def OddPost (n : Int) (l1 : List S41) (E : Int) (l : List Int) : Prop := (townE n l1 ≠ 0 ∧ E = townE n l1 ∧ l = []) ∨ (townE n l1 = 0 ∧ (l, E) = oddF n.toNat (townO l1) ∧ l.length ≤ 12)
def OddEnd (n : Int) (l1 : List S41) (w : World) (e : Ending) (w' : World) : Prop := ∃ A c E l, e = .returned (.tuple #[.slice A l.length c, .int .i64 E]) ∧ Kd.C (Kd.int .i64) w' A l.length l ∧ OddPost n l1 E l ∧ Below w.heap.size w w'
/-- The length that is tried. -/
def longAt (v : Value) (w : World) : Nat := match v with
  | .pointer (some a) => match w.cell? a with
    | some x => (intOf x).toNat
    | none => 0
  | _ => 0
set_option maxHeartbeats 16000000 in
set_option maxRecDepth 100000 in
theorem odd_walk (n : Int) (A1 : Option Addr) (c1 : Nat) (l1 : List S41) (w : World) (hr1 : Kd.C k41 w A1 l1.length l1) :
    Calls Try.prog 12 #[.int .i64 n, .slice A1 l1.length c1] w (OddEnd n l1 w) := by
  have HOF := Lib.hid (shave_of n A1 c1 l1 w hr1)
  clear hr1
  obtain ⟨N, hN⟩ : ∃ N, l1.length = N := ⟨_, rfl⟩
  rw [hN] at HOF ⊢
  clear hN
  go_enter Try.func12, Try.ntmps12
  go_wp2_with (fail)
  refine HOF.out.mono ?_; rintro e wa ⟨⟨T, E, rfl, hE, n', o', ho', rfl, hP⟩, hb⟩
  obtain ⟨o0, o1, o2, o3, o4, o5, o6, o7, o8, o9, o10, o11, rfl⟩ := len12 ho'
  rw [show townV n' [o0, o1, o2, o3, o4, o5, o6, o7, o8, o9, o10, o11] = .agg #[.int .i64 n', .int .i64 (o0 : Int), .int .i64 (o1 : Int), .int .i64 (o2 : Int), .int .i64 (o3 : Int), .int .i64 (o4 : Int), .int .i64 (o5 : Int), .int .i64 (o6 : Int), .int .i64 (o7 : Int), .int .i64 (o8 : Int), .int .i64 (o9 : Int), .int .i64 (o10 : Int), .int .i64 (o11 : Int)] from rfl]
  have HB := Aside0.mk hb
  have HP := Aside0.mk hP
  have HE := Aside0.mk hE
  clear hb hP hE ho'
  by_cases cE : E = 0
  · subst cE
    obtain ⟨rfl, hto⟩ := HP.out rfl
    have HZ0 := Aside0.mk HE.out.symm
    clear HP HE
    have h1n := townE_zero' HZ0.out
    obtain ⟨M, rfl⟩ := Int.eq_ofNat_of_zero_le (show 0 ≤ n' by omega)
    have HTO := Aside0.mk hto
    have HM12 := Aside0.mk (show M ≤ 12 by omega)
    have HON := Lib.hid (fun (gl gon gt long d : Nat) (hlong : long ≤ 12) (i : Nat) (hi : i < 12) (hd : 1 + d = long) (A : Option Addr) (wr : World) (hc : Kd.C (Kd.int .i64) wr A 1 [(i : Int)]) hI => odd_on M (by omega) [o0, o1, o2, o3, o4, o5, o6, o7, o8, o9, o10, o11] rfl (fun j => by rw [hto]; exact townO_lt l1 (M : Int) h1n.2.1 h1n.2.2 j) gl gon gt long hlong d [(i : Int)] hd ⟨by simp, by simp, fun y hy => by rw [List.mem_singleton] at hy; omega⟩ A 1 wr hc (Nat.le_refl 1) hI)
    clear h1n hto
    go_wp2_with (fail)
    generalize hW : (World.alloc _ _ : World) = w1
    obtain ⟨gt, hgt⟩ : ∃ gt, gt = wa.heap.size := ⟨_, rfl⟩
    obtain ⟨g0, hg0⟩ : ∃ g0, g0 = wa.heap.size + 1 := ⟨_, rfl⟩
    obtain ⟨o, ho⟩ : ∃ o, o = [o0, o1, o2, o3, o4, o5, o6, o7, o8, o9, o10, o11] := ⟨_, rfl⟩
    rw [← ho] at HTO
    simp only [← ho] at HON
    have ht : TownAt w1 gt (M : Int) o := by rw [← hW, hgt, ho]; exact alloc2_old wa _ _
    have hl0 : w1.cell? ⟨g0, 0, none⟩ = some (.int .i64 1) := by rw [← hW, hg0]; exact cell_blk (alloc2_new wa _ _)
    have hb1 : Below w.heap.size w w1 := by rw [← hW]; exact (HB.out.alloc HB.out.size _).alloc (Nat.le_trans HB.out.size (by simp)) _
    rw [← hg0, ← hgt]
    have HB1 := Aside0.mk hb1
    have HT1 := Aside0.mk ht
    have HL1 := Aside0.mk hl0
    clear hW hb1 HB hgt hg0 ho ht hl0
    go_loopw [8] (fun v8 wr => ∃ lg gl : Nat, lg % 2 = 1 ∧ lg ≤ M + 2 ∧ v8 = .pointer (some ⟨gl, 0, none⟩) ∧ Aside0 (wr.cell? ⟨gl, 0, none⟩ = some (.int .i64 (lg : Int))) ∧ Aside0 (TownAt wr gt (M : Int) o) ∧ Aside0 (Below w.heap.size w wr) ∧ Aside0 (((List.range M).findSome? (oddG M o)) = ((List.range M).drop (lg - 1)).findSome? (oddG M o))) (fun v8 wr => M + 3 - longAt v8 wr)
    case atStart => exact ⟨1, g0, rfl, by omega, rfl, HL1, HT1, HB1, ⟨rfl⟩⟩
    case round =>
      clear HL1 HT1 HB1
      obtain ⟨lg, gl, hodd, hlg, rfl, HL, HT, HBW, HF⟩ := hrel
      have hcl := HL.out
      by_cases hlM : lg ≤ M
      · have d1 : decide ((lg : Int) ≤ (M : Int)) = true := decide_eq_true (by omega)
        have d1n : (lg ≤ M) = True := eq_true hlM
        have HG := Aside0.mk (And.intro hodd (And.intro hlg hlM))
        clear hodd hlg
        go_wp2_with (fail)
        generalize hW : (World.alloc _ _ : World) = w2
        obtain ⟨gon, hgon⟩ : ∃ gon, gon = wr.heap.size := ⟨_, rfl⟩
        rw [← hgon] at hW ⊢
        have hb2 : Below wr.heap.size wr w2 := by rw [← hW]; exact (Below.refl _ _).alloc (Nat.le_refl _) _
        have hon : w2.cell? ⟨gon, 0, none⟩ = some (.func (.func 27) #[] #[.pointer (some ⟨gt, 0, none⟩), .pointer (some ⟨gl, 0, none⟩), .pointer (some ⟨gon, 0, none⟩)]) := by
          rw [← hW]
          refine (World.cell?_alloc_at _ _ _ _ hgon).trans ?_
          rfl
        have HI2 := Aside0.mk (show InvO M o gl gon gt lg w2 from ⟨(hb2.cell (World.block_lt_of_cell? wr _ hcl)).trans hcl, hon, HT.out.below hb2⟩)
        have HBW2 := Aside0.mk (HBW.out.trans (hb2.mono HBW.out.size))
        have HST := Aside0.mk (odd_step M o lg HG.out.1 HG.out.2.2)
        have e1 : wrap64 ((lg : Int) + 2) = ((lg + 2 : Nat) : Int) := by have := HM12.out; unfold wrap64; push_cast; omega
        have e1' : IntKind.i64.wrap ((lg : Int) + 2) = ((lg + 2 : Nat) : Int) := (i64_w _).trans e1
        clear hW hgon hb2 hon hcl hlM
        go_loopw [28] (fun v28 wr => ∃ i : Nat, i ≤ M ∧ v28 = .int .i64 (i : Int) ∧ Aside0 (Below w2.heap.size w2 wr) ∧ Aside0 (srchAt M o lg = ((List.range M).drop i).findSome? fun i : Nat => srch o (lg - 1) [(i : Int)])) (fun v28 _ => M - (intOf v28).toNat)
        case atStart => exact ⟨0, by omega, rfl, ⟨Below.refl _ _⟩, ⟨rfl⟩⟩
        case round =>
          obtain ⟨i, hi, rfl, HBI, HSI⟩ := hrel
          have HI3 := Aside0.mk (HI2.out.below HBI.out)
          have hon3 := HI3.out.on
          by_cases hiM : i < M
          · have d2 : decide ((i : Int) < (M : Int)) = true := decide_eq_true (by omega)
            have d2n : (i < M) = True := eq_true hiM
            have hiR : i < (List.range M).length := by rw [List.length_range]; exact hiM
            have hs := HSI.out
            rw [List.drop_eq_getElem_cons hiR, List.findSome?_cons, List.getElem_range] at hs
            have HS1 := Aside0.mk hs
            clear hs hiR HSI
            go_wp2_with (fail)
            generalize hW4 : (World.alloc _ _ : World) = w4
            have hb4 : Below wr.heap.size wr w4 := by rw [← hW4]; exact (Below.refl _ _).alloc (Nat.le_refl _) _
            have HB4 := Aside0.mk hb4
            obtain ⟨gi, hgi⟩ : ∃ gi, gi = wr.heap.size := ⟨_, rfl⟩
            have hc4 : Kd.C (Kd.int .i64) w4 (some ⟨gi, 0, none⟩) 1 [(i : Int)] := by rw [← hW4, hgi]; exact C_one wr i
            rw [← hgi]
            clear hW4 hgi
            refine (HON.out gl gon gt lg (lg - 1) (by have := HG.out; have := HM12.out; omega) i (by have := HM12.out; omega) (by have := HG.out; omega) _ w4 hc4 (HI3.out.below hb4)).mono ?_
            intro e w5 hp5
            obtain ⟨A5, n5, c5, rfl, HB5, HP5⟩ := srch_shape hp5
            clear hp5 hc4 hb4
            obtain ⟨r, hr⟩ : ∃ r, srch o (lg - 1) [(i : Int)] = r := ⟨_, rfl⟩
            have hs3 := HS1.out
            have hp3 := HP5.out
            rw [hr] at hs3 hp3
            have HBI5 := Aside0.mk (HBI.out.trans ((HB4.out.trans (HB5.out.mono HB4.out.size)).mono HBI.out.size))
            clear HS1 HP5 hr
            cases r with
            | none =>
              have HS4 := Aside0.mk hs3
              have e0 : A5.isNone = true := by rw [hp3.1]; rfl
              clear hs3 hp3
              go_wp2_with (fail)
              go_roundw
              case rel => exact ⟨i + 1, by omega, vI (by have := HM12.out; omega), HBI5, HS4⟩
              case measure => exact mstepA hiM (by have := HM12.out; omega)
            | some l =>
              have HS4 := Aside0.mk hs3
              have e0 : A5.isNone = false := by obtain ⟨_, _, _, ad5, e, _⟩ := hp3; rw [e]; rfl
              have HC5 := Aside0.mk hp3
              clear hs3 hp3
              go_wp2_with (fail)
              go_ret2
              obtain ⟨hl1, hl2, rfl, ad5, rfl, hc5⟩ := HC5.out
              refine ⟨_, _, _, l, rfl, hc5, .inr ⟨HZ0.out, ?_, hl2⟩, HBW2.out.trans (HBI5.out.mono HBW2.out.size)⟩
              have hf := HF.out
              rw [HST.out, HS4.out] at hf
              rw [← HTO.out]
              show (l, (0 : Int)) = (match (List.range M).findSome? (oddG M o) with | some l => (l, (0 : Int)) | none => ([], 10))
              rw [hf]
          · have d2 : decide ((i : Int) < (M : Int)) = false := decide_eq_false (by omega)
            have d2n : (i < M) = False := eq_false hiM
            have hl3 := HI3.out.l
            have hs := HSI.out
            rw [List.drop_eq_nil_of_le (by rw [List.length_range]; omega), List.findSome?_nil] at hs
            have hst := HST.out
            rw [hs] at hst
            have HF2 := Aside0.mk (HF.out.trans hst)
            clear hs hst HSI HST
            go_wp2_with (fail)
            generalize hW6 : (World.alloc _ _ : World) = w6
            have hb6 : Below wr.heap.size wr w6 := by rw [← hW6]; exact (Below.refl _ _).alloc (Nat.le_refl _) _
            have hc6 : w6.cell? ⟨wr.heap.size, 0, none⟩ = some (.int .i64 ((lg + 2 : Nat) : Int)) := by
              rw [← hW6]
              refine (World.cell?_alloc_at _ _ _ _ rfl).trans ?_
              rw [Int.natCast_add]; rfl
            refine ⟨⟨lg + 2, wr.heap.size, by have := HG.out; omega, by have := HG.out; omega, rfl, ⟨hc6⟩, ⟨HI3.out.t.below hb6⟩, ⟨HBW2.out.trans ((HBI.out.trans (hb6.mono HBI.out.size)).mono HBW2.out.size)⟩, HF2⟩, ?_⟩
            show M + 3 - longAt (.pointer (some ⟨wr.heap.size, 0, none⟩)) w6 < M + 3 - longAt (.pointer (some ⟨gl, 0, none⟩)) _
            have q1 : longAt (.pointer (some ⟨wr.heap.size, 0, none⟩)) w6 = lg + 2 := by unfold longAt; simp only [hc6]; exact Int.toNat_natCast _
            have q2 := HL.out
            unfold longAt at q1 ⊢
            rw [q1]
            simp only [q2]
            show _ < M + 3 - ((lg : Int)).toNat
            have := HG.out
            omega
      · have d1 : decide ((lg : Int) ≤ (M : Int)) = false := decide_eq_false (by omega)
        have d1n : (lg ≤ M) = False := eq_false hlM
        have hf := HF.out
        rw [List.drop_eq_nil_of_le (by rw [List.length_range]; omega), List.findSome?_nil] at hf
        have HF2 := Aside0.mk (show oddF M (townO l1) = ([], 10) by rw [← HTO.out]; show (match (List.range M).findSome? (oddG M o) with | some l => (l, (0 : Int)) | none => ([], 10)) = _; rw [hf])
        clear HF hf hodd hlg
        go_wp2_with (fail)
        go_ret2
        exact ⟨_, _, _, [], rfl, Kd.C_nil _ _, .inr ⟨HZ0.out, HF2.out.symm, by simp⟩, HBW.out⟩
  · have d1 : (E == 0) = false := beq_eq_false_iff_ne.2 cE
    have d1n : (E = 0) = False := eq_false cE
    have HC := Aside0.mk cE
    clear cE HP
    go_wp2
    go_ret2
    exact ⟨_, _, _, [], rfl, Kd.C_nil _ _, .inl ⟨by rw [← HE.out]; exact HC.out, HE.out, rfl⟩, HB.out.alloc HB.out.size _⟩
end Go.Proofs.Ytagmadfllfcloaa.PC
end
section
set_option linter.unusedVariables false
set_option linter.unusedSimpArgs false
/- truth.Cycle: the walk. -/
namespace Go.Proofs.Ytagmadfllfcloaa.PC
open Go.RowKit Go.Proofs.YtagmadfllfcloaaW.PrintWords Go.Proofs.YtagmadfllfcloaaW.PrintLast Go.Proofs.YtagmadfllfcloaaW.PrintMore
set_option linter.unusedVariables false
set_option linter.unusedSimpArgs false
attribute [local go_sem] run_store_func sl_neq
/-- One length's round. -/
def cycG (N : Nat) (ms : List (List Nat)) (k : Nat) : Option (List Int) := (List.range N).findSome? fun i : Nat => srchT N ms ((k + 1) % 2 == 1) k [(i : Int)]
/-- A shortest odd cycle by truth, and the error. -/
def cycF (N : Nat) (ms : List (List Nat)) : List Int × Int := match (List.range N).findSome? (cycG N ms) with
  | some l => (l, 0)
  | none => ([], 10)
theorem cyc_step (N : Nat) (ms : List (List Nat)) (k : Nat) (h : k < N) : ((List.range N).drop k).findSome? (cycG N ms) = match cycG N ms k with
    | some l => some l
    | none => ((List.range N).drop (k + 1)).findSome? (cycG N ms) := by
  have hk : k < (List.range N).length := by rw [List.length_range]; omega
  rw [List.drop_eq_getElem_cons hk, List.findSome?_cons, List.getElem_range]
  cases cycG N ms k <;> rfl
def CycEnd (N : Nat) (ms : List (List Nat)) (w : World) (e : Ending) (w' : World) : Prop := ∃ A c E l, e = .returned (.tuple #[.slice A l.length c, .int .i64 E]) ∧ Kd.C (Kd.int .i64) w' A l.length l ∧ (l, E) = cycF N ms ∧ l.length ≤ 12 ∧ Below w.heap.size w w'
set_option maxHeartbeats 16000000 in
set_option maxRecDepth 100000 in
theorem cycle_walk (ms : List (List Nat)) (N : Nat) (hN : ms.length = N) (h1 : 1 ≤ N) (h2 : N ≤ 10) (hms : ∀ m ∈ ms, (∀ x ∈ m, x < N) ∧ (combS m).length ≤ 40) (A0 : Option Addr) (c0 : Nat) (w : World) (hr0 : Kd.C Kd.string w A0 N (ms.map combB)) :
    Calls Try.prog 11 #[.slice A0 N c0, .bool true] w (CycEnd N ms w) := by
  have HOF := Lib.hid (fun (wr : World) hr => of_comb ms N hN h1 h2 hms A0 c0 wr hr)
  have HAR := Lib.hid (fun (A : Option Addr) (c : Nat) (wr : World) hr => arcs_walk ms N hN h2 (fun m hm => (hms m hm).1) A c wr hr)
  have HON := Lib.hid (fun (gO garc gl godd gon long d : Nat) (hlong : long ≤ 12) (i : Nat) (hi : i < N) (hd : 1 + d = long) (A : Option Addr) (wr : World) (hc : Kd.C (Kd.int .i64) wr A 1 [(i : Int)]) hI => cyc_on N h2 ms gO garc gl godd gon long hlong d [(i : Int)] hd ⟨by simp, by simp, fun y hy => by rw [List.mem_singleton] at hy; omega⟩ true rfl A 1 wr hc (Nat.le_refl 1) hI)
  have HR0 := Aside0.mk hr0
  have HN := Aside0.mk (And.intro hN (And.intro h1 h2))
  clear hms hr0 hN h1 h2
  have hb1 : Below w.heap.size w (w.alloc (.cells #[.bool true] 4)) := (Below.refl _ _).alloc (Nat.le_refl _) _
  go_enter Try.func11, Try.ntmps11
  go_wp2_with (fail)
  generalize hW : (World.alloc _ _ : World) = w1
  rw [hW] at hb1
  obtain ⟨godd, hgo⟩ : ∃ godd, godd = w.heap.size := ⟨_, rfl⟩
  rw [← hgo]
  have hodd : w1.cell? ⟨godd, 0, none⟩ = some (.bool true) := by
    rw [← hW]
    refine (World.cell?_alloc_at _ _ _ _ hgo).trans ?_
    rfl
  have HB1 := Aside0.mk hb1
  have HD1 := Aside0.mk hodd
  clear hW hb1 hgo hodd
  refine (HOF.out w1 (Kd.C_below HR0.out HB1.out)).mono ?_; rintro e w2 ⟨v6, rfl, hr6, hb2⟩
  obtain ⟨A6, c6, rfl⟩ := Kd.R_slice hr6
  have hc6 := (Kd.R_reads' hr6).2.2
  have hn6 := HN.out.1
  rw [hn6] at hc6 ⊢
  have HC6 := Aside0.mk hc6
  have HB2 := Aside0.mk (HB1.out.trans (hb2.mono HB1.out.size))
  have HD2 := Aside0.mk ((hb2.cell (World.block_lt_of_cell? w1 _ HD1.out)).trans HD1.out)
  clear hr6 hc6 hn6 hb2 HB1 HD1
  go_wp2_with (fail)
  refine (HAR.out A6 c6 w2 HC6.out).mono ?_; rintro e w3 ⟨gO, rfl, ha, hb3⟩
  have HA3 := Aside0.mk ha
  have HB3 := Aside0.mk (HB2.out.trans (hb3.mono HB2.out.size))
  have HD3 := Aside0.mk ((hb3.cell (World.block_lt_of_cell? w2 _ HD2.out)).trans HD2.out)
  clear ha hb3 HB2 HD2 HC6
  go_wp2_with (fail)
  generalize hW : (World.alloc _ _ : World) = w4
  obtain ⟨garc, hga⟩ : ∃ garc, garc = w3.heap.size := ⟨_, rfl⟩
  obtain ⟨g0, hg0⟩ : ∃ g0, g0 = w3.heap.size + 1 := ⟨_, rfl⟩
  have hb4 : Below w3.heap.size w3 w4 := by rw [← hW]; exact below2 _ _ _
  have harc : w4.cell? ⟨garc, 0, none⟩ = some (.slice (some ⟨gO, 0, none⟩) N N) := by rw [← hW, hga]; exact cell_blk (alloc2_old w3 _ _)
  have hl0 : w4.cell? ⟨g0, 0, none⟩ = some (.int .i64 1) := by rw [← hW, hg0]; exact cell_blk (alloc2_new w3 _ _)
  rw [← hg0, ← hga]
  have HB4 := Aside0.mk (HB3.out.trans (hb4.mono HB3.out.size))
  have HD4 := Aside0.mk ((hb4.cell (World.block_lt_of_cell? w3 _ HD3.out)).trans HD3.out)
  have HA4 := Aside0.mk (HA3.out.below hb4)
  have HG4 := Aside0.mk harc
  have HL4 := Aside0.mk hl0
  clear hW hga hg0 hb4 harc hl0 HB3 HD3 HA3
  go_loopw [9] (fun v9 wr => ∃ lg gl : Nat, 1 ≤ lg ∧ lg ≤ N + 1 ∧ v9 = .pointer (some ⟨gl, 0, none⟩) ∧ Aside0 (wr.cell? ⟨gl, 0, none⟩ = some (.int .i64 (lg : Int))) ∧ Aside0 (Below w4.heap.size w4 wr) ∧ Aside0 (((List.range N).findSome? (cycG N ms)) = ((List.range N).drop (lg - 1)).findSome? (cycG N ms))) (fun v9 wr => N + 3 - longAt v9 wr)
  case atStart => exact ⟨1, g0, by omega, by omega, rfl, HL4, ⟨Below.refl _ _⟩, ⟨rfl⟩⟩
  case round =>
    clear HL4
    obtain ⟨lg, gl, hodd, hlg, rfl, HL, HBW, HF⟩ := hrel
    have hcl := HL.out
    by_cases hlM : lg ≤ N
    · have d1 : decide ((lg : Int) ≤ (N : Int)) = true := decide_eq_true (by omega)
      have d1n : (lg ≤ N) = True := eq_true hlM
      have HG := Aside0.mk (And.intro hodd (And.intro hlg hlM))
      clear hodd hlg
      go_wp2_with (fail)
      generalize hW : (World.alloc _ _ : World) = w5
      obtain ⟨gon, hgon⟩ : ∃ gon, gon = wr.heap.size := ⟨_, rfl⟩
      rw [← hgon] at hW ⊢
      have hb5 : Below wr.heap.size wr w5 := by rw [← hW]; exact (Below.refl _ _).alloc (Nat.le_refl _) _
      have hon : w5.cell? ⟨gon, 0, none⟩ = some (.func (.func 25) #[] #[.pointer (some ⟨garc, 0, none⟩), .pointer (some ⟨gl, 0, none⟩), .pointer (some ⟨godd, 0, none⟩), .pointer (some ⟨gon, 0, none⟩)]) := by
        rw [← hW]
        refine (World.cell?_alloc_at _ _ _ _ hgon).trans ?_
        rfl
      have hb45 := HBW.out.trans (hb5.mono HBW.out.size)
      have HI5 := Aside0.mk (show InvC N ms gO garc gl godd gon lg w5 from ⟨(hb45.cell (World.block_lt_of_cell? w4 _ HG4.out)).trans HG4.out, (hb5.cell (World.block_lt_of_cell? wr _ hcl)).trans hcl, (hb45.cell (World.block_lt_of_cell? w4 _ HD4.out)).trans HD4.out, hon, HA4.out.below hb45⟩)
      have HB5 := Aside0.mk hb45
      have hst := cyc_step N ms (lg - 1) (by have := HG.out; omega)
      rw [show lg - 1 + 1 = lg by have := HG.out; omega] at hst
      have HST := Aside0.mk hst
      have HGD := Aside0.mk (show cycG N ms (lg - 1) = (List.range N).findSome? fun i : Nat => srchT N ms (lg % 2 == 1) (lg - 1) [(i : Int)] by unfold cycG; rw [show lg - 1 + 1 = lg by have := HG.out; omega])
      have e1 : wrap64 ((lg : Int) + 1) = ((lg + 1 : Nat) : Int) := wI (by have := HG.out; have := HN.out; omega)
      have e1' : IntKind.i64.wrap ((lg : Int) + 1) = ((lg + 1 : Nat) : Int) := (i64_w _).trans e1
      clear hW hgon hb5 hon hcl hlM hb45 hst
      go_loopw [32] (fun v32 wi => ∃ i : Nat, i ≤ N ∧ v32 = .int .i64 (i : Int) ∧ Aside0 (Below w5.heap.size w5 wi) ∧ Aside0 (cycG N ms (lg - 1) = ((List.range N).drop i).findSome? fun i : Nat => srchT N ms (lg % 2 == 1) (lg - 1) [(i : Int)])) (fun v32 _ => N - (intOf v32).toNat)
      case atStart => exact ⟨0, by omega, rfl, ⟨Below.refl _ _⟩, HGD⟩
      case round =>
        clear HGD
        obtain ⟨i, hi, rfl, HBI, HSI⟩ := hrel
        have HI3 := Aside0.mk (HI5.out.below HBI.out)
        have hon3 := HI3.out.on
        by_cases hiM : i < N
        · have d2 : decide ((i : Int) < (N : Int)) = true := decide_eq_true (by omega)
          have d2n : (i < N) = True := eq_true hiM
          have hiR : i < (List.range N).length := by rw [List.length_range]; exact hiM
          have hs := HSI.out
          rw [List.drop_eq_getElem_cons hiR, List.findSome?_cons, List.getElem_range] at hs
          have HS1 := Aside0.mk hs
          clear hs hiR HSI
          go_wp2_with (fail)
          generalize hW4 : (World.alloc _ _ : World) = w6
          have hb6 : Below wr.heap.size wr w6 := by rw [← hW4]; exact (Below.refl _ _).alloc (Nat.le_refl _) _
          have HB6 := Aside0.mk hb6
          obtain ⟨gi, hgi⟩ : ∃ gi, gi = wr.heap.size := ⟨_, rfl⟩
          have hc6 : Kd.C (Kd.int .i64) w6 (some ⟨gi, 0, none⟩) 1 [(i : Int)] := by rw [← hW4, hgi]; exact C_one wr i
          rw [← hgi]
          clear hW4 hgi
          refine (HON.out gO garc gl godd gon lg (lg - 1) (by have := HG.out; have := HN.out; omega) i hiM (by have := HG.out; omega) _ w6 hc6 (HI3.out.below hb6)).mono ?_
          intro e w7 hp7
          obtain ⟨A5, n5, c5, rfl, HB7, HP5⟩ := srch_shape hp7
          clear hp7 hc6 hb6
          obtain ⟨r, hr⟩ : ∃ r, srchT N ms (lg % 2 == 1) (lg - 1) [(i : Int)] = r := ⟨_, rfl⟩
          have hs3 := HS1.out
          have hp3 := HP5.out
          rw [hr] at hs3 hp3
          have HBI5 := Aside0.mk (HBI.out.trans ((HB6.out.trans (HB7.out.mono HB6.out.size)).mono HBI.out.size))
          clear HS1 HP5 hr
          cases r with
          | none =>
            have HS4 := Aside0.mk hs3
            have e0 : A5.isNone = true := by rw [hp3.1]; rfl
            clear hs3 hp3
            go_wp2_with (fail)
            go_roundw
            case rel => exact ⟨i + 1, by omega, vI (by have := HN.out; omega), HBI5, HS4⟩
            case measure => exact mstepA hiM (by have := HN.out; omega)
          | some l =>
            have HS4 := Aside0.mk hs3
            have e0 : A5.isNone = false := by obtain ⟨_, _, _, ad5, e, _⟩ := hp3; rw [e]; rfl
            have HC5 := Aside0.mk hp3
            clear hs3 hp3
            go_wp2_with (fail)
            go_ret2
            obtain ⟨hl1, hl2, rfl, ad5, rfl, hc5⟩ := HC5.out
            refine ⟨_, _, _, l, rfl, hc5, ?_, hl2, HB4.out.trans ((HB5.out.trans (HBI5.out.mono HB5.out.size)).mono HB4.out.size)⟩
            have hf := HF.out
            rw [HST.out, HS4.out] at hf
            unfold cycF
            rw [hf]
        · have d2 : decide ((i : Int) < (N : Int)) = false := decide_eq_false (by omega)
          have d2n : (i < N) = False := eq_false hiM
          have hl3 := HI3.out.l
          have hs := HSI.out
          rw [List.drop_eq_nil_of_le (by rw [List.length_range]; omega), List.findSome?_nil] at hs
          have hst := HST.out
          rw [hs] at hst
          have HF2 := Aside0.mk (HF.out.trans hst)
          clear hs hst HSI HST
          go_wp2_with (fail)
          generalize hW6 : (World.alloc _ _ : World) = w6
          have hb6 : Below wr.heap.size wr w6 := by rw [← hW6]; exact (Below.refl _ _).alloc (Nat.le_refl _) _
          have hc6 : w6.cell? ⟨wr.heap.size, 0, none⟩ = some (.int .i64 ((lg + 1 : Nat) : Int)) := by
            rw [← hW6]
            refine (World.cell?_alloc_at _ _ _ _ rfl).trans ?_
            rw [Int.natCast_add]; rfl
          refine ⟨⟨lg + 1, wr.heap.size, by omega, by have := HG.out; omega, rfl, ⟨hc6⟩, ⟨HB5.out.trans ((HBI.out.trans (hb6.mono HBI.out.size)).mono HB5.out.size)⟩, HF2⟩, ?_⟩
          show N + 3 - longAt (.pointer (some ⟨wr.heap.size, 0, none⟩)) w6 < N + 3 - longAt (.pointer (some ⟨gl, 0, none⟩)) _
          have q1 : longAt (.pointer (some ⟨wr.heap.size, 0, none⟩)) w6 = lg + 1 := by unfold longAt; simp only [hc6]; exact Int.toNat_natCast _
          have q2 := HL.out
          unfold longAt at q1 ⊢
          rw [q1]
          simp only [q2]
          show _ < N + 3 - ((lg : Int)).toNat
          have := HG.out
          omega
    · have d1 : decide ((lg : Int) ≤ (N : Int)) = false := decide_eq_false (by omega)
      have d1n : (lg ≤ N) = False := eq_false hlM
      have hf := HF.out
      rw [List.drop_eq_nil_of_le (by rw [List.length_range]; omega), List.findSome?_nil] at hf
      have HF2 := Aside0.mk (show cycF N ms = ([], 10) by unfold cycF; rw [hf])
      clear HF hf hodd hlg
      go_wp2_with (fail)
      go_ret2
      exact ⟨_, _, _, [], rfl, Kd.C_nil _ _, HF2.out.symm, by simp, HB4.out.trans (HBW.out.mono HB4.out.size)⟩
end Go.Proofs.Ytagmadfllfcloaa.PC
end
section
set_option linter.unusedVariables false
set_option linter.unusedSimpArgs false
/- shave's listed and Is: the walks. -/
namespace Go.Proofs.Ytagmadfllfcloaa.PC
open Go.RowKit Go.Proofs.YtagmadfllfcloaaW.PrintWords Go.Proofs.YtagmadfllfcloaaW.PrintLast Go.Proofs.YtagmadfllfcloaaW.PrintMore
set_option linter.unusedVariables false
set_option linter.unusedSimpArgs false
/-- A list's members are a set's. -/
def ListIs (n s : Nat) (l : List Int) : Prop := s < 2 ^ n ∧ (∀ x ∈ l, 0 ≤ x ∧ x < (n : Int)) ∧ ∀ p, p < n → (s.testBit p = true ↔ (p : Int) ∈ l)
end Go.Proofs.Ytagmadfllfcloaa.PC
end
section
set_option linter.unusedVariables false
set_option linter.unusedSimpArgs false
/- shave.Sentences: the walk. -/
namespace Go.Proofs.Ytagmadfllfcloaa.PC
open Go.RowKit Go.Proofs.YtagmadfllfcloaaW.PrintWords Go.Proofs.YtagmadfllfcloaaW.PrintLast Go.Proofs.YtagmadfllfcloaaW.PrintMore
set_option linter.unusedVariables false
set_option linter.unusedSimpArgs false
/-- The sentences of a town, as lists of people. -/
def sentMs (n : Int) (l : List S41) : List (List Nat) := (List.range n.toNat).map fun i => memN ((townO l).getD i 0)
def sentOk (ms : List (List Nat)) : Bool := ms.all (fun m => decide ((combS m).length ≤ 40))
def sentF (n : Int) (l : List S41) : List ByteArray × Int :=
  if townE n l ≠ 0 then ([], townE n l) else if 10 < n then ([], 8) else if sentOk (sentMs n l) = true then ((sentMs n l).map combB, 0) else ([], 8)
theorem rune_enc (x : Nat) (hx : x < 12) : Utf8.encode (97 + (x : Int)) = ⟨#[UInt8.ofNat (97 + x)]⟩ := (show ∀ x : Nat, x < 12 → (Utf8.encode (97 + (x : Int))) = (⟨#[UInt8.ofNat (97 + x)]⟩ : ByteArray) by decide) x hx
theorem comb_last (y : Nat) : (⟨#[33]⟩ ++ ⟨#[UInt8.ofNat (97 + y)]⟩ : ByteArray) = combB [y] := by
  apply ByteArray.ext
  simp [combB, combS]
theorem comb_join (y : Nat) (r : List Nat) (hr : r ≠ []) : Lib.join (([⟨#[40]⟩, ⟨#[33]⟩ ++ ⟨#[UInt8.ofNat (97 + y)]⟩, ⟨#[38]⟩, combB r, ⟨#[41]⟩] : List ByteArray).map (·.data.toList)) (ByteArray.mk #[]).data.toList = combS (y :: r) := by
  rcases r with _ | ⟨z, r⟩
  · exact absurd rfl hr
  · simp [Lib.join, combB, combS]
theorem comb_len : ∀ m : List Nat, (combS m).length ≤ 5 * m.length + 1
  | [] => by simp [combS]
  | [x] => by simp [combS]
  | x :: y :: r => by have := comb_len (y :: r); simp only [combS, List.length_cons, List.length_append, List.length_nil] at this ⊢; omega
theorem alloc1_new (w : World) (X : Obj) : (w.alloc X).heap[w.heap.size]? = some X := by
  show (w.heap.push X)[w.heap.size]? = some X
  exact Array.getElem?_push_size
theorem townE_zero {n : Int} {l : List S41} (h : townE n l = 0) : 1 ≤ n ∧ n ≤ 12 ∧ l.all (inT n) = true := by
  unfold townE at h
  by_cases c1 : n < 1 ∨ 12 < n
  · rw [if_pos c1] at h; omega
  by_cases c2 : 80 < l.length
  · rw [if_neg c1, if_pos c2] at h; omega
  by_cases c3 : l.all (inT n) = true
  · exact ⟨by omega, by omega, c3⟩
  · rw [if_neg c1, if_neg c2, if_neg c3] at h; omega
set_option maxHeartbeats 8000000 in
set_option maxRecDepth 100000 in
theorem sentences_walk (n : Int) (A1 : Option Addr) (c1 : Nat) (l1 : List S41) (w : World) (hr1 : Kd.C k41 w A1 l1.length l1) :
    Calls Try.prog 6 #[.int .i64 n, .slice A1 l1.length c1] w fun e w' => ∃ v0_ : Value, e = .returned (.tuple #[v0_, .int .i64 (sentF n l1).2]) ∧ Kd.R Kd.string 9 w' w.heap.size (fun _ => True) v0_ (sentF n l1).1 ∧ Below w.heap.size w w' := by
  have HOF := Lib.hid (shave_of n A1 c1 l1 w hr1)
  clear hr1
  obtain ⟨N, hN⟩ : ∃ N, l1.length = N := ⟨_, rfl⟩
  rw [hN] at HOF ⊢
  clear hN
  go_enter Try.func6, Try.ntmps6
  go_wp2_with (fail)
  refine HOF.out.mono ?_; rintro e wa ⟨⟨T, E, rfl, hE, n', o', ho', rfl, hP⟩, hb⟩
  obtain ⟨o0, o1, o2, o3, o4, o5, o6, o7, o8, o9, o10, o11, rfl⟩ := len12 ho'
  rw [show townV n' [o0, o1, o2, o3, o4, o5, o6, o7, o8, o9, o10, o11] = .agg #[.int .i64 n', .int .i64 (o0 : Int), .int .i64 (o1 : Int), .int .i64 (o2 : Int), .int .i64 (o3 : Int), .int .i64 (o4 : Int), .int .i64 (o5 : Int), .int .i64 (o6 : Int), .int .i64 (o7 : Int), .int .i64 (o8 : Int), .int .i64 (o9 : Int), .int .i64 (o10 : Int), .int .i64 (o11 : Int)] from rfl]
  have HB := Aside0.mk hb
  have HP := Aside0.mk hP
  have HE := Aside0.mk hE
  clear hb hP hE ho'
  by_cases cE : E = 0
  · subst cE
    obtain ⟨rfl, hto⟩ := HP.out rfl
    have HZ0 := Aside0.mk HE.out.symm
    clear HP HE
    by_cases cn : 10 < n'
    · have hF : sentF n' l1 = ([], 8) := by unfold sentF; rw [if_neg (fun h => h HZ0.out), if_pos cn]
      have HF := Aside0.mk hF
      have d1 : decide (10 < n') = true := decide_eq_true cn
      clear hF
      go_wp2
      go_ret2
      exact ⟨_, by rw [HF.out]; rfl, by rw [HF.out]; exact Kd.R_nil _ _ _ _ _, HB.out.alloc HB.out.size _⟩
    have d1 : decide (10 < n') = false := decide_eq_false cn
    have hF : sentF n' l1 = if sentOk (sentMs n' l1) = true then ((sentMs n' l1).map combB, 0) else ([], 8) := by unfold sentF; rw [if_neg (fun h => h HZ0.out), if_neg cn]
    have h1n : 1 ≤ n' ∧ n' ≤ 12 ∧ l1.all (inT n') = true := townE_zero HZ0.out
    obtain ⟨M, rfl⟩ := Int.eq_ofNat_of_zero_le (show 0 ≤ n' by omega)
    have HF := Aside0.mk hF
    have HM := Aside0.mk (show 1 ≤ M ∧ M ≤ 10 by omega)
    have HLT := Lib.hid (fun j => townO_lt l1 (M : Int) h1n.2.1 h1n.2.2 j)
    clear hF h1n cn
    go_wp2_with (fail)
    generalize hW : (World.alloc _ _ : World) = w1
    obtain ⟨gt, hgt⟩ : ∃ gt, gt = wa.heap.size := ⟨_, rfl⟩
    have ht : TownAt w1 gt (M : Int) [o0, o1, o2, o3, o4, o5, o6, o7, o8, o9, o10, o11] := by rw [← hW, hgt]; exact alloc1_new wa _
    have hb1 : Below w.heap.size w w1 := by rw [← hW]; exact HB.out.alloc HB.out.size _
    rw [hto] at ht
    rw [← hgt]
    have HT := Aside0.mk ht
    have HB1 := Aside0.mk hb1
    clear ht hb1 hW HB hto hgt
    go_loopw [8, 28] (fun v8 v28 wr => ∃ i : Nat, i ≤ M ∧ v28 = .int .i64 (i : Int) ∧ Aside0 (sentOk ((sentMs M l1).take i) = true) ∧ Aside0 (TownAt wr gt (M : Int) (townO l1)) ∧ Aside0 (Kd.R Kd.string 9 wr w.heap.size (fun k => k ≠ gt) v8 (((sentMs M l1).take i).map combB)) ∧ Aside0 (Below w.heap.size w wr)) (fun _ v28 _ => M - (intOf v28).toNat)
    case atStart => exact ⟨0, by omega, rfl, ⟨rfl⟩, HT, ⟨Kd.R_nil _ _ _ _ _⟩, HB1⟩
    case round =>
      clear HT HB1
      obtain ⟨i, hi, rfl, HK, HT, HO, HB⟩ := hrel
      by_cases hiN : i < M
      · have d4 : decide ((i : Int) < (M : Int)) = true := decide_eq_true (by omega)
        have d4n : (i < M) = True := eq_true hiN
        have hA := HT.out.at i (by rw [townO_len]; have := HM.out; omega)
        obtain ⟨x, hx⟩ : ∃ x, (townO l1).getD i 0 = x := ⟨_, rfl⟩
        rw [hx] at hA
        have hlt : x < 4096 := by rw [← hx]; exact HLT.out i
        have hb12 : ((i : Int) < 12) = True := eq_true (by have := HM.out; omega)
        have hb12n : (i < 12) = True := eq_true (by have := HM.out; omega)
        have hTK : (sentMs M l1).take (i + 1) = (sentMs M l1).take i ++ [memN x] := by
          rw [List.take_succ_eq_append_getElem (by simp [sentMs]; omega)]
          simp only [sentMs, List.getElem_map, List.getElem_range, hx]
        have HTK := Aside0.mk hTK
        have HMC := Lib.hid (members_calls x hlt)
        have HMI := Aside0.mk (show ∀ y ∈ memN x, y < 12 from fun y hy => memN_lt hy)
        have HML := Aside0.mk (show (memN x).length ≤ 12 from by have := List.length_filter_le (fun i => x.testBit i) (List.range 12); simpa [memN] using this)
        unfold memI at HMC
        generalize memN x = m at HTK HMC HMI HML
        clear hTK hx hlt
        go_wp2_with (fail)
        refine (HMC.out _).mono ?_; rintro e wb ⟨v10, rfl, hr, hb⟩
        obtain ⟨A, c, rfl, hl, hc⟩ := Kd.R_reads hr
        rw [List.length_map] at hc hl ⊢
        have HC := Aside0.mk hc
        have HT2 := Aside0.mk (HT.out.below hb)
        have HO2 := Aside0.mk (Kd.R_below HO.out hb)
        have HB2 := Aside0.mk (HB.out.trans (hb.mono HB.out.size))
        clear hr hl hc hb hA HT HO HB
        obtain ⟨L, hL⟩ : ∃ L, m.length = L := ⟨_, rfl⟩
        have HL := Aside0.mk hL
        rw [hL] at HC HML ⊢
        clear hL
        obtain ⟨q, hq⟩ : ∃ q, wrap64 ((L : Int) - 1) = q := ⟨_, rfl⟩
        have hq' : IntKind.i64.wrap ((L : Int) - 1) = q := (i64_w _).trans hq
        have HQ := Aside0.mk (show q = (L : Int) - 1 by rw [← hq]; have := HML.out; unfold wrap64; omega)
        go_wp2_with (fail)
        go_loopw [11, 12] (fun v11 v12 wr => ∃ j : Nat, j ≤ L ∧ v12 = .int .i64 ((j : Int) - 1) ∧ v11 = .string (combB (m.drop j)) ∧ Aside0 (Kd.C (Kd.int .i64) wr A L (m.map fun x : Nat => (x : Int))) ∧ Aside0 (TownAt wr gt (M : Int) (townO l1)) ∧ Aside0 (Kd.R Kd.string 9 wr w.heap.size (fun k => k ≠ gt) u8 (((sentMs M l1).take i).map combB)) ∧ Aside0 (Below w.heap.size w wr)) (fun _ v12 _ => (intOf v12 + 1).toNat)
        case atStart => exact ⟨L, by omega, congrArg (Value.int .i64) HQ.out, by rw [List.drop_of_length_le (by have := HL.out; omega)]; rfl, HC, HT2, HO2, HB2⟩
        case round =>
          clear HC HT2 HO2 HB2
          obtain ⟨j, hj, rfl, rfl, HC, HT, HO, HB⟩ := hrel
          rcases j with _ | k
          · have h0 : combB (m.drop 0) = combB m := by rw [List.drop_zero]
            rw [h0]
            have hm1 : (((0 : Nat) : Int) - 1) = -1 := by omega
            rw [hm1]
            have HSZ := Aside0.mk (combB_size m)
            by_cases h40 : (combS m).length ≤ 40
            · have e1 : decide ((40 : Int) < ((combB m).size : Int)) = false := decide_eq_false (by rw [combB_size]; omega)
              have e2 : decide ((40 : Nat) < (combB m).size) = false := decide_eq_false (by rw [combB_size]; omega)
              have e3 : (40 < (combB m).size) = False := eq_false (by rw [combB_size]; omega)
              have HNX := Aside0.mk (show ((sentMs M l1).take (i + 1)).map combB = ((sentMs M l1).take i).map combB ++ [combB m] by rw [HTK.out, List.map_append]; rfl)
              have HKX := Aside0.mk (show sentOk ((sentMs M l1).take (i + 1)) = true by have h := HK.out; unfold sentOk at h ⊢; rw [HTK.out, List.all_append, h]; simpa using h40)
              have HIL := Aside0.mk (show (((sentMs M l1).take i).map combB).length ≤ 10 by rw [List.length_map]; have h := List.length_take_le i (sentMs M l1); have := HM.out; omega)
              clear h40
              generalize combB m = s at e1 e2 e3 HNX HSZ
              go_wp2_with (first | ((with_reducible refine gate_builtin (b := .append) (xs := #[.tmp 64, .tmp 66]) rfl ?_); at_builtin; refine Kd.R_append Kd.string (w0 := w) w.heap.size rfl (.tmp 64) (.tmp 66) 25 9 (.string ⟨#[]⟩) 16 rfl Try.underlying25 info9 rfl (by decide) (by omega) u8 (((sentMs M l1).take i).map combB) s [.string s] (fun k => k ≠ gt) (fun _ => False) rfl rfl ?aP (fun _ hk => hk.elim) ?aF ?aO ?aB ?aS ?aL ?_; (case aP => exact rfl); (case aF => exact (fun k hk => by have := HT.out.lt; omega)); (case aO => exact (by (with_reducible repeat (first | apply Kd.R_alloc | apply Kd.R_drewN | apply Kd.R_drew)); exact HO.out)); (case aB => exact HB.out); (case aS => exact HB.out.size); (case aL => have := HIL.out; omega); intro v1 w9 ho hb hg hat; rw [← HNX.out] at ho; have HO5 := Aside0.mk ho; have HB5 := Aside0.mk hb; have HT5 := Aside0.mk (show TownAt w9 gt (M : Int) (townO l1) from (hg.block gt HT.out.lt (fun h => (HO.out.1 gt h.symm) rfl)).trans HT.out); clear HB HO HT; clear ho hb hg hat))
              go_roundw
              case rel => exact ⟨i + 1, by omega, vI (by have := HM.out; omega), HKX, HT5, HO5, HB5⟩
              case measure => exact mstepA hiN (by have := HM.out; omega)
            · have e1 : decide ((40 : Int) < ((combB m).size : Int)) = true := decide_eq_true (by rw [combB_size]; omega)
              have e2 : decide ((40 : Nat) < (combB m).size) = true := decide_eq_true (by rw [combB_size]; omega)
              have e3 : (40 < (combB m).size) = True := eq_true (by rw [combB_size]; omega)
              have hF : sentF (M : Int) l1 = ([], 8) := by
                rw [HF.out, if_neg]
                intro h
                unfold sentOk at h
                rw [List.all_eq_true] at h
                have h2 := h m (List.mem_of_mem_take (i := i + 1) (by rw [HTK.out]; simp))
                exact h40 (of_decide_eq_true h2)
              have HF2 := Aside0.mk hF
              clear hF h40
              generalize combB m = s at e1 e2 e3 HSZ
              go_wp2
              go_ret2
              exact ⟨_, by rw [HF2.out]; rfl, by rw [HF2.out]; exact Kd.R_nil _ _ _ _ _, HB.out⟩
          · have hkL : k < m.length := by have := HL.out; omega
            have HKL := Aside0.mk hkL
            have hsub : (((k + 1 : Nat) : Int) - 1) = (k : Int) := by omega
            rw [hsub]
            obtain ⟨ad, e, hcell⟩ := at_scalar HC.out k (by have := HL.out; omega) (by rw [List.length_map]; exact hkL)
            subst e
            rw [List.getElem_map] at hcell
            obtain ⟨y, hy⟩ : ∃ y, m[k] = y := ⟨_, rfl⟩
            rw [hy] at hcell
            have hy12 : y < 12 := by rw [← hy]; exact HMI.out _ (List.getElem_mem _)
            have HD := Aside0.mk (show m.drop k = y :: m.drop (k + 1) by rw [← hy]; exact List.drop_eq_getElem_cons hkL)
            have e3 : Utf8.encode (wrap32 (wrap64 (97 + (y : Int)))) = ⟨#[UInt8.ofNat (97 + y)]⟩ := by
              rw [show wrap64 (97 + (y : Int)) = 97 + (y : Int) by unfold wrap64; omega, show wrap32 (97 + (y : Int)) = 97 + (y : Int) by unfold wrap32; omega]
              exact rune_enc y hy12
            have e4 : decide ((k : Int) < (L : Int)) = true := decide_eq_true (by have := HL.out; omega)
            have e5 : (k < L) = True := eq_true (by have := HL.out; omega)
            obtain ⟨c2, hc2⟩ : ∃ c2, UInt8.ofNat (97 + y) = c2 := ⟨_, rfl⟩
            have HC2 := Aside0.mk hc2
            rw [hc2] at e3
            clear hkL hsub hy hy12 hc2
            by_cases hk : k + 1 = L
            · have e6 : ((k : Int) == q) = true := beq_iff_eq.2 (by rw [HQ.out]; omega)
              have e6n : ((k : Int) = q) = True := eq_true (by rw [HQ.out]; omega)
              go_wp2_with (fail)
              refine ⟨⟨k, by omega, congrArg (Value.int .i64) (wD (by have := HML.out; omega)), congrArg Value.string ?_, HC, HT, HO, HB⟩, ?_⟩
              · rw [HD.out, List.drop_of_length_le (by have := HL.out; omega), ← HC2.out]
                exact comb_last y
              · rw [wD (by have := HML.out; omega)]
                simp only [intOf]
                omega
            · have e7 : ((k : Int) == q) = false := beq_eq_false_iff_ne.2 (by rw [HQ.out]; omega)
              have e8 : ((k : Int) = q) = False := eq_false (by rw [HQ.out]; omega)
              go_wp2_with (fail)
              have hr : m.drop (k + 1) ≠ [] := by intro h; have h2 := congrArg List.length h; rw [List.length_drop] at h2; have := HL.out; simp at h2; omega
              have hrl : (m.drop (k + 1)).length ≤ 12 := by rw [List.length_drop]; have := HL.out; have := HML.out; omega
              have hj := comb_join y (m.drop (k + 1)) hr
              rw [HC2.out, ← HD.out] at hj
              refine (sh_strings_Join wr.heap.size 0 5 [⟨#[40]⟩, ⟨#[33]⟩ ++ ⟨#[c2]⟩, ⟨#[38]⟩, combB (m.drop (k + 1)), ⟨#[41]⟩] ⟨#[]⟩ _ ?h1 ?h2 (by show (5 : Nat) ≤ _; omega) (by show (5 : Nat) ≤ _; omega) ?h3).mono ?_
              case h1 =>
                intro j x h
                rcases j with _ | _ | _ | _ | _ | j <;> simp at h <;> subst h <;> simp
              case h2 => simp
              case h3 => rw [hj]; exact Nat.le_trans (comb_len _) (by rw [HD.out, List.length_cons]; omega)
              rw [hj]
              rintro e wc ⟨rfl, hb⟩
              have hle : wr.heap.size ≤ (wr.alloc (.cells #[.string ⟨#[40]⟩, .string (⟨#[33]⟩ ++ ⟨#[c2]⟩), .string ⟨#[38]⟩, .string (combB (m.drop (k + 1))), .string ⟨#[41]⟩] 9)).heap.size := by simp
              have hbw : Below wr.heap.size wr wc := ((Below.refl _ wr).alloc (Nat.le_refl _) _).trans (hb.mono hle)
              have HC3 := Aside0.mk (Kd.C_below HC.out hbw)
              have HT3 := Aside0.mk (HT.out.below hbw)
              have HO3 := Aside0.mk (Kd.R_below HO.out hbw)
              have HB3 := Aside0.mk (HB.out.trans (hbw.mono HB.out.size))
              clear hb hbw hle hj hr hrl HC HT HO HB
              go_wp2_with (fail)
              refine ⟨⟨k, by omega, congrArg (Value.int .i64) (wD (by have := HML.out; omega)), rfl, HC3, HT3, HO3, HB3⟩, ?_⟩
              rw [wD (by have := HML.out; omega)]
              simp only [intOf]
              omega
      · have d4 : decide ((i : Int) < (M : Int)) = false := decide_eq_false (by omega)
        have d4n : (i < M) = False := eq_false hiN
        have hml : (sentMs M l1).length = M := by simp [sentMs]
        have htk : (sentMs M l1).take i = sentMs M l1 := List.take_of_length_le (by omega)
        rw [htk] at HO HK
        have HF2 := Aside0.mk (show sentF (M : Int) l1 = ((sentMs M l1).map combB, 0) by rw [HF.out, if_pos HK.out])
        clear hml htk
        go_wp2
        go_ret2
        exact ⟨_, by rw [HF2.out]; rfl, by rw [HF2.out]; exact Kd.R_mono HO.out (fun _ _ => trivial), HB.out⟩
  · have d1 : (E == 0) = false := beq_eq_false_iff_ne.2 cE
    have d1n : (E = 0) = False := eq_false cE
    have hF : sentF n l1 = ([], E) := by unfold sentF; rw [← HE.out, if_pos cE]
    have HF := Aside0.mk hF
    clear hF
    go_wp2
    go_ret2
    exact ⟨_, by rw [HF.out]; rfl, by rw [HF.out]; exact Kd.R_nil _ _ _ _ _, HB.out.alloc HB.out.size _⟩
end Go.Proofs.Ytagmadfllfcloaa.PC
end
section
set_option linter.unusedVariables false
set_option linter.unusedSimpArgs false
/- truth.next and truth.Least on the sentences of a town: the walks. -/
namespace Go.Proofs.Ytagmadfllfcloaa.PC
open Go.RowKit Go.Proofs.YtagmadfllfcloaaW.PrintWords Go.Proofs.YtagmadfllfcloaaW.PrintLast Go.Proofs.YtagmadfllfcloaaW.PrintMore
set_option linter.unusedVariables false
set_option linter.unusedSimpArgs false
theorem info5 : (Try.prog.info? 5).map (fun i => (i.zero, i.size, i.bytes)) = some (some (.int .u8 0), 1, 1) := by kernel_rfl
/-- The values behind one step, as far as they stand. -/
def partL (l : List UInt8) (ms : List (List Nat)) (i : Nat) : List Int := (ms.take i).map (fun m => (valC l m : Int)) ++ List.replicate (ms.length - i) 0
theorem partL_set (l : List UInt8) (ms : List (List Nat)) (i : Nat) (hi : i < ms.length) : (partL l ms i).set ((i : Int)).toNat (valC l ms[i] : Int) = partL l ms (i + 1) := by
  unfold partL
  rw [Int.toNat_natCast, List.take_succ_eq_append_getElem hi, List.map_append, List.set_append_right _ _ (by simp; omega)]
  rw [show ms.length - i = (ms.length - (i + 1)) + 1 by omega, List.replicate_succ]
  simp [Nat.min_eq_left (Nat.le_of_lt hi)]
theorem partL_0 (l : List UInt8) (ms : List (List Nat)) : partL l ms 0 = List.replicate ms.length 0 := by simp [partL]
theorem partL_end (l : List UInt8) (ms : List (List Nat)) : partL l ms ms.length = ms.map (fun m => (valC l m : Int)) := by simp [partL]
theorem R_open {α : Type} {enc : α → Value} {h1 : ∀ x, (enc x).oneCell' = true} {e base : Nat} {ok : Nat → Prop} {w : World} {v : Value} {xs : List α} (h : (Kd.scalar enc h1).R e w base ok v xs) (hn : 0 < xs.length) : ∃ g c, v = .slice (some ⟨g, 0, none⟩) xs.length c := by
  obtain ⟨A, c, rfl, hl, hc⟩ := Kd.R_reads h
  obtain ⟨ad, _, rfl, _⟩ := Kd.C_get hc (xs[0]) 0 (by omega) (by omega)
  obtain ⟨g, rfl⟩ := Kd.R_head h
  exact ⟨g, c, rfl⟩
set_option maxHeartbeats 4000000 in
set_option maxRecDepth 100000 in
theorem next_comb (ms : List (List Nat)) (N : Nat) (hN : ms.length = N) (h1 : 1 ≤ N) (h2 : N ≤ 10) (l : List UInt8) (hms : ∀ m ∈ ms, ∀ x ∈ m, x < l.length) (A0 : Option Addr) (c0 : Nat) (w : World) (hr0 : Kd.C kF w A0 N ms) :
    Calls Try.prog 21 #[.slice A0 N c0, .string ⟨l.toArray⟩] w fun e w' => e = .returned (.string (strOfNums (ms.map fun m => (valC l m : Int)))) ∧ Below w.heap.size w w' := by
  have HM := Aside0.mk hms
  have HR0 := Aside0.mk hr0
  have HN := Aside0.mk (show ms.length = N ∧ 1 ≤ N ∧ N ≤ 10 from ⟨hN, h1, h2⟩)
  clear hms hr0 hN h1 h2
  go_enter Try.func21, Try.ntmps21
  go_wp2_with (first | ((with_reducible refine gate_dst (N := 10) rfl ?_); refine Kd.R_make (Kd.int .u8) _ 5 rfl (N := 10) rfl 70 _ _ rfl (N : Int) rfl rfl Try.underlying70 (.int .u8 0) 1 info5 rfl (by decide) (by omega) 0 (ok := fun _ => True) (okp := fun _ => True) rfl (fun _ hk => hk) trivial (by omega) (by have := HN.out; rw [Int.toNat_natCast]; omega) (Below.refl _ _) (Nat.le_refl _) ?_; intro v1 w1 ho hb hg hnew; have HO := Aside0.mk ho; have HB := Aside0.mk hb; clear ho hb hg hnew))
  have ho := HO.out
  rw [Int.toNat_natCast, ← HN.out.1, ← partL_0 l ms] at ho
  have hpl : ∀ i, i ≤ N → (partL l ms i).length = N := fun i hi => by have := HN.out; simp [partL]; omega
  obtain ⟨g, c, rfl⟩ := R_open ho (by rw [hpl 0 (by omega)]; exact HN.out.2.1)
  rw [hpl 0 (by omega)] at ho ⊢
  have GB := Aside0.mk (show w.heap.size ≤ g from ((Kd.R_bound ho).1 g rfl).2.1)
  have HPL := Lib.hid hpl
  clear HO hpl
  have HO := Aside0.mk ho
  clear ho
  go_wp2
  go_loopw [13] (fun v13 wr => ∃ i : Nat, i ≤ N ∧ v13 = .int .i64 (i : Int) ∧ Aside0 (Kd.R (Kd.int .u8) 5 wr w.heap.size (fun _ => True) (.slice (some ⟨g, 0, none⟩) N c) (partL l ms i)) ∧ Aside0 (Below w.heap.size w wr)) (fun v13 _ => N - (intOf v13).toNat)
  case atStart => exact ⟨0, by omega, rfl, HO, HB⟩
  case round =>
    clear HO HB
    obtain ⟨i, hi, rfl, HO, HB⟩ := hrel
    by_cases hiN : i < N
    · have d3 : decide ((i : Int) < (N : Int)) = true := decide_eq_true (by omega)
      have d3n : (i < N) = True := eq_true hiN
      obtain ⟨hl, hn1, hn2⟩ := HN.out
      obtain ⟨ad, e, hcell⟩ := at_scalar HR0.out i hiN (by omega)
      subst e
      replace hcell := (HB.out.cell (World.block_lt_of_cell? w _ hcell)).trans hcell
      have hm := HM.out ms[i] (List.getElem_mem _)
      have HV := Lib.hid (value_comb l ms[i] hm)
      have HS := Aside0.mk (partL_set l ms i (by omega))
      generalize ms[i] = m at hcell HV HS
      rw [combV_is] at hcell
      clear hm hl hn1 hn2
      have hcase : m = [] ∨ (∃ x, m = [x]) ∨ ∃ x y r, m = x :: y :: r := by
        rcases m with _ | ⟨x, _ | ⟨y, r⟩⟩
        · exact .inl rfl
        · exact .inr (.inl ⟨x, rfl⟩)
        · exact .inr (.inr ⟨x, y, r, rfl⟩)
      have hfn : ∀ T F X, combT m = T → combF m = F → combX m = X → True := fun _ _ _ _ _ _ => trivial
      clear hfn
      obtain ⟨q, hq⟩ : ∃ q, valC l m = q := ⟨_, rfl⟩
      rw [hq] at HV HS
      clear hq
      rcases hcase with rfl | ⟨x, rfl⟩ | ⟨x, y, r, rfl⟩
      · have HV' := Lib.hid (show ∀ w, Calls Try.prog 80 #[.int .u8 49, .string ⟨l.toArray⟩] w fun e w' => e = .returned (.int .u8 (q : Int)) ∧ Below w.heap.size w w' from HV.out)
        replace hcell : wr.cell? (ad.add i) = some (.iface 109 (.int .u8 49)) := hcell
        clear HV
        go_wp2_with (first | (go_at_call 80; refine (HV'.out _).mono ?_; rintro e wa ⟨rfl, hb1⟩; have ho2 := Kd.R_below HO.out hb1; have hcf := Kd.R_celln 0 ho2 (i : Int) (by omega) (by omega); rw [Int.toNat_natCast] at hcf; obtain ⟨hcc, hff⟩ := hcf; have hp2 := Kd.R_putn ho2 (i : Int) (q : Int); rw [HS.out, Int.toNat_natCast] at hp2; have HO2 := Aside0.mk hp2; have HB2 := Aside0.mk (HB.out.trans (hb1.mono HB.out.size)); clear ho2 hp2 hb1 HO HB))
        go_roundw
        case rel => exact ⟨i + 1, by omega, vI (by have := HN.out; omega), HO2, ⟨HB2.out.setCell (p := ⟨g, i, none⟩) GB.out _⟩⟩
        case measure => exact mstepA hiN (by have := HN.out; omega)
      · have HV' := Lib.hid (show ∀ w, Calls Try.prog 84 #[.agg #[.iface 110 (.int .i64 (x : Int))], .string ⟨l.toArray⟩] w fun e w' => e = .returned (.int .u8 (q : Int)) ∧ Below w.heap.size w w' from HV.out)
        replace hcell : wr.cell? (ad.add i) = some (.iface 112 (.agg #[.iface 110 (.int .i64 (x : Int))])) := hcell
        clear HV
        go_wp2_with (first | (go_at_call 84; refine (HV'.out _).mono ?_; rintro e wa ⟨rfl, hb1⟩; have ho2 := Kd.R_below HO.out hb1; have hcf := Kd.R_celln 0 ho2 (i : Int) (by omega) (by omega); rw [Int.toNat_natCast] at hcf; obtain ⟨hcc, hff⟩ := hcf; have hp2 := Kd.R_putn ho2 (i : Int) (q : Int); rw [HS.out, Int.toNat_natCast] at hp2; have HO2 := Aside0.mk hp2; have HB2 := Aside0.mk (HB.out.trans (hb1.mono HB.out.size)); clear ho2 hp2 hb1 HO HB))
        go_roundw
        case rel => exact ⟨i + 1, by omega, vI (by have := HN.out; omega), HO2, ⟨HB2.out.setCell (p := ⟨g, i, none⟩) GB.out _⟩⟩
        case measure => exact mstepA hiN (by have := HN.out; omega)
      · have HV' := Lib.hid (show ∀ w, Calls Try.prog 87 #[.agg #[notV x, combV (y :: r), .int .u8 38], .string ⟨l.toArray⟩] w fun e w' => e = .returned (.int .u8 (q : Int)) ∧ Below w.heap.size w w' from HV.out)
        replace hcell : wr.cell? (ad.add i) = some (.iface 114 (.agg #[notV x, combV (y :: r), .int .u8 38])) := hcell
        clear HV
        generalize combV (y :: r) = Y at hcell HV'
        unfold notV at hcell HV'
        go_wp2_with (first | (go_at_call 87; refine (HV'.out _).mono ?_; rintro e wa ⟨rfl, hb1⟩; have ho2 := Kd.R_below HO.out hb1; have hcf := Kd.R_celln 0 ho2 (i : Int) (by omega) (by omega); rw [Int.toNat_natCast] at hcf; obtain ⟨hcc, hff⟩ := hcf; have hp2 := Kd.R_putn ho2 (i : Int) (q : Int); rw [HS.out, Int.toNat_natCast] at hp2; have HO2 := Aside0.mk hp2; have HB2 := Aside0.mk (HB.out.trans (hb1.mono HB.out.size)); clear ho2 hp2 hb1 HO HB))
        go_roundw
        case rel => exact ⟨i + 1, by omega, vI (by have := HN.out; omega), HO2, ⟨HB2.out.setCell (p := ⟨g, i, none⟩) GB.out _⟩⟩
        case measure => exact mstepA hiN (by have := HN.out; omega)
    · have d3 : decide ((i : Int) < (N : Int)) = false := decide_eq_false (by omega)
      have d3n : (i < N) = False := eq_false hiN
      obtain rfl : i = ms.length := by have := HN.out; omega
      have ho := HO.out
      rw [partL_end] at ho
      have hcv : (convert 70 9 (.slice (some ⟨g, 0, none⟩) N c)).run Try.prog wr = .ok (.string (strOfNums (ms.map fun m => (valC l m : Int)))) wr := Kd.C_string Try.underlying70 Try.underlying5 Try.underlying9 (by have h_ := (Kd.R_reads' ho).2.2; rw [List.length_map, HN.out.1] at h_; exact h_)
      clear ho HO
      go_wp2
      go_ret
      exact ⟨rfl, HB.out⟩
end Go.Proofs.Ytagmadfllfcloaa.PC
end
section
set_option linter.unusedVariables false
set_option linter.unusedSimpArgs false
/- truth.Least on the sentences of a town: the walk. -/
namespace Go.Proofs.Ytagmadfllfcloaa.PC
open Go.RowKit Go.Proofs.YtagmadfllfcloaaW.PrintWords Go.Proofs.YtagmadfllfcloaaW.PrintLast Go.Proofs.YtagmadfllfcloaaW.PrintMore
set_option linter.unusedVariables false
set_option linter.unusedSimpArgs false
/-- One step of the values. -/
def nextL (ms : List (List Nat)) (l : List UInt8) : List UInt8 := ms.map (fun m => UInt8.ofNat (valC l m))
/-- The values after some steps. -/
def itL (ms : List (List Nat)) : Nat → List UInt8
  | 0 => List.replicate ms.length 63
  | k + 1 => nextL ms (itL ms k)
theorem itL_len (ms : List (List Nat)) : ∀ k, (itL ms k).length = ms.length
  | 0 => by simp [itL]
  | k + 1 => by simp [itL, nextL]
theorem nextL_str (ms : List (List Nat)) (l : List UInt8) : strOfNums (ms.map fun m => (valC l m : Int)) = ⟨(nextL ms l).toArray⟩ := by
  unfold strOfNums nextL
  rw [List.map_map]
  rfl
set_option maxHeartbeats 4000000 in
set_option maxRecDepth 100000 in
theorem least_comb (ms : List (List Nat)) (N : Nat) (hN : ms.length = N) (h1 : 1 ≤ N) (h2 : N ≤ 10) (hms : ∀ m ∈ ms, (∀ x ∈ m, x < N) ∧ (combS m).length ≤ 40) (A0 : Option Addr) (c0 : Nat) (w : World) (hr0 : Kd.C Kd.string w A0 N (ms.map combB)) :
    Calls Try.prog 8 #[.slice A0 N c0] w fun e w' => e = .returned (.tuple #[.string ⟨(itL ms N).toArray⟩, .int .i64 0]) ∧ Below w.heap.size w w' := by
  have HOF := Lib.hid (of_comb ms N hN h1 h2 hms A0 c0 w hr0)
  have HNX := Lib.hid (fun (k : Nat) => next_comb ms N hN h1 h2 (itL ms k) (fun m hm x hx => by rw [itL_len, hN]; exact (hms m hm).1 x hx))
  have HRP := Lib.hid (fun w => sh_strings_Repeat ⟨#[63]⟩ N w (by omega) (by show 1 * N ≤ _; omega))
  have hrl : (ByteArray.mk (Lib.repeatL (ByteArray.mk #[63]).data.toList N).toArray) = ⟨(itL ms 0).toArray⟩ := by
    unfold itL
    rw [hN]
    congr 2
    clear HOF HNX HRP hr0 hms hN h1 h2
    induction N with
    | zero => rfl
    | succ n ih => simp only [Lib.repeatL, List.replicate_succ]; rw [ih]; rfl
  rw [hrl] at HRP
  have HN := Aside0.mk (show ms.length = N ∧ 1 ≤ N ∧ N ≤ 10 from ⟨hN, h1, h2⟩)
  clear hms hr0 hN h1 h2 hrl
  go_enter Try.func8, Try.ntmps8
  go_wp2_with (fail)
  refine HOF.out.mono ?_; rintro e wa ⟨v0, rfl, ho, hb⟩
  obtain ⟨A, c, rfl, hl, hc⟩ := Kd.R_reads ho
  rw [HN.out.1] at hc ⊢
  have HC := Aside0.mk hc
  have HB := Aside0.mk hb
  clear ho hb hc hl
  go_wp2_with (fail)
  refine (HRP.out _).mono ?_; rintro e wb ⟨rfl, hb2⟩
  have HC2 := Aside0.mk (Kd.C_below HC.out hb2)
  have HB2 := Aside0.mk (HB.out.trans (hb2.mono HB.out.size))
  clear hb2 HC HB
  go_wp2_with (fail)
  go_loopw [6, 20] (fun v6 v20 wr => ∃ i : Nat, i ≤ N ∧ v20 = .int .i64 (i : Int) ∧ v6 = .string ⟨(itL ms i).toArray⟩ ∧ Aside0 (Kd.C kF wr A N ms) ∧ Aside0 (Below w.heap.size w wr)) (fun _ v20 _ => N - (intOf v20).toNat)
  case atStart => exact ⟨0, by omega, rfl, rfl, HC2, HB2⟩
  case round =>
    clear HC2 HB2
    obtain ⟨i, hi, rfl, rfl, HC, HB⟩ := hrel
    by_cases hiN : i < N
    · have d3 : decide ((i : Int) < (N : Int)) = true := decide_eq_true (by omega)
      have d3n : (i < N) = True := eq_true hiN
      go_wp2_with (fail)
      refine (HNX.out i A c _ HC.out).mono ?_; rintro e wc ⟨rfl, hb3⟩
      have HC3 := Aside0.mk (Kd.C_below HC.out hb3)
      have HB3 := Aside0.mk (HB.out.trans (hb3.mono HB.out.size))
      clear hb3 HC HB
      go_wp2_with (fail)
      go_roundw
      case rel => exact ⟨i + 1, by omega, vI (by have := HN.out; omega), congrArg Value.string (nextL_str _ _), HC3, HB3⟩
      case measure => exact mstepA hiN (by have := HN.out; omega)
    · have d3 : decide ((i : Int) < (N : Int)) = false := decide_eq_false (by omega)
      have d3n : (i < N) = False := eq_false hiN
      obtain rfl : i = N := by omega
      go_wp2
      go_ret2
      exact ⟨rfl, HB.out⟩
end Go.Proofs.Ytagmadfllfcloaa.PC
end
section
set_option linter.unusedVariables false
set_option linter.unusedSimpArgs false
/- The least fixed point of a town's sentences and its kernels, plainly. -/
namespace Go.Proofs.Ytagmadfllfcloaa.PC
set_option linter.unusedVariables false
set_option linter.unusedSimpArgs false
theorem mem_memN {s x : Nat} (hs : s < 4096) : x ∈ memN s ↔ s.testBit x = true := by
  unfold memN
  rw [List.mem_filter, List.mem_range]
  constructor
  · exact fun h => h.2
  · intro h
    refine ⟨?_, h⟩
    rcases Nat.lt_or_ge x 12 with h1 | h1
    · exact h1
    · rw [Nat.testBit_lt_two_pow (Nat.lt_of_lt_of_le hs (Nat.pow_le_pow_right (n := 2) (by decide) h1))] at h
      cases h
theorem arcs_in (n : Nat) (hn : n ≤ 12) : ∀ (l : List S41) (o : List Nat), (∀ j, o.getD j 0 < 2 ^ n) → l.all (inT (n : Int)) = true → ∀ j, (l.foldl arcO o).getD j 0 < 2 ^ n
  | [], _, h, _ => h
  | p :: r, o, h, ha => by
    rw [List.all_cons, Bool.and_eq_true] at ha
    rw [List.foldl_cons]
    refine arcs_in n hn r _ (fun j => ?_) ha.2
    have hp := of_decide_eq_true ha.1
    unfold arcO
    simp only [List.getD_eq_getElem?_getD, List.getElem?_set]
    split
    · split
      · refine Nat.or_lt_two_pow (n := n) ?_ (Nat.pow_lt_pow_right (by decide) (by omega))
        have := h p.f0.toNat
        simpa [List.getD_eq_getElem?_getD] using this
      · simp [Nat.two_pow_pos]
    · have := h j
      simpa [List.getD_eq_getElem?_getD] using this
theorem townO_in (n : Nat) (hn : n ≤ 12) (l : List S41) (h : l.all (inT (n : Int)) = true) (j : Nat) : (townO l).getD j 0 < 2 ^ n := by
  refine arcs_in n hn l _ (fun j => ?_) h j
  simp only [List.getD_eq_getElem?_getD, List.getElem?_replicate]
  split <;> simp [Nat.two_pow_pos]
end Go.Proofs.Ytagmadfllfcloaa.PC
end
section
set_option linter.unusedVariables false
set_option linter.unusedSimpArgs false
/- The closed example of layers 1 and 2: the walk. -/
namespace Go.Proofs.Ytagmadfllfcloaa.PC
open Go.RowKit Go.Proofs.YtagmadfllfcloaaW.PrintWords Go.Proofs.YtagmadfllfcloaaW.PrintLast Go.Proofs.YtagmadfllfcloaaW.PrintMore
set_option linter.unusedVariables false
set_option linter.unusedSimpArgs false
theorem cell_at {W : World} {g : Nat} {c : Array Value} {e : TypeId} {f : Nat × Nat} (h : W.heap[g]? = some (.cells c e f)) (j : Nat) : W.cell? ⟨g, j, none⟩ = c[j]? := by
  unfold World.cell?
  rw [h]
  rfl
/-- The town of the example. -/
def exL : List S41 := [⟨0, 1⟩, ⟨1, 2⟩]
theorem ex_C {W : World} {g : Nat} (h : W.heap[g]? = some (.cells #[.int .i64 0, .int .i64 1, .int .i64 1, .int .i64 2] 41 (0, 0))) : Kd.C k41 W (some ⟨g, 0, none⟩) 2 exL := by
  refine ⟨rfl, by decide, fun _ => ⟨_, rfl, fun j p hj => ?_⟩⟩
  rcases j with _ | _ | j
  · obtain rfl := Option.some.inj hj
    refine ⟨_, rfl, k41_mk W ⟨0, 1⟩, fun i u hu => ?_⟩
    rcases i with _ | _ | i
    · exact (cell_at h 0).trans hu
    · exact (cell_at h 1).trans hu
    · simp at hu
  · obtain rfl := Option.some.inj hj
    refine ⟨_, rfl, k41_mk W ⟨1, 2⟩, fun i u hu => ?_⟩
    rcases i with _ | _ | i
    · exact (cell_at h 2).trans hu
    · exact (cell_at h 3).trans hu
    · simp at hu
  · simp [exL] at hj
theorem ex_sent : sentF 3 exL = ([[1], [2], []].map combB, 0) := by decide +kernel
theorem ex_least : itL [[1], [2], []] 3 = [49, 48, 49] := by decide +kernel
theorem ex_town : townE 3 exL = 0 := by decide +kernel
theorem ex_ker : ∀ s, s < 8 → kerB 3 (townO exL) s = true → s = 5 := by decide +kernel
theorem ex_ker5 : kerB 3 (townO exL) 5 = true := by decide +kernel
theorem ex_mem : memI 5 = [0, 2] := by decide +kernel
set_option maxHeartbeats 8000000 in
set_option maxRecDepth 100000 in
theorem spoken_calls (w : World) : Calls Try.prog 5 #[] w fun e w' => e = .returned (.bool true) ∧ Below w.heap.size w w' := by
  go_enter Try.func5, Try.ntmps5
  go_wp2_with (fail)
  generalize hW : (World.alloc _ _ : World) = w1
  obtain ⟨g, hg⟩ : ∃ g, g = w.heap.size := ⟨_, rfl⟩
  have hh : w1.heap[g]? = some (.cells #[.int .i64 0, .int .i64 1, .int .i64 1, .int .i64 2] 41 (0, 0)) := by rw [← hW, hg]; exact alloc1_newT w _
  have hb1 : Below w.heap.size w w1 := by rw [← hW]; exact (Below.refl _ _).alloc (Nat.le_refl _) _
  rw [← hg]
  have HC := Aside0.mk (ex_C hh)
  have HB1 := Aside0.mk hb1
  clear hW hh hb1 hg
  refine (sentences_walk 3 (some ⟨g, 0, none⟩) 2 exL w1 HC.out).mono ?_
  rintro e w2 ⟨v2, rfl, hr2, hb2⟩
  rw [ex_sent] at hr2 ⊢
  obtain ⟨A2, c2, rfl, hl2, hc2⟩ := Kd.R_reads hr2
  have HC2 := Aside0.mk (show Kd.C Kd.string w2 A2 3 ([[1], [2], []].map combB) from hc2)
  have HB2 := Aside0.mk (HB1.out.trans (hb2.mono HB1.out.size))
  have HCC := Aside0.mk (Kd.C_below HC.out hb2)
  clear hr2 hl2 hc2 hb2 HC HB1
  go_wp2_with (fail)
  refine (least_comb [[1], [2], []] 3 rfl (by decide) (by decide) (by decide) A2 c2 w2 HC2.out).mono ?_
  rintro e w3 ⟨rfl, hb3⟩
  rw [ex_least]
  have HB3 := Aside0.mk (HB2.out.trans (hb3.mono HB2.out.size))
  have HC3 := Aside0.mk (Kd.C_below HCC.out hb3)
  clear hb3 HC2 HB2 HCC
  go_wp2_with (fail)
  refine (kernel_calls 3 (some ⟨g, 0, none⟩) 2 exL w3 HC3.out).mono ?_
  rintro e w4 ⟨v, E, l, rfl, hr, hk, hb4⟩
  have hE : E = 0 ∧ l = [0, 2] := by
    rcases hk with ⟨h1, _⟩ | ⟨_, h2⟩
    · exact absurd ex_town h1
    · rcases h2 with ⟨h3, s, h4, h5, h6⟩ | ⟨_, _, h3⟩
      · obtain rfl := ex_ker s h4 h5
        exact ⟨h3, by rw [h6, ex_mem]⟩
      · have h6 := h3 5 (by decide)
        have h7 := ex_ker5
        rw [show (3 : Int).toNat = 3 from rfl] at h6
        rw [h6] at h7
        cases h7
  obtain ⟨rfl, rfl⟩ := hE
  obtain ⟨A, c, rfl, hl, hc⟩ := Kd.R_reads hr
  have HB4 := Aside0.mk (HB3.out.trans (hb4.mono HB3.out.size))
  obtain ⟨ad, e, h0⟩ := at_scalar hc 0 (by decide) (by decide)
  subst e
  obtain ⟨ad', e, h1⟩ := at_scalar hc 1 (by decide) (by decide)
  cases e
  obtain ⟨gk, rfl⟩ := Kd.R_head hr
  replace h0 : w4.cell? ⟨gk, 0, none⟩ = some (.int .i64 0) := h0
  replace h1 : w4.cell? ⟨gk, 1, none⟩ = some (.int .i64 2) := h1
  have hln : (([0, 2] : List Int).length) = 2 := rfl
  rw [hln]
  clear hr hk hb4 hl hc hln HC3 HB3
  go_wp2
  go_ret
  exact ⟨rfl, HB4.out⟩
end Go.Proofs.Ytagmadfllfcloaa.PC
end
section
set_option linter.unusedVariables false
set_option linter.unusedSimpArgs false
/- pomadetop.TopGrounded: the walk. -/
namespace Go.Proofs.Ytagmadfllfcloaa.PC
open Go.RowKit Go.Proofs.YtagmadfllfcloaaW.PrintWords Go.Proofs.YtagmadfllfcloaaW.PrintLast Go.Proofs.YtagmadfllfcloaaW.PrintMore
set_option linter.unusedVariables false
set_option linter.unusedSimpArgs false
theorem sent_ok {M : Nat} {l1 : List S41} (hM : M ≤ 10) (hin : ∀ j, (townO l1).getD j 0 < 2 ^ M) (h : sentOk (sentMs (M : Int) l1) = true) : ∀ m ∈ sentMs (M : Int) l1, (∀ x ∈ m, x < M) ∧ (combS m).length ≤ 40 := by
  intro m hm
  refine ⟨fun x hx => ?_, of_decide_eq_true ((List.all_eq_true.1 h) m hm)⟩
  unfold sentMs at hm
  obtain ⟨i, _, rfl⟩ := List.mem_map.1 hm
  have h4 : (2 : Nat) ^ M ≤ 4096 := Nat.le_trans (Nat.pow_le_pow_right (by decide) (by omega) : 2 ^ M ≤ 2 ^ 12) (by decide)
  rw [mem_memN (Nat.lt_of_lt_of_le (hin i) h4)] at hx
  rcases Nat.lt_or_ge x M with h1 | h1
  · exact h1
  · rw [Nat.testBit_lt_two_pow (Nat.lt_of_lt_of_le (hin i) (Nat.pow_le_pow_right (by decide) h1))] at hx
    cases hx
/-- A list of the law: it is a kernel's. -/
def Good (n : Nat) (l1 : List S41) (W : World) (x : Option Addr × Nat × Nat) : Prop := ∃ zs s, Kd.C (Kd.int .i64) W x.1 x.2.1 zs ∧ ListIs n s zs ∧ kerB n (townO l1) s = true ∧ zs.length ≤ 50
theorem Good.below {n : Nat} {l1 : List S41} {W W1 : World} {x : Option Addr × Nat × Nat} (h : Good n l1 W x) (hb : Below W.heap.size W W1) : Good n l1 W1 x := by
  obtain ⟨zs, s, h1, h2⟩ := h
  exact ⟨zs, s, Kd.C_below h1 hb, h2⟩
end Go.Proofs.Ytagmadfllfcloaa.PC
end
section
set_option linter.unusedVariables false
set_option linter.unusedSimpArgs false
/- An odd cycle of the sentences is one of the town: both searches are one. -/
namespace Go.Proofs.Ytagmadfllfcloaa.PC
open Go.RowKit Go.Proofs.YtagmadfllfcloaaW.PrintWords Go.Proofs.YtagmadfllfcloaaW.PrintLast Go.Proofs.YtagmadfllfcloaaW.PrintMore
set_option linter.unusedVariables false
theorem find_filter {α β : Type} (p : α → Bool) (f : α → Option β) : ∀ l : List α, (l.filter p).findSome? f = l.findSome? fun x => if p x = true then f x else none
  | [] => rfl
  | x :: l => by
    by_cases h : p x = true
    · rw [List.filter_cons_of_pos h, List.findSome?_cons, List.findSome?_cons, if_pos h, find_filter p f l]
    · rw [List.filter_cons_of_neg h, List.findSome?_cons, if_neg h, find_filter p f l]
theorem find_map {α β γ : Type} (g : α → β) (f : β → Option γ) : ∀ l : List α, (l.map g).findSome? f = l.findSome? fun x => f (g x)
  | [] => rfl
  | x :: l => by rw [List.map_cons, List.findSome?_cons, List.findSome?_cons, find_map g f l]
theorem find_congr {α β : Type} {f g : α → Option β} : ∀ l : List α, (∀ x ∈ l, f x = g x) → l.findSome? f = l.findSome? g
  | [], _ => rfl
  | x :: l, h => by rw [List.findSome?_cons, List.findSome?_cons, h x (by simp), find_congr l fun y hy => h y (List.mem_cons_of_mem _ hy)]
theorem find_none {α β : Type} {f : α → Option β} : ∀ l : List α, (∀ x ∈ l, f x = none) → l.findSome? f = none
  | [], _ => rfl
  | x :: l, h => by rw [List.findSome?_cons, h x (by simp), find_none l fun y hy => h y (List.mem_cons_of_mem _ hy)]
theorem memN_range (s N : Nat) (hN : N ≤ 12) (hs : s < 2 ^ N) : memN s = (List.range N).filter (fun i => s.testBit i) := by
  unfold memN
  obtain ⟨d, hd⟩ : ∃ d, 12 = N + d := ⟨12 - N, by omega⟩
  rw [hd, List.range_add, List.filter_append]
  have : ((List.range d).map (N + ·)).filter (fun i => s.testBit i) = [] := by
    rw [List.filter_eq_nil_iff]
    intro i hi
    obtain ⟨j, _, rfl⟩ := List.mem_map.1 hi
    rw [Nat.testBit_lt_two_pow (Nat.lt_of_lt_of_le hs (Nat.pow_le_pow_right (by decide) (Nat.le_add_right N j)))]
    decide
  rw [this, List.append_nil]
theorem last_app (way : List Int) (j : Nat) : lastN (way ++ [(j : Int)]) = j := by
  unfold lastN
  simp [List.getD_eq_getElem?_getD]
theorem srchT_none (N : Nat) (ms : List (List Nat)) : ∀ (d : Nat) (way : List Int), srchT N ms false d way = none
  | 0, way => by unfold srchT; rw [if_neg (fun h => by cases h.1)]
  | d + 1, way => by
    unfold srchT
    refine find_none _ fun j _ => ?_
    by_cases h1 : j ∈ ms.getD (lastN way) []
    · rw [if_pos h1]
      by_cases h2 : (j : Int) ∈ way
      · rw [if_pos h2]
      · rw [if_neg h2]; exact srchT_none N ms d _
    · rw [if_neg h1]
theorem srchT_true (N : Nat) (hN : N ≤ 12) (o : List Nat) (hin : ∀ j, o.getD j 0 < 2 ^ N) (ms : List (List Nat)) (hms : ∀ i, i < N → ms.getD i [] = memN (o.getD i 0)) : ∀ (d : Nat) (way : List Int), lastN way < N → srchT N ms true d way = srch o d way
  | 0, way, hl => by
    have h4 : (2 : Nat) ^ N ≤ 4096 := Nat.le_trans (Nat.pow_le_pow_right (by decide) hN : 2 ^ N ≤ 2 ^ 12) (by decide)
    unfold srchT srch
    rw [hms _ hl]
    by_cases h : (o.getD (lastN way) 0).testBit (firstN way) = true
    · rw [if_pos h, if_pos ⟨rfl, (mem_memN (Nat.lt_of_lt_of_le (hin _) h4)).2 h⟩]
    · rw [if_neg h, if_neg (fun h2 => h ((mem_memN (Nat.lt_of_lt_of_le (hin _) h4)).1 h2.2))]
  | d + 1, way, hl => by
    have h4 : (2 : Nat) ^ N ≤ 4096 := Nat.le_trans (Nat.pow_le_pow_right (by decide) hN : 2 ^ N ≤ 2 ^ 12) (by decide)
    unfold srchT srch
    rw [hms _ hl]
    unfold memI
    rw [find_map, memN_range _ N hN (hin _), find_filter]
    refine find_congr _ fun j hj => ?_
    have hjN := List.mem_range.1 hj
    by_cases h : (o.getD (lastN way) 0).testBit j = true
    · rw [if_pos (List.mem_filter.2 ⟨hj, h⟩), if_pos h]
      by_cases h2 : (j : Int) ∈ way
      · rw [if_pos h2, if_pos h2]
      · rw [if_neg h2, if_neg h2]
        exact srchT_true N hN o hin ms hms d _ (by rw [last_app]; exact hjN)
    · rw [if_neg h, if_neg (fun h2 => h (List.mem_filter.1 h2).2)]
theorem cyc_odd (N : Nat) (hN : N ≤ 12) (o : List Nat) (hin : ∀ j, o.getD j 0 < 2 ^ N) (ms : List (List Nat)) (hms : ∀ i, i < N → ms.getD i [] = memN (o.getD i 0)) : cycF N ms = oddF N o := by
  have h : (List.range N).findSome? (cycG N ms) = (List.range N).findSome? (fun k => if k % 2 = 0 then srchAt N o (k + 1) else none) := by
    refine find_congr _ fun k hk => ?_
    unfold cycG srchAt
    by_cases hk2 : k % 2 = 0
    · have e : ((k + 1) % 2 == 1) = true := beq_iff_eq.2 (by omega)
      rw [if_pos hk2, e]
      refine find_congr _ fun i hi => ?_
      exact srchT_true N hN o hin ms hms k _ (by have := List.mem_range.1 hi; unfold lastN; simpa using this)
    · have e : ((k + 1) % 2 == 1) = false := beq_eq_false_iff_ne.2 (by omega)
      rw [if_neg hk2, e]
      exact find_none _ fun i _ => srchT_none N ms k _
  unfold cycF oddF
  rw [h]
  all_goals (cases (List.range N).findSome? (fun k => if k % 2 = 0 then srchAt N o (k + 1) else none) <;> rfl)
theorem sentMs_getD (N : Nat) (l : List S41) (i : Nat) (h : i < N) : (sentMs (N : Int) l).getD i [] = memN ((townO l).getD i 0) := by
  unfold sentMs
  simp [List.getD_eq_getElem?_getD, h]
end Go.Proofs.Ytagmadfllfcloaa.PC
end
