/- Parts of the proof of LawTopCycles, one behind the other: HOn HFirst HArcs HArcW HCon HCut HOdd HCycB HCyc0. -/
import Derived.ArgAppend
import Derived.Deep.RegionLawGrows
import Derived.Test.YtagmadfllfcloaaJTopCycles3
section
set_option linter.unusedVariables false
set_option linter.unusedSimpArgs false
/- shave's each and first: the walks. -/
namespace Go.Proofs.Ytagmadfllfcloaa.PC
open Go.RowKit Go.Proofs.YtagmadfllfcloaaW.PrintWords Go.Proofs.YtagmadfllfcloaaW.PrintLast Go.Proofs.YtagmadfllfcloaaW.PrintMore
set_option linter.unusedVariables false
set_option linter.unusedSimpArgs false
/-- The variable 'out'. -/
def OutAt (W : World) (g : Nat) (v : Value) : Prop := W.heap[g]? = some (.cells #[v] 23 (0, 0))
theorem OutAt.cell {W : World} {g : Nat} {v : Value} (h : OutAt W g v) : W.cell? ⟨g, 0, none⟩ = some v := by
  unfold OutAt at h
  unfold World.cell?
  rw [h]
  rfl
theorem OutAt.free {W : World} {g : Nat} {v : Value} (h : OutAt W g v) : W.frozen? ⟨g, 0, none⟩ = false := by
  unfold OutAt at h
  simp [World.frozen?, h]
theorem OutAt.lt {W : World} {g : Nat} {v : Value} (h : OutAt W g v) : g < W.heap.size := World.block_lt_of_cell? W _ h.cell
theorem OutAt.below {W W' : World} {g : Nat} {v : Value} (h : OutAt W g v) (hb : Below W.heap.size W W') : OutAt W' g v := (hb.block g h.lt).trans h
theorem OutAt.set {W : World} {g : Nat} {v : Value} (h : OutAt W g v) (u : Value) : OutAt (W.setCell ⟨g, 0, none⟩ u) g u := by
  have h2 : W.heap[g]? = some (.cells ([v] : List Value).toArray 23 (0, 0)) := h
  exact blk_set (j := 0) h2 u
/-- Nothing but 'out' and what is new has turned. -/
def KeptO (B g : Nat) (W W' : World) : Prop := Below B W W' ∧ KeepBut W W' g none
theorem KeptO.refl (B g : Nat) (W : World) : KeptO B g W W := ⟨Below.refl _ _, KeepBut.refl _ _ _⟩
theorem KeptO.trans {B g : Nat} {W W1 W2 : World} (h : KeptO B g W W1) (k : KeptO B g W1 W2) : KeptO B g W W2 := ⟨h.1.trans k.1, h.2.trans k.2 (.inl rfl)⟩
theorem KeptO.below {B g : Nat} {W W1 : World} (hb : Below W.heap.size W W1) (hB : B ≤ W.heap.size) : KeptO B g W W1 := ⟨hb.mono hB, KeepBut.of_below hb _ _⟩
theorem KeptO.out {B g : Nat} {W : World} (hg : B ≤ g) (u : Value) : KeptO B g W (W.setCell ⟨g, 0, none⟩ u) := ⟨(Below.refl _ _).setCell (p := ⟨g, 0, none⟩) hg u, (KeepBut.refl _ _ _).set_ 0 u⟩
theorem KeptO.cell {B g : Nat} {W W1 : World} (h : KeptO B g W W1) {a : Addr} {v : Value} (hc : W.cell? a = some v) (hne : a.block ≠ g) : W1.cell? a = some v := keep_cell h.2 hc hne
theorem KeptO.town {B g : Nat} {W W1 : World} (h : KeptO B g W W1) {gt : Nat} {n : Int} {o : List Nat} (ht : TownAt W gt n o) (hne : gt ≠ g) : TownAt W1 gt n o := h.2.blk ht hne (by simp)
set_option maxHeartbeats 8000000 in
set_option maxRecDepth 100000 in
theorem visit_walk (n : Nat) (hn : n ≤ 12) (o0 o1 o2 o3 o4 o5 o6 o7 o8 o9 o10 o11 : Nat) (hlt : ∀ j, [o0, o1, o2, o3, o4, o5, o6, o7, o8, o9, o10, o11].getD j 0 < 4096) (s : Nat) (hs : s < 2 ^ n) (B gout ghas gt : Nat) (v : Value) (w : World)
    (hB : B ≤ gout) (ho : OutAt w gout v) (hh : w.cell? ⟨ghas, 0, none⟩ = some (.func (.func 23) #[] #[.pointer (some ⟨gt, 0, none⟩)])) (ht : TownAt w gt (n : Int) [o0, o1, o2, o3, o4, o5, o6, o7, o8, o9, o10, o11]) (hn1 : ghas ≠ gout) (hn2 : gt ≠ gout) :
    Calls Try.prog 39 #[.int .i64 (s : Int), .pointer (some ⟨gout, 0, none⟩), .pointer (some ⟨ghas, 0, none⟩)] w fun e w' => ∃ v1, e = .returned (.bool (kerB n [o0, o1, o2, o3, o4, o5, o6, o7, o8, o9, o10, o11] s)) ∧ OutAt w' gout v1 ∧ Kd.R (Kd.int .i64) 3 w' B (fun k => k ≠ gout) v1 (memI s) ∧ KeptO B gout w w' := by
  have hs4 : s < 4096 := by have h4 : (2 : Nat) ^ n ≤ 2 ^ 12 := Nat.pow_le_pow_right (by decide) hn; omega
  have HM := Lib.hid (members_calls s hs4)
  have HH := Lib.hid (has_walk n hn o0 o1 o2 o3 o4 o5 o6 o7 o8 o9 o10 o11 hlt s hs gt)
  have HO := Aside0.mk ho
  have HT := Aside0.mk ht
  have HC := Aside0.mk hh
  have HB := Aside0.mk hB
  have HN := Aside0.mk (And.intro hn1 hn2)
  obtain ⟨r, hr⟩ : ∃ r, kerB n [o0, o1, o2, o3, o4, o5, o6, o7, o8, o9, o10, o11] s = r := ⟨_, rfl⟩
  rw [hr] at HH ⊢
  obtain ⟨ml, hml⟩ : ∃ ml, memI s = ml := ⟨_, rfl⟩
  rw [hml] at HM ⊢
  clear hn hlt hs hs4 ho hh ht hn1 hn2 hr hml hB
  go_enter Try.func39, Try.ntmps39
  go_wp2_with (fail)
  refine (HM.out _).mono ?_; rintro e wa ⟨v0, rfl, hr, hb⟩
  obtain ⟨A, c, rfl⟩ := Kd.R_slice hr
  generalize hL : ml.length = L at hr ⊢
  have HO1 := HO.out.below hb
  have hoc := HO1.cell
  have hof := HO1.free
  have HR := Aside0.mk hr
  have HB1 := Aside0.mk hb
  have HOA := Aside0.mk HO1
  have hch : (wa.setCell ⟨gout, 0, none⟩ (.slice A L c)).cell? ⟨ghas, 0, none⟩ = some (.func (.func 23) #[] #[.pointer (some ⟨gt, 0, none⟩)]) := ((KeptO.below (B := B) (g := gout) hb (Nat.le_trans HB.out (Nat.le_of_lt HO.out.lt))).trans (KeptO.out HB.out _)).cell HC.out HN.out.1
  clear hr hb HO1
  go_wp2_with (fail)
  generalize hwb : (World.setCell _ _ _ : World) = wb
  have hk1 : KeptO B gout w wb := by rw [← hwb]; exact (KeptO.below (B := B) (g := gout) HB1.out (Nat.le_trans HB.out (Nat.le_of_lt HO.out.lt))).trans (KeptO.out HB.out _)
  have ho1 : OutAt wb gout (.slice A L c) := by rw [← hwb]; exact HOA.out.set _
  have hr1 : Kd.R (Kd.int .i64) 3 wb B (fun k => k ≠ gout) (.slice A L c) ml := by
    rw [← hwb]
    exact Kd.R_far (Kd.R_lower (Kd.R_mono (ok' := fun k => k ≠ gout) (Kd.R_bound HR.out) (fun k hk => by have := HO.out.lt; have := hk.2.1; omega)) (Nat.le_trans HB.out (Nat.le_of_lt HO.out.lt))) (p := ⟨gout, 0, none⟩) (fun k hk => hk) _
  have ht1 := hk1.town HT.out HN.out.2
  have HK1 := Aside0.mk hk1
  have HO1 := Aside0.mk ho1
  have HR1 := Aside0.mk hr1
  clear hk1 ho1 hr1 hwb hch hoc hof
  refine (HH.out _ ht1).mono ?_; rintro e wc ⟨rfl, hb2⟩
  have HB2 := Aside0.mk hb2
  clear hb2 ht1
  go_wp2_with (fail)
  go_ret
  exact ⟨_, rfl, HO1.out.below HB2.out, Kd.R_below HR1.out HB2.out, HK1.out.trans (KeptO.below HB2.out (Nat.le_trans HB.out (Nat.le_of_lt HO1.out.lt)))⟩
/-- What stands still while the sets are gone through. -/
structure InvE (n : Nat) (o : List Nat) (B gv gp gon gout ghas gt : Nat) (W : World) : Prop where
  v : W.cell? ⟨gv, 0, none⟩ = some (.func (.func 39) #[] #[.pointer (some ⟨gout, 0, none⟩), .pointer (some ⟨ghas, 0, none⟩)])
  p : W.cell? ⟨gp, 0, none⟩ = some (.int .i64 ((2 ^ n - 1 : Nat) : Int))
  on : W.cell? ⟨gon, 0, none⟩ = some (.func (.func 50) #[] #[.pointer (some ⟨gv, 0, none⟩), .pointer (some ⟨gp, 0, none⟩), .pointer (some ⟨gon, 0, none⟩)])
  has : W.cell? ⟨ghas, 0, none⟩ = some (.func (.func 23) #[] #[.pointer (some ⟨gt, 0, none⟩)])
  t : TownAt W gt (n : Int) o
  out : ∃ u, OutAt W gout u
  ne : gv ≠ gout ∧ gp ≠ gout ∧ gon ≠ gout ∧ ghas ≠ gout ∧ gt ≠ gout
  low : B ≤ gout
theorem InvE.kept {n : Nat} {o : List Nat} {B gv gp gon gout ghas gt : Nat} {W W1 : World} (h : InvE n o B gv gp gon gout ghas gt W) (k : KeptO B gout W W1) (ho : ∃ u, OutAt W1 gout u) : InvE n o B gv gp gon gout ghas gt W1 :=
  ⟨k.cell h.v h.ne.1, k.cell h.p h.ne.2.1, k.cell h.on h.ne.2.2.1, k.cell h.has h.ne.2.2.2.1, k.town h.t h.ne.2.2.2.2, ho, h.ne, h.low⟩
/-- What the search tells. -/
def OnPost (n : Nat) (o : List Nat) (B gout set_ from_ : Nat) (w : World) (b : Bool) (w' : World) : Prop :=
  KeptO B gout w w' ∧ ∃ u, OutAt w' gout u ∧ (b = true → ∃ s, s < 2 ^ n ∧ kerB n o s = true ∧ Kd.R (Kd.int .i64) 3 w' B (fun k => k ≠ gout) u (memI s)) ∧ (b = false → ∀ s, s < 2 ^ n → s % 2 ^ from_ = set_ → kerB n o s = false)
theorem InvE.drew {n : Nat} {o : List Nat} {B gv gp gon gout ghas gt : Nat} {W : World} (h : InvE n o B gv gp gon gout ghas gt W) : InvE n o B gv gp gon gout ghas gt W.drew := ⟨h.v, h.p, h.on, h.has, h.t, h.out, h.ne, h.low⟩
theorem KeptO.drew {B g : Nat} {W W1 : World} (h : KeptO B g W W1) : KeptO B g W W1.drew := ⟨h.1.drew, keep_drew h.2⟩
theorem KeptO.drew0 (B g : Nat) (W : World) : KeptO B g W W.drew := (KeptO.refl B g W).drew
theorem lt64n {i : Nat} (h : i ≤ 12) : i < 64 := by omega
theorem lt64 {i : Nat} (h : i < 12) : i < 64 := by omega
theorem le_mil {i : Nat} (h : i < 12) : i ≤ 1000000 := by omega
theorem all_bit (n i : Nat) (hn : n ≤ 12) (hi : i < n) : bits .and .i64 (((2 ^ n - 1 : Nat) : Int) / 2 ^ i) 1 = 1 := by
  have h4 : (2 : Nat) ^ n ≤ 2 ^ 12 := Nat.pow_le_pow_right (by decide) hn
  have h := bit_val (2 ^ n - 1) i (by omega)
  have h2 : (2 ^ n - 1).testBit i = true := by rw [Nat.testBit_two_pow_sub_one]; simp [hi]
  rw [h2, if_pos rfl] at h
  have e : (((2 ^ n - 1 : Nat) : Int) / 2 ^ i) = (((2 ^ n - 1) / 2 ^ i : Nat) : Int) := by push_cast; rfl
  rw [e]
  exact h
theorem all_more (n i : Nat) (hi : i < n) : (0 : Int) < ((2 ^ n - 1 : Nat) : Int) / 2 ^ i := by
  have h1 : (2 : Nat) ^ i ≤ 2 ^ (n - 1) := Nat.pow_le_pow_right (by decide) (by omega)
  have h2 : (2 : Nat) ^ n = 2 * 2 ^ (n - 1) := by rw [← Nat.pow_succ']; congr 1; omega
  have h3 : 0 < (2 ^ n - 1) / 2 ^ i := Nat.div_pos (by have := Nat.two_pow_pos i; omega) (Nat.two_pow_pos i)
  have h4 : (((2 ^ n - 1 : Nat) : Int) / 2 ^ i) = (((2 ^ n - 1) / 2 ^ i : Nat) : Int) := by push_cast; rfl
  rw [h4]
  omega
theorem all_end (n : Nat) : ((2 ^ n - 1 : Nat) : Int) / 2 ^ n = 0 := by
  have h : (2 ^ n - 1) / 2 ^ n = 0 := Nat.div_eq_of_lt (by have := Nat.two_pow_pos n; omega)
  have h4 : (((2 ^ n - 1 : Nat) : Int) / 2 ^ n) = (((2 ^ n - 1) / 2 ^ n : Nat) : Int) := by push_cast; rfl
  rw [h4, h]
  rfl
theorem or_bit (s i : Nat) (hs : s < 2 ^ i) (hi : i < 12) : bits .or .i64 (s : Int) (wrap64 (2 ^ i)) = ((s + 2 ^ i : Nat) : Int) := by
  have h4 : (2 : Nat) ^ i ≤ 2 ^ 12 := Nat.pow_le_pow_right (by decide) (by omega)
  rw [or_val s i (by omega) hi]
  congr 1
  have h := Nat.two_pow_add_eq_or_of_lt hs 1
  rw [Nat.mul_one] at h
  rw [Nat.or_comm, ← h, Nat.add_comm]
set_option maxHeartbeats 16000000 in
set_option maxRecDepth 100000 in
theorem on_walk (n : Nat) (hn : n ≤ 12) (o0 o1 o2 o3 o4 o5 o6 o7 o8 o9 o10 o11 : Nat) (hlt : ∀ j, [o0, o1, o2, o3, o4, o5, o6, o7, o8, o9, o10, o11].getD j 0 < 4096) (B gv gp gon gout ghas gt : Nat) : ∀ (d from_ set_ : Nat) (hd : n - from_ = d) (hf : from_ ≤ n) (hs : set_ < 2 ^ from_) (w : World) (hI : InvE n [o0, o1, o2, o3, o4, o5, o6, o7, o8, o9, o10, o11] B gv gp gon gout ghas gt w),
    Calls Try.prog 50 #[.int .i64 (set_ : Int), .int .i64 (from_ : Int), .pointer (some ⟨gv, 0, none⟩), .pointer (some ⟨gp, 0, none⟩), .pointer (some ⟨gon, 0, none⟩)] w fun e w' => ∃ b, e = .returned (.bool b) ∧ OnPost n [o0, o1, o2, o3, o4, o5, o6, o7, o8, o9, o10, o11] B gout set_ from_ w b w' := by
  intro d
  induction d using Nat.strongRecOn with
  | ind d ih =>
  intro from_ set_ hd hf hs w hI
  have hs2 : set_ < 2 ^ n := Nat.lt_of_lt_of_le hs (Nat.pow_le_pow_right (by decide) hf)
  obtain ⟨u, hu⟩ := hI.out
  have HV := Lib.hid (visit_walk n hn o0 o1 o2 o3 o4 o5 o6 o7 o8 o9 o10 o11 hlt set_ hs2 B gout ghas gt u w hI.low hu hI.has hI.t hI.ne.2.2.2.1 hI.ne.2.2.2.2)
  have HI0 := Aside0.mk hI
  have hcv := hI.v
  have HIH := Lib.hid (fun (i : Nat) (h1 : from_ ≤ i) (h2 : i < n) (wr : World) (hr : InvE n [o0, o1, o2, o3, o4, o5, o6, o7, o8, o9, o10, o11] B gv gp gon gout ghas gt wr) => ih (n - (i + 1)) (by omega) (i + 1) (set_ + 2 ^ i) rfl (by omega) (by have := Nat.pow_le_pow_right (n := 2) (by decide) h1; rw [Nat.pow_succ]; omega) wr hr)
  obtain ⟨k0, hk0⟩ : ∃ k0, kerB n [o0, o1, o2, o3, o4, o5, o6, o7, o8, o9, o10, o11] set_ = k0 := ⟨_, rfl⟩
  rw [hk0] at HV
  have HK0 := Aside0.mk hk0
  have HS := Aside0.mk (show n ≤ 12 ∧ from_ ≤ n ∧ set_ < 2 ^ from_ ∧ set_ < 2 ^ n from ⟨hn, hf, hs, hs2⟩)
  clear hu hI ih hd hs hs2 hk0 hlt
  go_enter Try.func50, Try.ntmps50
  go_wp2_with (fail)
  refine HV.out.mono ?_; rintro e wa ⟨v1, rfl, ho1, hr1, hk1⟩
  have HK1 := Aside0.mk hk1
  have HO1 := Aside0.mk ho1
  have HR1 := Aside0.mk hr1
  have HI1 := Aside0.mk (HI0.out.kept hk1 ⟨_, ho1⟩)
  clear hk1 ho1 hr1 hcv
  cases k0 with
  | true =>
    go_wp2_with (fail)
    go_ret
    first | exact ⟨true, rfl, HK1.out, _, HO1.out, fun _ => ⟨set_, HS.out.2.2.2, HK0.out, HR1.out⟩, fun h => by cases h⟩ | exact Or.inr ⟨rfl, HK1.out, _, HO1.out, fun _ => ⟨set_, HS.out.2.2.2, HK0.out, HR1.out⟩, fun h => by cases h⟩
  | false =>
    go_wp2_with (fail)
    go_loopw [8] (fun v8 wr => ∃ i : Nat, from_ ≤ i ∧ i ≤ n ∧ v8 = .int .i64 (i : Int) ∧ Aside0 (InvE n [o0, o1, o2, o3, o4, o5, o6, o7, o8, o9, o10, o11] B gv gp gon gout ghas gt wr) ∧ Aside0 (KeptO B gout w wr) ∧ Aside0 (∀ s, s < 2 ^ n → s % 2 ^ from_ = set_ → s % 2 ^ i ≠ set_ → kerB n [o0, o1, o2, o3, o4, o5, o6, o7, o8, o9, o10, o11] s = false)) (fun v8 _ => n - (intOf v8).toNat)
    case atStart => exact ⟨from_, Nat.le_refl _, HS.out.2.1, rfl, HI1, HK1, ⟨fun s h1 h2 h3 => absurd h2 h3⟩⟩
    case round =>
      clear HI1 HK1 HO1 HR1 HI0 HV
      obtain ⟨i, hi1, hi2, rfl, HI, HK, HN⟩ := hrel
      have hp := HI.out.p
      by_cases hin : i < n
      · have e1 := all_bit n i hn hin
        have e2 := all_more n i hin
        have hon := HI.out.on
        have e3 := or_bit set_ i (Nat.lt_of_lt_of_le HS.out.2.2.1 (Nat.pow_le_pow_right (by decide) hi1)) (Nat.lt_of_lt_of_le hin hn)
        have HIN := Aside0.mk hin
        have HC := Lib.hid (HIH.out i hi1 hin)
        obtain ⟨p, hpp⟩ : ∃ p, ((2 ^ n - 1 : Nat) : Int) = p := ⟨_, rfl⟩
        rw [hpp] at hp e1 e2
        obtain ⟨j, hj⟩ : ∃ j, p / 2 ^ i = j := ⟨_, rfl⟩
        rw [hj] at e1 e2
        have e4 : decide (0 < j) = true := decide_eq_true e2
        have e5 : wrap64 ((i : Int) + 1) = ((i + 1 : Nat) : Int) := wI (le_mil (Nat.lt_of_lt_of_le hin hn))
        have e6 : IntKind.i64.wrap ((i : Int) + 1) = ((i + 1 : Nat) : Int) := (i64_w _).trans e5
        have hi64 : (i < 64) = True := eq_true (lt64 (Nat.lt_of_lt_of_le hin hn))
        obtain ⟨i', hi'⟩ : ∃ i', i' = i + 1 := ⟨_, rfl⟩
        obtain ⟨set', hset'⟩ : ∃ set', set' = set_ + 2 ^ i := ⟨_, rfl⟩
        rw [← hi'] at e5 e6 HC
        rw [← hset'] at e3 HC
        have e7 : bits .or .i64 (set_ : Int) (IntKind.i64.wrap (2 ^ i)) = (set' : Int) := by rw [i64_w]; exact e3
        have HIP := Aside0.mk (And.intro hi' hset')
        clear hpp e2 hi' hset'
        go_wp2_with (fail)
        go_region_held3 (fun W => W.cell? ⟨gp, 0, none⟩ = some (.int .i64 p) ∧ W.cell? ⟨gon, 0, none⟩ = some (.func (.func 50) #[] #[.pointer (some ⟨gv, 0, none⟩), .pointer (some ⟨gp, 0, none⟩), .pointer (some ⟨gon, 0, none⟩)]))
          (first | assumption | (exact ⟨hp, hon⟩) | (exact ⟨hkp.cell hp HI.out.ne.2.1, hkp.cell hon HI.out.ne.2.2.1⟩))
          (first
            | (go_at_call 50; refine (HC.out _ HI.out.drew).mono ?_; rintro e w2 ⟨b, rfl, hkp, hpost⟩))
        obtain ⟨u2, ho2, hT, hF⟩ := hpost
        have HO2 := Aside0.mk ho2
        have HPT := Aside0.mk hT
        have HPF := Aside0.mk hF
        have HK2 := Aside0.mk (HK.out.trans ((KeptO.drew0 B gout wr).trans hkp))
        have HI2 := Aside0.mk (HI.out.drew.kept hkp ⟨_, ho2⟩)
        clear ho2 hT hF hkp HC e1 e3 e7 hj
        cases b with
        | true =>
          go_wp2_with (fail)
          go_ret
          first | exact ⟨true, rfl, HK2.out, _, HO2.out, fun _ => HPT.out (by first | rfl | trivial), fun h => by cases h⟩ | exact Or.inr ⟨rfl, HK2.out, _, HO2.out, fun _ => HPT.out (by first | rfl | trivial), fun h => by cases h⟩
        | false =>
          have HN2 := Aside0.mk (show ∀ s, s < 2 ^ n → s % 2 ^ from_ = set_ → s % 2 ^ i' ≠ set_ → kerB n [o0, o1, o2, o3, o4, o5, o6, o7, o8, o9, o10, o11] s = false from fun s h1 h2 h3 => by
            by_cases h4 : s % 2 ^ i = set_
            · refine HPF.out (by first | rfl | trivial) s h1 ?_
              obtain ⟨q1, q2⟩ := HIP.out
              rw [q1] at h3 ⊢
              rw [q2]
              rw [Nat.mod_pow_succ, h4] at h3 ⊢
              rcases Nat.mod_two_eq_zero_or_one (s / 2 ^ i) with h5 | h5
              · rw [h5] at h3; omega
              · rw [h5]; omega
            · exact HN.out s h1 h2 h4)
          have HLT := Aside0.mk (show from_ ≤ i' ∧ i' ≤ n ∧ i < n ∧ n ≤ 1000 from ⟨by have := HIP.out.1; omega, by have := HIP.out.1; have := HIN.out; omega, HIN.out, by omega⟩)
          clear hn hf hi1 hi2 hin e4 e6 HPF HPT HN
          go_wp2_with (fail)
          go_roundw
          case rel => exact ⟨i', HLT.out.1, HLT.out.2.1, congrArg (Value.int .i64) e5, HI2, HK2, HN2⟩
          case measure =>
            have h_ := mstepA HLT.out.2.2.1 HLT.out.2.2.2
            exact h_
      · obtain rfl : i = n := by omega
        have e1 := all_end i
        have HNF := Aside0.mk (show ∀ s, s < 2 ^ i → s % 2 ^ from_ = set_ → kerB i [o0, o1, o2, o3, o4, o5, o6, o7, o8, o9, o10, o11] s = false from fun s h1 h2 => by
          by_cases h4 : s = set_
          · rw [h4]; exact HK0.out
          · exact HN.out s h1 h2 (by rw [Nat.mod_eq_of_lt h1]; exact h4))
        obtain ⟨p, hpp⟩ : ∃ p, ((2 ^ i - 1 : Nat) : Int) = p := ⟨_, rfl⟩
        rw [hpp] at hp e1
        have hi64 : (i < 64) = True := eq_true (lt64n hn)
        obtain ⟨u2, hu2⟩ := HI.out.out
        have HO2 := Aside0.mk hu2
        clear hpp hu2
        go_wp2_with (fail)
        go_ret
        first | exact ⟨false, rfl, HK.out, _, HO2.out, fun h => (by cases h), fun _ => HNF.out⟩ | exact Or.inl ⟨rfl, HK.out, _, HO2.out, fun h => (by cases h), fun _ => HNF.out⟩
end Go.Proofs.Ytagmadfllfcloaa.PC
end
section
set_option linter.unusedVariables false
set_option linter.unusedSimpArgs false
/- shave's each, first and Kernel: the walks. -/
namespace Go.Proofs.Ytagmadfllfcloaa.PC
open Go.RowKit Go.Proofs.YtagmadfllfcloaaW.PrintWords Go.Proofs.YtagmadfllfcloaaW.PrintLast Go.Proofs.YtagmadfllfcloaaW.PrintMore
set_option linter.unusedVariables false
set_option linter.unusedSimpArgs false
theorem run_store_func {P : Program} {w : World} {a : Addr} {m : Mode} (f : Fn) (x y : Array Value) : (store a (.func f x y) m).run P w = stored P w a (.func f x y) m := run_store P w a _ m rfl
attribute [local go_sem] run_store_func
theorem alloc3 (w : World) (X Y Z : Obj) : (((w.alloc X).alloc Y).alloc Z).heap[w.heap.size]? = some X ∧ (((w.alloc X).alloc Y).alloc Z).heap[w.heap.size + 1]? = some Y ∧ (((w.alloc X).alloc Y).alloc Z).heap[w.heap.size + 1 + 1]? = some Z ∧ Below w.heap.size w (((w.alloc X).alloc Y).alloc Z) := by
  have h1 : (w.alloc X).heap.size = w.heap.size + 1 := by simp
  have h2 : ((w.alloc X).alloc Y).heap.size = w.heap.size + 1 + 1 := by simp
  have b2 : Below ((w.alloc X).alloc Y).heap.size ((w.alloc X).alloc Y) (((w.alloc X).alloc Y).alloc Z) := (Below.refl _ _).alloc (Nat.le_refl _) _
  refine ⟨?_, ?_, ?_, (((Below.refl _ _).alloc (Nat.le_refl _) _).alloc (by rw [h1]; omega) _).alloc (by rw [h2]; omega) _⟩
  · exact (b2.block _ (by rw [h2]; omega)).trans (alloc2_old w X Y)
  · exact (b2.block _ (by rw [h2]; omega)).trans (alloc2_new w X Y)
  · rw [← h2]; exact alloc1_newT _ Z
theorem cell_blk {W : World} {g : Nat} {v : Value} {e : TypeId} {f : Nat × Nat} (h : W.heap[g]? = some (.cells #[v] e f)) : W.cell? ⟨g, 0, none⟩ = some v := by
  unfold World.cell?
  rw [h]
  rfl
/-- What the search tells its caller. -/
def EachPost (n : Nat) (o : List Nat) (B gout : Nat) (w : World) (e : Ending) (w' : World) : Prop := ∃ b, e = .returned (.bool b) ∧ OnPost n o B gout 0 0 w b w'
set_option maxHeartbeats 8000000 in
set_option maxRecDepth 100000 in
theorem each_walk (n : Nat) (hn : n ≤ 12) (o0 o1 o2 o3 o4 o5 o6 o7 o8 o9 o10 o11 : Nat) (hlt : ∀ j, [o0, o1, o2, o3, o4, o5, o6, o7, o8, o9, o10, o11].getD j 0 < 4096) (B gout ghas gt : Nat) (u : Value) (w : World) (hB : B ≤ gout) (ho : OutAt w gout u) (hh : w.cell? ⟨ghas, 0, none⟩ = some (.func (.func 23) #[] #[.pointer (some ⟨gt, 0, none⟩)])) (ht : TownAt w gt (n : Int) [o0, o1, o2, o3, o4, o5, o6, o7, o8, o9, o10, o11]) (hn1 : ghas ≠ gout) (hn2 : gt ≠ gout) :
    Calls Try.prog 38 #[.int .i64 ((2 ^ n - 1 : Nat) : Int), .func (.func 39) #[] #[.pointer (some ⟨gout, 0, none⟩), .pointer (some ⟨ghas, 0, none⟩)]] w (EachPost n [o0, o1, o2, o3, o4, o5, o6, o7, o8, o9, o10, o11] B gout w) := by
  have HON := Lib.hid (fun (gv gp gon : Nat) (wr : World) (hI : InvE n [o0, o1, o2, o3, o4, o5, o6, o7, o8, o9, o10, o11] B gv gp gon gout ghas gt wr) => on_walk n hn o0 o1 o2 o3 o4 o5 o6 o7 o8 o9 o10 o11 hlt B gv gp gon gout ghas gt (n - 0) 0 0 rfl (Nat.zero_le _) (by decide) wr hI)
  have HI := Aside0.mk (And.intro hB (And.intro ho (And.intro hh (And.intro ht (And.intro hn1 hn2)))))
  obtain ⟨p, hp⟩ : ∃ p, ((2 ^ n - 1 : Nat) : Int) = p := ⟨_, rfl⟩
  have HP := Aside0.mk hp
  rw [hp]
  clear hn hlt hB ho hh ht hn1 hn2 hp
  go_enter Try.func38, Try.ntmps38
  go_wp2_with (fail)
  generalize hW : (World.alloc _ _ : World) = w3
  obtain ⟨gp, hgp⟩ : ∃ gp, gp = w.heap.size := ⟨_, rfl⟩
  obtain ⟨gv, hgv⟩ : ∃ gv, gv = w.heap.size + 1 := ⟨_, rfl⟩
  obtain ⟨gon, hgon⟩ : ∃ gon, gon = w.heap.size + 1 + 1 := ⟨_, rfl⟩
  have f1 := alloc3 w (.cells #[.int .i64 p] 3) (.cells #[.func (.func 39) #[] #[.pointer (some ⟨gout, 0, none⟩), .pointer (some ⟨ghas, 0, none⟩)]] 60) (.cells #[.func (.func 50) #[] #[.pointer (some ⟨w.heap.size + 1, 0, none⟩), .pointer (some ⟨w.heap.size, 0, none⟩), .pointer (some ⟨w.heap.size + 1 + 1, 0, none⟩)]] 51)
  rw [hW, ← hgon, ← hgv, ← hgp] at f1
  rw [← hgon, ← hgv, ← hgp]
  obtain ⟨hB, ho, hh, ht, hn1, hn2⟩ := HI.out
  have hbb := f1.2.2.2
  rw [hgp] at hbb
  have hgo := ho.lt
  have hI : InvE n [o0, o1, o2, o3, o4, o5, o6, o7, o8, o9, o10, o11] B gv gp gon gout ghas gt w3 := ⟨cell_blk f1.2.1, by rw [HP.out]; exact cell_blk f1.1, cell_blk f1.2.2.1, (hbb.cell (World.block_lt_of_cell? w _ hh)).trans hh, (hbb.block gt ht.lt).trans ht, ⟨u, (hbb.block gout ho.lt).trans ho⟩, ⟨by omega, by omega, by omega, hn1, hn2⟩, hB⟩
  have HK := Aside0.mk (KeptO.below (B := B) (g := gout) hbb (Nat.le_trans hB (Nat.le_of_lt ho.lt)))
  clear hB ho hh ht hn1 hn2 hW f1 hgp hgv hgon hbb hgo
  refine (HON.out gv gp gon w3 hI).mono ?_; rintro e w4 ⟨b, rfl, hk, hu⟩
  have HU := Aside0.mk (And.intro hk hu)
  clear hk hu hI
  go_wp2_with (fail)
  go_ret
  exact ⟨b, rfl, HK.out.trans HU.out.1, HU.out.2⟩
/-- What is found. -/
def FirstPost (n : Nat) (o : List Nat) (E : Int) (l : List Int) : Prop := (E = 0 ∧ ∃ s, s < 2 ^ n ∧ kerB n o s = true ∧ l = memI s) ∨ (E = 10 ∧ l = [] ∧ ∀ s, s < 2 ^ n → kerB n o s = false)
def FirstEnd (n : Nat) (o : List Nat) (w : World) (e : Ending) (w' : World) : Prop := ∃ v E l, e = .returned (.tuple #[v, .int .i64 E]) ∧ Kd.R (Kd.int .i64) 3 w' w.heap.size (fun _ => True) v l ∧ FirstPost n o E l ∧ Below w.heap.size w w'
set_option maxHeartbeats 8000000 in
set_option maxRecDepth 100000 in
theorem first_walk (n : Nat) (hn : n ≤ 12) (o0 o1 o2 o3 o4 o5 o6 o7 o8 o9 o10 o11 : Nat) (hlt : ∀ j, [o0, o1, o2, o3, o4, o5, o6, o7, o8, o9, o10, o11].getD j 0 < 4096) (gt : Nat) (w : World) (ht : TownAt w gt (n : Int) [o0, o1, o2, o3, o4, o5, o6, o7, o8, o9, o10, o11]) :
    Calls Try.prog 22 #[townL n o0 o1 o2 o3 o4 o5 o6 o7 o8 o9 o10 o11, .func (.func 23) #[] #[.pointer (some ⟨gt, 0, none⟩)]] w (FirstEnd n [o0, o1, o2, o3, o4, o5, o6, o7, o8, o9, o10, o11] w) := by
  have HE := Lib.hid (every_walk n hn o0 o1 o2 o3 o4 o5 o6 o7 o8 o9 o10 o11)
  have HEA := Lib.hid (fun (B gout ghas : Nat) (u : Value) (wr : World) hB ho hh ht hn1 hn2 => each_walk n hn o0 o1 o2 o3 o4 o5 o6 o7 o8 o9 o10 o11 hlt B gout ghas gt u wr hB ho hh ht hn1 hn2)
  have HT := Aside0.mk ht
  unfold townL at HE ⊢
  obtain ⟨p, hp⟩ : ∃ p, ((2 ^ n - 1 : Nat) : Int) = p := ⟨_, rfl⟩
  rw [hp] at HE
  simp only [hp] at HEA
  clear hn hlt ht hp
  go_enter Try.func22, Try.ntmps22
  go_wp2_with (fail)
  generalize hW : (World.alloc _ _ : World) = w3
  obtain ⟨ghas, hgh⟩ : ∃ ghas, ghas = w.heap.size + 1 := ⟨_, rfl⟩
  obtain ⟨gout, hgo⟩ : ∃ gout, gout = w.heap.size + 1 + 1 := ⟨_, rfl⟩
  have f1 := alloc3 w (.cells #[.int .i64 (n : Int), .int .i64 (o0 : Int), .int .i64 (o1 : Int), .int .i64 (o2 : Int), .int .i64 (o3 : Int), .int .i64 (o4 : Int), .int .i64 (o5 : Int), .int .i64 (o6 : Int), .int .i64 (o7 : Int), .int .i64 (o8 : Int), .int .i64 (o9 : Int), .int .i64 (o10 : Int), .int .i64 (o11 : Int)] 44) (.cells #[.func (.func 23) #[] #[.pointer (some ⟨gt, 0, none⟩)]] 60) (.cells #[.slice none 0 0] 23)
  rw [hW, ← hgo, ← hgh] at f1
  rw [← hgo, ← hgh]
  have HF := Aside0.mk f1
  have HG := Aside0.mk (And.intro hgh hgo)
  clear hW f1 hgh hgo
  refine (HE.out w3).mono ?_; rintro e w4 ⟨rfl, hb4⟩
  have HB4 := Aside0.mk hb4
  clear hb4
  go_wp2_with (fail)
  have ho3 : OutAt w3 gout (.slice none 0 0) := HF.out.2.2.1
  have hbb := HF.out.2.2.2
  have ht3 : TownAt w3 gt (n : Int) [o0, o1, o2, o3, o4, o5, o6, o7, o8, o9, o10, o11] := (hbb.block gt HT.out.lt).trans HT.out
  have hh3 := cell_blk HF.out.2.1
  have hgt := HT.out.lt
  refine (HEA.out w.heap.size gout ghas _ w4 (by have := HG.out; omega) (ho3.below HB4.out) ((HB4.out.cell (World.block_lt_of_cell? w3 _ hh3)).trans hh3) (ht3.below HB4.out) (by have := HG.out; omega) (by have := HG.out; omega)).mono ?_
  rintro e w5 ⟨b, rfl, hk, u, ho5, hT, hF⟩
  have HO5 := Aside0.mk ho5
  have HR5 := Aside0.mk (And.intro hT hF)
  have HB5 := Aside0.mk (show Below w.heap.size w w5 from (hbb.trans (HB4.out.mono hbb.size)).trans hk.1)
  clear ho3 hbb ht3 hh3 hgt hk hT hF ho5
  cases b with
  | true =>
    obtain ⟨s, hs1, hs2, hs3⟩ := HR5.out.1 rfl
    have HS := Aside0.mk (And.intro hs1 (And.intro hs2 hs3))
    obtain ⟨A, c, rfl⟩ := Kd.R_slice hs3
    have hc5 := HO5.out.cell
    clear hs1 hs2 hs3
    go_wp2_with (fail)
    go_ret2
    exact ⟨_, _, _, rfl, Kd.R_mono HS.out.2.2 (fun _ _ => trivial), .inl ⟨rfl, s, HS.out.1, HS.out.2.1, rfl⟩, HB5.out⟩
  | false =>
    have HN := Aside0.mk (HR5.out.2 rfl)
    go_wp2_with (fail)
    go_ret2
    exact ⟨_, _, _, rfl, Kd.R_nil _ _ _ _ _, .inr ⟨rfl, rfl, fun s hs => HN.out s hs (by rw [Nat.pow_zero, Nat.mod_one])⟩, HB5.out⟩
end Go.Proofs.Ytagmadfllfcloaa.PC
end
section
set_option linter.unusedVariables false
set_option linter.unusedSimpArgs false
/- truth's letters and arcs on the sentences of a town: the walks. -/
namespace Go.Proofs.Ytagmadfllfcloaa.PC
open Go.RowKit Go.Proofs.YtagmadfllfcloaaW.PrintWords Go.Proofs.YtagmadfllfcloaaW.PrintLast Go.Proofs.YtagmadfllfcloaaW.PrintMore
set_option linter.unusedVariables false
set_option linter.unusedSimpArgs false
attribute [local go_sem] run_store_func
/-- A row of arcs: none is even. -/
def rowV (s : List Bool) : List Value := s.flatMap fun b => [.bool false, .bool b]
theorem rowV_0 : ∀ (s : List Bool) (j : Nat), j < s.length → (rowV s)[j * 2]? = some (.bool false)
  | b :: s, 0, _ => rfl
  | b :: s, j + 1, h => by
    rw [show (j + 1) * 2 = j * 2 + 1 + 1 by omega]
    show (Value.bool false :: Value.bool b :: rowV s)[j * 2 + 1 + 1]? = _
    rw [List.getElem?_cons_succ, List.getElem?_cons_succ]
    exact rowV_0 s j (Nat.lt_of_succ_lt_succ h)
theorem rowV_1 : ∀ (s : List Bool) (j : Nat), j < s.length → (rowV s)[j * 2 + 1]? = some (.bool (s.getD j false))
  | b :: s, 0, _ => rfl
  | b :: s, j + 1, h => by
    rw [show (j + 1) * 2 + 1 = j * 2 + 1 + 1 + 1 by omega]
    show (Value.bool false :: Value.bool b :: rowV s)[j * 2 + 1 + 1 + 1]? = _
    rw [List.getElem?_cons_succ, List.getElem?_cons_succ, rowV_1 s j (Nat.lt_of_succ_lt_succ h)]
    simp [List.getD_eq_getElem?_getD]
theorem rowV_set0 : ∀ (s : List Bool) (j : Nat), (rowV s).set (j * 2) (.bool false) = rowV s
  | [], j => rfl
  | b :: s, 0 => rfl
  | b :: s, j + 1 => by
    rw [show (j + 1) * 2 = j * 2 + 1 + 1 by omega]
    show (Value.bool false :: Value.bool b :: rowV s).set (j * 2 + 1 + 1) _ = _
    rw [List.set_cons_succ, List.set_cons_succ, rowV_set0 s j]; rfl
theorem rowV_set1 : ∀ (s : List Bool) (j : Nat), (rowV s).set (j * 2 + 1) (.bool true) = rowV (s.set j true)
  | [], j => rfl
  | b :: s, 0 => rfl
  | b :: s, j + 1 => by
    rw [show (j + 1) * 2 + 1 = j * 2 + 1 + 1 + 1 by omega]
    show (Value.bool false :: Value.bool b :: rowV s).set (j * 2 + 1 + 1 + 1) _ = _
    rw [List.set_cons_succ, List.set_cons_succ, rowV_set1 s j]; rfl
def RowAt (W : World) (g : Nat) (s : List Bool) : Prop := W.heap[g]? = some (.cells (rowV s).toArray 65 (0, 0))
theorem RowAt.c0 {W : World} {g : Nat} {s : List Bool} (h : RowAt W g s) {j : Nat} (hj : j < s.length) : W.cell? ⟨g, j * 2, none⟩ = some (.bool false) := by
  unfold World.cell?
  rw [h]
  simpa using rowV_0 s j hj
theorem RowAt.c1 {W : World} {g : Nat} {s : List Bool} (h : RowAt W g s) {j : Nat} (hj : j < s.length) : W.cell? ⟨g, j * 2 + 1, none⟩ = some (.bool (s.getD j false)) := by
  unfold World.cell?
  rw [h]
  simpa using rowV_1 s j hj
theorem RowAt.free {W : World} {g : Nat} {s : List Bool} (h : RowAt W g s) (j : Nat) : W.frozen? ⟨g, j, none⟩ = false := by
  unfold RowAt at h
  simp [World.frozen?, h]
theorem RowAt.put1 {W : World} {g : Nat} {s : List Bool} (h : RowAt W g s) (j : Nat) : RowAt (W.setCell ⟨g, j * 2 + 1, none⟩ (.bool true)) g (s.set j true) := by
  have := blk_set (j := j * 2 + 1) h (.bool true)
  rw [rowV_set1] at this
  exact this
theorem RowAt.put0 {W : World} {g : Nat} {s : List Bool} (h : RowAt W g s) (j : Nat) : RowAt (W.setCell ⟨g, j * 2, none⟩ (.bool false)) g s := by
  have := blk_set (j := j * 2) h (.bool false)
  rw [rowV_set0] at this
  exact this
theorem RowAt.lt {W : World} {g : Nat} {s : List Bool} (h : RowAt W g s) : g < W.heap.size := by
  unfold RowAt at h
  exact (Array.getElem?_eq_some_iff.1 h).1
theorem RowAt.below {W W' : World} {g : Nat} {s : List Bool} (h : RowAt W g s) (hb : Below W.heap.size W W') : RowAt W' g s := (hb.block g h.lt).trans h
/-- What the visits read. -/
structure InvA (N i gout gi gO gR : Nat) (W : World) : Prop where
  out : W.cell? ⟨gout, 0, none⟩ = some (.slice (some ⟨gO, 0, none⟩) N N)
  idx : W.cell? ⟨gi, 0, none⟩ = some (.int .i64 (i : Int))
  row : W.cell? ⟨gO, i, none⟩ = some (.slice (some ⟨gR, 0, none⟩) N N)
  ne : gout ≠ gR ∧ gi ≠ gR ∧ gO ≠ gR
theorem InvA.kept {N i gout gi gO gR B : Nat} {W W1 : World} (h : InvA N i gout gi gO gR W) (k : KeptO B gR W W1) : InvA N i gout gi gO gR W1 :=
  ⟨k.cell h.out h.ne.1, k.cell h.idx h.ne.2.1, k.cell h.row h.ne.2.2, h.ne⟩
/-- What visits leave. -/
def LetPost (B gR : Nat) (s : List Bool) (W : World) (e : Ending) (W' : World) : Prop := e = .returned (.tuple #[]) ∧ RowAt W' gR s ∧ KeptO B gR W W'
set_option maxHeartbeats 4000000 in
set_option maxRecDepth 100000 in
theorem visit_calls (N i gout gi gO gR B : Nat) (hi : i < N) (hB : B ≤ gR) (x : Nat) (hx : x < N) (hN : N ≤ 10) (s : List Bool) (hs : s.length = N) (W : World) (hI : InvA N i gout gi gO gR W) (hr : RowAt W gR s) :
    Calls Try.prog 40 #[.int .i64 (x : Int), .bool true, .bool false, .pointer (some ⟨gout, 0, none⟩), .pointer (some ⟨gi, 0, none⟩)] W (LetPost B gR (s.set x true) W) := by
  have h1 := hI.out
  have h2 := hI.idx
  have h3 := hI.row
  have h4 := hr.c1 (j := x) (by omega)
  have h5 := hr.free (x * 2 + 1)
  have hr1 := hr.put1 x
  have h6 := hr1.c0 (j := x) (by rw [List.length_set]; omega)
  have h7 := hr1.free (x * 2)
  have HR2 := Aside0.mk (hr1.put0 x)
  have HK2 := Aside0.mk (show KeptO B gR W ((W.setCell ⟨gR, x * 2 + 1, none⟩ (.bool true)).setCell ⟨gR, x * 2, none⟩ (.bool false)) from ⟨((Below.refl _ _).setCell (p := ⟨gR, x * 2 + 1, none⟩) hB _).setCell (p := ⟨gR, x * 2, none⟩) hB _, ((KeepBut.refl _ _ _).set_ (x * 2 + 1) _).set_ (x * 2) _⟩)
  have d1n : (i < N) = True := eq_true hi
  have d2n : (x < N) = True := eq_true hx
  have d1 : decide ((i : Int) < (N : Int)) = true := decide_eq_true (by omega)
  have d2 : decide ((x : Int) < (N : Int)) = true := decide_eq_true (by omega)
  obtain ⟨b, hb⟩ : ∃ b, s.getD x false = b := ⟨_, rfl⟩
  rw [hb] at h4
  have H1 := Aside0.mk hr1
  clear hI hr hr1 hs hi hx hB hN hb
  go_enter Try.func40, Try.ntmps40
  go_wp2
  all_goals refine bodyPost_end (results_none rfl _ _ _) rfl ?_
  all_goals exact ⟨rfl, HR2.out, HK2.out⟩
/-- The function that is handed to letters. -/
def visV (gout gi : Nat) : Value := .func (.func 40) #[] #[.pointer (some ⟨gout, 0, none⟩), .pointer (some ⟨gi, 0, none⟩)]
def setAll (m : List Nat) (s : List Bool) : List Bool := m.foldl (fun s x => s.set x true) s
theorem setAll_len : ∀ (m : List Nat) (s : List Bool), (setAll m s).length = s.length
  | [], s => rfl
  | x :: m, s => (setAll_len m (s.set x true)).trans List.length_set
theorem LetPost.after {B gR : Nat} {s : List Bool} {W W1 W2 : World} {e : Ending} (hk : KeptO B gR W W1) (h : LetPost B gR s W1 e W2) : LetPost B gR s W e W2 := ⟨h.1, h.2.1, hk.trans h.2.2⟩
set_option maxHeartbeats 4000000 in
set_option maxRecDepth 100000 in
theorem letter_let (N i gout gi gO gR B : Nat) (hi : i < N) (hB : B ≤ gR) (x : Nat) (hx : x < N) (hN : N ≤ 10) (s : List Bool) (hs : s.length = N) (W : World) (hI : InvA N i gout gi gO gR W) (hr : RowAt W gR s) :
    Calls Try.prog 81 #[.int .i64 (x : Int), .bool true, .bool false, visV gout gi] W (LetPost B gR (s.set x true) W) := by
  have HV := Lib.hid (visit_calls N i gout gi gO gR B hi hB x hx hN s hs W hI hr)
  unfold visV
  clear hi hB hx hN hs hI hr
  go_enter Try.func81, Try.ntmps81
  go_wp2_with (fail)
  refine HV.out.mono ?_; rintro e wa ⟨rfl, hp⟩
  have HP := Aside0.mk hp
  clear hp
  go_wp2_with (fail)
  refine bodyPost_end (results_none rfl _ _ _) rfl ?_
  exact ⟨rfl, HP.out⟩
set_option maxHeartbeats 4000000 in
set_option maxRecDepth 100000 in
theorem not_let (N i gout gi gO gR B : Nat) (hi : i < N) (hB : B ≤ gR) (x : Nat) (hx : x < N) (hN : N ≤ 10) (s : List Bool) (hs : s.length = N) (W : World) (hBW : B ≤ W.heap.size) (hI : InvA N i gout gi gO gR W) (hr : RowAt W gR s) :
    Calls Try.prog 83 #[.agg #[.iface 110 (.int .i64 (x : Int))], .bool false, .bool false, visV gout gi] W (LetPost B gR (s.set x true) W) := by
  have HV := Lib.hid (fun (W1 : World) (hk : KeptO B gR W W1) hr1 => letter_let N i gout gi gO gR B hi hB x hx hN s hs W1 (hI.kept hk) hr1)
  have HB := Aside0.mk hBW
  have HR := Aside0.mk hr
  unfold visV at HV ⊢
  clear hi hB hx hN hs hI hr hBW
  go_enter Try.func83, Try.ntmps83
  go_wp2_with (fail)
  have hb1 : Below W.heap.size W (W.alloc (.cells #[.iface 110 (.int .i64 (x : Int))] 112)) := (Below.refl _ _).alloc (Nat.le_refl _) _
  have hk1 := KeptO.below (B := B) (g := gR) hb1 HB.out
  refine (HV.out _ hk1 (HR.out.below hb1)).mono ?_; rintro e wa hp
  obtain ⟨rfl, hp2⟩ := LetPost.after hk1 hp
  have HP := Aside0.mk hp2
  clear hp hp2 hk1 hb1
  go_wp2_with (fail)
  refine bodyPost_end (results_none rfl _ _ _) rfl ?_
  exact ⟨rfl, HP.out⟩
set_option maxHeartbeats 4000000 in
set_option maxRecDepth 100000 in
theorem pair_let1 (N i gout gi gO gR B : Nat) (hi : i < N) (hB : B ≤ gR) (x : Nat) (hx : x < N) (hN : N ≤ 10) (X : Value) (m : List Nat)
    (hX : ∀ (s : List Bool) (hs : s.length = N) (W : World) (hBW : B ≤ W.heap.size) (hI : InvA N i gout gi gO gR W) (hr : RowAt W gR s), Calls Try.prog 83 #[X, .bool false, .bool false, visV gout gi] W (LetPost B gR (setAll m s) W))
    (s : List Bool) (hs : s.length = N) (W : World) (hBW : B ≤ W.heap.size) (hI : InvA N i gout gi gO gR W) (hr : RowAt W gR s) :
    Calls Try.prog 86 #[.agg #[.iface 112 (.agg #[.iface 110 (.int .i64 (x : Int))]), .iface 112 X, .int .u8 38], .bool false, .bool false, visV gout gi] W (LetPost B gR (setAll (x :: m) s) W) := by
  have HV := Lib.hid (fun (W1 : World) (hk : KeptO B gR W W1) hb hr1 => not_let N i gout gi gO gR B hi hB x hx hN s hs W1 hb (hI.kept hk) hr1)
  have HX := Lib.hid (fun (W1 : World) (hk : KeptO B gR W W1) hb hr1 => hX (s.set x true) (by rw [List.length_set, hs]) W1 hb (hI.kept hk) hr1)
  have HB := Aside0.mk hBW
  have HR := Aside0.mk hr
  unfold visV at HV HX ⊢
  have HE := Aside0.mk (show setAll (x :: m) s = setAll m (s.set x true) from rfl)
  obtain ⟨s2, hs2⟩ : ∃ s2, setAll (x :: m) s = s2 := ⟨_, rfl⟩
  rw [hs2] at HE ⊢
  rw [← HE.out] at HX
  clear hi hB hx hN hs hI hr hBW hX hs2 HE
  go_enter Try.func86, Try.ntmps86
  go_wp2_with (fail)
  generalize hW : (World.alloc _ _ : World) = w1
  have hb1 : Below W.heap.size W w1 := by rw [← hW]; exact (Below.refl _ _).alloc (Nat.le_refl _) _
  have hk1 := KeptO.below (B := B) (g := gR) hb1 HB.out
  have hc1 := alloc1_newT W (.cells #[.iface 112 (.agg #[.iface 110 (.int .i64 (x : Int))]), .iface 112 X, .int .u8 38] 114)
  rw [hW] at hc1
  clear hW
  refine (HV.out w1 hk1 (Nat.le_trans HB.out hb1.size) (HR.out.below hb1)).mono ?_; rintro e wa hp
  have hne : W.heap.size ≠ gR := by have := HR.out.lt; omega
  have hq : wa.cell? ⟨W.heap.size, 1, none⟩ = some (.iface 112 X) := by
    refine hp.2.2.cell (a := ⟨W.heap.size, 1, none⟩) ?_ hne
    unfold World.cell?
    rw [hc1]
    rfl
  obtain ⟨rfl, hp2⟩ := LetPost.after hk1 hp
  have HP := Aside0.mk hp2
  clear hp hp2 hk1 hc1 hne hb1
  go_wp2_with (fail)
  refine (HX.out wa HP.out.2 (Nat.le_trans HB.out HP.out.2.1.size) HP.out.1).mono ?_; rintro e wb hp
  obtain ⟨rfl, hp2⟩ := LetPost.after HP.out.2 hp
  have HP2 := Aside0.mk hp2
  clear hp hp2
  go_wp2_with (fail)
  refine bodyPost_end (results_none rfl _ _ _) rfl ?_
  exact ⟨rfl, HP2.out⟩
set_option maxHeartbeats 4000000 in
set_option maxRecDepth 100000 in
theorem pair_let2 (N i gout gi gO gR B : Nat) (hi : i < N) (hB : B ≤ gR) (x : Nat) (hx : x < N) (hN : N ≤ 10) (X : Value) (m : List Nat)
    (hX : ∀ (s : List Bool) (hs : s.length = N) (W : World) (hBW : B ≤ W.heap.size) (hI : InvA N i gout gi gO gR W) (hr : RowAt W gR s), Calls Try.prog 86 #[X, .bool false, .bool false, visV gout gi] W (LetPost B gR (setAll m s) W))
    (s : List Bool) (hs : s.length = N) (W : World) (hBW : B ≤ W.heap.size) (hI : InvA N i gout gi gO gR W) (hr : RowAt W gR s) :
    Calls Try.prog 86 #[.agg #[.iface 112 (.agg #[.iface 110 (.int .i64 (x : Int))]), .iface 114 X, .int .u8 38], .bool false, .bool false, visV gout gi] W (LetPost B gR (setAll (x :: m) s) W) := by
  have HV := Lib.hid (fun (W1 : World) (hk : KeptO B gR W W1) hb hr1 => not_let N i gout gi gO gR B hi hB x hx hN s hs W1 hb (hI.kept hk) hr1)
  have HX := Lib.hid (fun (W1 : World) (hk : KeptO B gR W W1) hb hr1 => hX (s.set x true) (by rw [List.length_set, hs]) W1 hb (hI.kept hk) hr1)
  have HB := Aside0.mk hBW
  have HR := Aside0.mk hr
  unfold visV at HV HX ⊢
  have HE := Aside0.mk (show setAll (x :: m) s = setAll m (s.set x true) from rfl)
  obtain ⟨s2, hs2⟩ : ∃ s2, setAll (x :: m) s = s2 := ⟨_, rfl⟩
  rw [hs2] at HE ⊢
  rw [← HE.out] at HX
  clear hi hB hx hN hs hI hr hBW hX hs2 HE
  go_enter Try.func86, Try.ntmps86
  go_wp2_with (fail)
  generalize hW : (World.alloc _ _ : World) = w1
  have hb1 : Below W.heap.size W w1 := by rw [← hW]; exact (Below.refl _ _).alloc (Nat.le_refl _) _
  have hk1 := KeptO.below (B := B) (g := gR) hb1 HB.out
  have hc1 := alloc1_newT W (.cells #[.iface 112 (.agg #[.iface 110 (.int .i64 (x : Int))]), .iface 114 X, .int .u8 38] 114)
  rw [hW] at hc1
  clear hW
  refine (HV.out w1 hk1 (Nat.le_trans HB.out hb1.size) (HR.out.below hb1)).mono ?_; rintro e wa hp
  have hne : W.heap.size ≠ gR := by have := HR.out.lt; omega
  have hq : wa.cell? ⟨W.heap.size, 1, none⟩ = some (.iface 114 X) := by
    refine hp.2.2.cell (a := ⟨W.heap.size, 1, none⟩) ?_ hne
    unfold World.cell?
    rw [hc1]
    rfl
  obtain ⟨rfl, hp2⟩ := LetPost.after hk1 hp
  have HP := Aside0.mk hp2
  clear hp hp2 hk1 hc1 hne hb1
  go_wp2_with (fail)
  refine (HX.out wa HP.out.2 (Nat.le_trans HB.out HP.out.2.1.size) HP.out.1).mono ?_; rintro e wb hp
  obtain ⟨rfl, hp2⟩ := LetPost.after HP.out.2 hp
  have HP2 := Aside0.mk hp2
  clear hp hp2
  go_wp2_with (fail)
  refine bodyPost_end (results_none rfl _ _ _) rfl ?_
  exact ⟨rfl, HP2.out⟩
/-- The function that tells a sentence's letters. -/
def lettF : List Nat → Nat
  | [] => 79
  | [_] => 83
  | _ :: _ :: _ => 86
theorem one_let (gout gi gR B : Nat) (s : List Bool) (W : World) (hr : RowAt W gR s) :
    Calls Try.prog 79 #[.int .u8 49, .bool false, .bool false, visV gout gi] W (LetPost B gR s W) := by
  have HP := Aside0.mk (show RowAt W gR s ∧ KeptO B gR W W from ⟨hr, KeptO.refl _ _ _⟩)
  unfold visV
  clear hr
  go_enter Try.func79, Try.ntmps79
  go_wp2_with (fail)
  refine bodyPost_end (results_none rfl _ _ _) rfl ?_
  exact ⟨rfl, HP.out⟩
theorem comb_let (N i gout gi gO gR B : Nat) (hi : i < N) (hB : B ≤ gR) (hN : N ≤ 10) : ∀ (m : List Nat) (hm : ∀ x ∈ m, x < N) (s : List Bool) (hs : s.length = N) (W : World) (hBW : B ≤ W.heap.size) (hI : InvA N i gout gi gO gR W) (hr : RowAt W gR s),
    Calls Try.prog (lettF m) #[combX m, .bool false, .bool false, visV gout gi] W (LetPost B gR (setAll m s) W)
  | [], hm, s, hs, W, hBW, hI, hr => one_let gout gi gR B s W hr
  | [x], hm, s, hs, W, hBW, hI, hr => not_let N i gout gi gO gR B hi hB x (hm x (by simp)) hN s hs W hBW hI hr
  | x :: [y], hm, s, hs, W, hBW, hI, hr => pair_let1 N i gout gi gO gR B hi hB x (hm x (by simp)) hN (combX [y]) [y] (fun s hs W hBW hI hr => comb_let N i gout gi gO gR B hi hB hN [y] (fun z hz => hm z (List.mem_cons_of_mem _ hz)) s hs W hBW hI hr) s hs W hBW hI hr
  | x :: y :: z :: r, hm, s, hs, W, hBW, hI, hr => pair_let2 N i gout gi gO gR B hi hB x (hm x (by simp)) hN (combX (y :: z :: r)) (y :: z :: r) (fun s hs W hBW hI hr => comb_let N i gout gi gO gR B hi hB hN (y :: z :: r) (fun z hz => hm z (List.mem_cons_of_mem _ hz)) s hs W hBW hI hr) s hs W hBW hI hr
end Go.Proofs.Ytagmadfllfcloaa.PC
end
section
set_option linter.unusedVariables false
set_option linter.unusedSimpArgs false
/- truth's arcs on the sentences of a town: the walk. -/
namespace Go.Proofs.Ytagmadfllfcloaa.PC
open Go.RowKit Go.Proofs.YtagmadfllfcloaaW.PrintWords Go.Proofs.YtagmadfllfcloaaW.PrintLast Go.Proofs.YtagmadfllfcloaaW.PrintMore
set_option linter.unusedVariables false
set_option linter.unusedSimpArgs false
attribute [local go_sem] run_store_func
theorem made66 (N : Nat) (hN : N ≤ 10) : madeCells (Value.slice none 0 0).cells (N * 1) = (List.replicate N (Value.slice none 0 0)).toArray := by
  obtain rfl | rfl | rfl | rfl | rfl | rfl | rfl | rfl | rfl | rfl | rfl : N = 0 ∨ N = 1 ∨ N = 2 ∨ N = 3 ∨ N = 4 ∨ N = 5 ∨ N = 6 ∨ N = 7 ∨ N = 8 ∨ N = 9 ∨ N = 10 := by omega
  all_goals (clear hN; kernel_rfl)
theorem made65 (N : Nat) (hN : N ≤ 10) : madeCells (Value.agg #[.bool false, .bool false]).cells (N * 2) = (rowV (List.replicate N false)).toArray := by
  obtain rfl | rfl | rfl | rfl | rfl | rfl | rfl | rfl | rfl | rfl | rfl : N = 0 ∨ N = 1 ∨ N = 2 ∨ N = 3 ∨ N = 4 ∨ N = 5 ∨ N = 6 ∨ N = 7 ∨ N = 8 ∨ N = 9 ∨ N = 10 := by omega
  all_goals (clear hN; kernel_rfl)
theorem info66 : (Try.prog.info? 66).map (fun i => (i.zero, i.size, i.bytes)) = some (some (.slice none 0 0), 1, 24) := by kernel_rfl
theorem info65 : (Try.prog.info? 65).map (fun i => (i.zero, i.size, i.bytes)) = some (some (.agg #[.bool false, .bool false]), 2, 2) := by kernel_rfl
theorem mk61 (N : Nat) (hN : N ≤ 10) (W : World) : Sem.run Try.prog (Instr.makeSlice 61 (.int .i64 (N : Int)) (.int .i64 (N : Int))) W = Result.ok (.slice (some ⟨W.heap.size, 0, none⟩) N N) (W.alloc (.cells (List.replicate N (Value.slice none 0 0)).toArray 66)) := by
  obtain ⟨i, hi, he⟩ := Option.map_eq_some_iff.1 info66
  simp only [Prod.mk.injEq] at he
  have := run_make (P := Try.prog) W 61 66 i _ Try.underlying61 hi he.1 .i64 .i64 (N : Int) (N : Int) (by omega) (by omega) (by rw [he.2.2]; omega) (by omega)
  rw [he.2.1, Int.toNat_natCast, made66 N hN] at this
  exact this
theorem mk66 (N : Nat) (hN : N ≤ 10) (W : World) : Sem.run Try.prog (Instr.makeSlice 66 (.int .i64 (N : Int)) (.int .i64 (N : Int))) W = Result.ok (.slice (some ⟨W.heap.size, 0, none⟩) N N) (W.alloc (.cells (rowV (List.replicate N false)).toArray 65)) := by
  obtain ⟨i, hi, he⟩ := Option.map_eq_some_iff.1 info65
  simp only [Prod.mk.injEq] at he
  have := run_make (P := Try.prog) W 66 65 i _ Try.underlying66 hi he.1 .i64 .i64 (N : Int) (N : Int) (by omega) (by omega) (by rw [he.2.2]; omega) (by omega)
  rw [he.2.1, Int.toNat_natCast, made65 N hN] at this
  exact this
def rowOf (N : Nat) (m : List Nat) : List Bool := setAll m (List.replicate N false)
/-- The table of arcs. -/
def ArcsAt (W : World) (gO N : Nat) (ms : List (List Nat)) : Prop := ∀ k, k < N → ∃ g, W.cell? ⟨gO, k, none⟩ = some (.slice (some ⟨g, 0, none⟩) N N) ∧ RowAt W g (rowOf N (ms.getD k []))
theorem ArcsAt.below {W W' : World} {gO N : Nat} {ms : List (List Nat)} (h : ArcsAt W gO N ms) (hb : Below W.heap.size W W') : ArcsAt W' gO N ms := fun k hk => by
  obtain ⟨g, hc, hr⟩ := h k hk
  exact ⟨g, (hb.cell (World.block_lt_of_cell? W _ hc)).trans hc, hr.below hb⟩
theorem KeptO.row {B g : Nat} {W W1 : World} (h : KeptO B g W W1) {g' : Nat} {s : List Bool} (hr : RowAt W g' s) (hne : g' ≠ g) : RowAt W1 g' s := h.2.blk hr hne (by simp)
def TabAt (W : World) (gO N : Nat) (ms : List (List Nat)) (i : Nat) : Prop := ∃ L : List Value, L.length = N ∧ W.heap[gO]? = some (.cells L.toArray 66 (0, 0)) ∧ ∀ k, k < i → ∃ g, g ≠ gO ∧ L[k]? = some (.slice (some ⟨g, 0, none⟩) N N) ∧ RowAt W g (rowOf N (ms.getD k []))
theorem tab_row {N i gi gO B : Nat} {ms : List (List Nat)} {L : List Value} {wr w2 w3 w4 w5 : World} (hgi : gi = wr.heap.size) (hgO : gO < wr.heap.size) (hL : L.length = N) (hi : i < N)
    (hLk : ∀ k, k < i → ∃ g, g ≠ gO ∧ L[k]? = some (.slice (some ⟨g, 0, none⟩) N N) ∧ RowAt wr g (rowOf N (ms.getD k []))) (hb2 : Below wr.heap.size wr w2) (hb3 : Below w2.heap.size w2 w3) (ht3 : w3.heap[gO]? = some (.cells L.toArray 66 (0, 0)))
    (h4 : w4 = (w3.setCell ⟨gO, i, none⟩ (.slice (some ⟨gi + 1, 0, none⟩) N N)).drew) (hp : RowAt w5 (gi + 1) (rowOf N (ms.getD i [])) ∧ KeptO B (gi + 1) w4 w5) : TabAt w5 gO N ms (i + 1) := by
  have hk4 : KeptO gO gO w3 w4 := by rw [h4]; exact ⟨below_drew ((Below.refl _ _).setCell (p := ⟨gO, i, none⟩) (Nat.le_refl _) _), keep_drew ((KeepBut.refl _ _ _).set_ i _)⟩
  have ht4 : w4.heap[gO]? = some (.cells (L.set i (.slice (some ⟨gi + 1, 0, none⟩) N N)).toArray 66 (0, 0)) := by rw [h4]; exact blk_set ht3 _
  have ht5 := hp.2.2.blk ht4 (by omega) (by simp)
  refine ⟨_, by rw [List.length_set]; exact hL, ht5, fun k hk => ?_⟩
  by_cases hki : k = i
  · subst hki
    refine ⟨gi + 1, by omega, ?_, hp.1⟩
    rw [List.getElem?_set_self (by omega)]
  · obtain ⟨g, h1, h2, h3⟩ := hLk k (by omega)
    have hg := h3.lt
    exact ⟨g, h1, by rw [List.getElem?_set_ne (by omega)]; exact h2, hp.2.row (hk4.row ((h3.below hb2).below hb3) h1) (by omega)⟩
/-- What is known behind the new row. -/
def ArcD (N i gout gi gO : Nat) (ms : List (List Nat)) (L : List Value) (wr w2 w3 : World) : Prop :=
  gi = wr.heap.size ∧ gO < wr.heap.size ∧ L.length = N ∧ wr.heap[gO]? = some (.cells L.toArray 66 (0, 0)) ∧ (∀ k, k < i → ∃ g, g ≠ gO ∧ L[k]? = some (.slice (some ⟨g, 0, none⟩) N N) ∧ RowAt wr g (rowOf N (ms.getD k []))) ∧ Below wr.heap.size wr w2 ∧ Below w2.heap.size w2 w3 ∧ w3.heap[gO]? = some (.cells L.toArray 66 (0, 0)) ∧ RowAt w3 (gi + 1) (List.replicate N false)
theorem arc_start {N i gout gi gO : Nat} {ms : List (List Nat)} {L : List Value} {w wr w2 w3 w4 : World} (hiN : i < N) (HD : ArcD N i gout gi gO ms L wr w2 w3) (HG : gO = w.heap.size ∧ gout = w.heap.size + 1) (HO : wr.cell? ⟨gout, 0, none⟩ = some (.slice (some ⟨gO, 0, none⟩) N N)) (HB : Below w.heap.size w wr)
    (hi3 : w3.cell? ⟨gi, 0, none⟩ = some (.int .i64 (i : Int))) (ho3 : w3.cell? ⟨gout, 0, none⟩ = some (.slice (some ⟨gO, 0, none⟩) N N)) (hW4 : (w3.setCell ⟨gO, i, none⟩ (.slice (some ⟨gi + 1, 0, none⟩) N N)).drew = w4) :
    InvA N i gout gi gO (gi + 1) w4 ∧ RowAt w4 (gi + 1) (List.replicate N false) ∧ Below w.heap.size w w4 ∧ w.heap.size ≤ gi + 1 := by
  obtain ⟨hgi, hgO, hL, hLb, hLk, hb2, hb3, ht3, hr3⟩ := HD
  obtain ⟨hg1, hg2⟩ := HG
  have hk4 : KeptO gO gO w3 w4 := by rw [← hW4]; exact ⟨below_drew ((Below.refl _ _).setCell (p := ⟨gO, i, none⟩) (Nat.le_refl _) _), keep_drew ((KeepBut.refl _ _ _).set_ i _)⟩
  have ht4 : w4.heap[gO]? = some (.cells (L.set i (.slice (some ⟨gi + 1, 0, none⟩) N N)).toArray 66 (0, 0)) := by rw [← hW4]; exact blk_set ht3 _
  have hgout : gout < wr.heap.size := World.block_lt_of_cell? wr _ HO
  have n1 : gout ≠ gO := by omega
  have n2 : gi ≠ gO := by omega
  refine ⟨⟨hk4.cell ho3 n1, hk4.cell hi3 n2, ?_, by omega, by omega, by omega⟩, hk4.row hr3 (by omega), (HB.trans ((hb2.trans (hb3.mono hb2.size)).mono HB.size)).trans (hk4.1.mono (by omega)), by have := HB.size; omega⟩
  unfold World.cell?
  rw [ht4]
  simp [show i < L.length by omega]
theorem arc_end {N i gout gi gO : Nat} {ms : List (List Nat)} {L : List Value} {w wr w2 w3 w4 w5 : World} {s4 : List Bool} (hiN : i < N) (HD : ArcD N i gout gi gO ms L wr w2 w3) (HG : gO = w.heap.size ∧ gout = w.heap.size + 1) (HO : wr.cell? ⟨gout, 0, none⟩ = some (.slice (some ⟨gO, 0, none⟩) N N))
    (ho3 : w3.cell? ⟨gout, 0, none⟩ = some (.slice (some ⟨gO, 0, none⟩) N N)) (HX : w4 = (w3.setCell ⟨gO, i, none⟩ (.slice (some ⟨gi + 1, 0, none⟩) N N)).drew ∧ Below w.heap.size w w4) (HS : rowOf N (ms.getD i []) = s4) (HP : RowAt w5 (gi + 1) s4 ∧ KeptO w.heap.size (gi + 1) w4 w5) :
    Aside0 (w5.cell? ⟨gout, 0, none⟩ = some (.slice (some ⟨gO, 0, none⟩) N N)) ∧ Aside0 (TabAt w5 gO N ms (i + 1)) ∧ Aside0 (Below w.heap.size w w5) := by
  obtain ⟨hgi, hgO, hL, hLb, hLk, hb2, hb3, ht3, hr3⟩ := HD
  obtain ⟨hg1, hg2⟩ := HG
  subst HS
  have hgout : gout < wr.heap.size := World.block_lt_of_cell? wr _ HO
  have hk4 : KeptO gO gO w3 w4 := by rw [HX.1]; exact ⟨below_drew ((Below.refl _ _).setCell (p := ⟨gO, i, none⟩) (Nat.le_refl _) _), keep_drew ((KeepBut.refl _ _ _).set_ i _)⟩
  have n1 : gout ≠ gO := by omega
  have n2 : gout ≠ gi + 1 := by omega
  exact ⟨⟨HP.2.cell (hk4.cell ho3 n1) n2⟩, ⟨tab_row hgi hgO hL hiN hLk hb2 hb3 ht3 HX.1 HP⟩, ⟨HX.2.trans HP.2.1⟩⟩
set_option maxHeartbeats 4000000 in
set_option maxRecDepth 100000 in
theorem arcs_walk (ms : List (List Nat)) (N : Nat) (hN : ms.length = N) (h2 : N ≤ 10) (hms : ∀ m ∈ ms, ∀ x ∈ m, x < N) (A0 : Option Addr) (c0 : Nat) (w : World) (hr0 : Kd.C kF w A0 N ms) :
    Calls Try.prog 24 #[.slice A0 N c0] w fun e w' => ∃ gO, e = .returned (.slice (some ⟨gO, 0, none⟩) N N) ∧ ArcsAt w' gO N ms ∧ Below w.heap.size w w' := by
  have HM := Aside0.mk hms
  have HR0 := Aside0.mk hr0
  have HN := Aside0.mk (show ms.length = N ∧ N ≤ 10 from ⟨hN, h2⟩)
  have m61 := mk61 N h2
  have m66 := mk66 N h2
  clear hms hr0 hN h2
  go_enter Try.func24, Try.ntmps24
  go_wp2_with (fail)
  generalize hW : (World.alloc _ _ : World) = w1
  obtain ⟨gO, hgO⟩ : ∃ gO, gO = w.heap.size := ⟨_, rfl⟩
  obtain ⟨gout, hgout⟩ : ∃ gout, gout = w.heap.size + 1 := ⟨_, rfl⟩
  rw [← hgout]
  have h0 : w1.heap[gO]? = some (.cells (List.replicate N (Value.slice none 0 0)).toArray 66 (0, 0)) := by rw [← hW, hgO]; exact alloc2_old w _ _
  have ho1 : w1.cell? ⟨gout, 0, none⟩ = some (.slice (some ⟨gO, 0, none⟩) N N) := by rw [← hW, hgout, hgO]; exact cell_blk (alloc2_new w _ _)
  have hb1 : Below w.heap.size w w1 := by rw [← hW]; exact ((Below.refl _ _).alloc (Nat.le_refl _) _).alloc (by simp) _
  have HO1 := Aside0.mk ho1
  have HB1 := Aside0.mk hb1
  have HT1 := Aside0.mk (show TabAt w1 gO N ms 0 from ⟨_, by simp, h0, fun k hk => absurd hk (Nat.not_lt_zero k)⟩)
  have HG := Aside0.mk (And.intro hgO hgout)
  clear hW h0 ho1 hb1 m61 hgO hgout
  go_loopw [11] (fun v11 wr => ∃ i : Nat, i ≤ N ∧ v11 = .int .i64 (i : Int) ∧ Aside0 (wr.cell? ⟨gout, 0, none⟩ = some (.slice (some ⟨gO, 0, none⟩) N N)) ∧ Aside0 (TabAt wr gO N ms i) ∧ Aside0 (Below w.heap.size w wr)) (fun v11 _ => N - (intOf v11).toNat)
  case atStart => exact ⟨0, by omega, rfl, HO1, HT1, HB1⟩
  case round =>
    clear HO1 HT1 HB1
    obtain ⟨i, hi, rfl, HO, HT, HB⟩ := hrel
    have ho := HO.out
    by_cases hiN : i < N
    · have d1 : decide ((i : Int) < (N : Int)) = true := decide_eq_true (by omega)
      have d1n : (i < N) = True := eq_true hiN
      obtain ⟨ad, e, hcell⟩ := at_scalar HR0.out i hiN (by have := HN.out; omega)
      subst e
      replace hcell := (HB.out.cell (World.block_lt_of_cell? w _ hcell)).trans hcell
      have hil : i < ms.length := by have := HN.out; omega
      have hmi := HM.out ms[i] (List.getElem_mem hil)
      have hmd : ms.getD i [] = ms[i] := by simp [List.getD_eq_getElem?_getD, hil]
      obtain ⟨m, hm⟩ : ∃ m, ms[i] = m := ⟨_, rfl⟩
      rw [hm] at hcell hmi hmd
      have HMI := Aside0.mk (And.intro hmi hmd)
      obtain ⟨V, hV⟩ : ∃ V, combV m = V := ⟨_, rfl⟩
      rw [hV] at hcell
      have HV := Aside0.mk hV
      clear hm hil hmi hmd hV
      go_wp2_with (fail)
      generalize hW : (World.alloc _ _ : World) = w2
      obtain ⟨gi, hgi⟩ : ∃ gi, gi = wr.heap.size := ⟨_, rfl⟩
      rw [← hgi]
      obtain ⟨L, hL, hLb, hLk⟩ := HT.out
      obtain ⟨v0, hv0⟩ : ∃ v0, L[i]? = some v0 := ⟨L[i], List.getElem?_eq_getElem (by omega)⟩
      have hb2 : Below wr.heap.size wr w2 := by rw [← hW]; exact (Below.refl _ _).alloc (Nat.le_refl _) _
      have hi2 : w2.cell? ⟨gi, 0, none⟩ = some (.int .i64 (i : Int)) := by
        rw [← hW]
        refine (World.cell?_alloc_at _ _ _ _ hgi).trans ?_
        rfl
      have ho2 : w2.cell? ⟨gout, 0, none⟩ = some (.slice (some ⟨gO, 0, none⟩) N N) := (hb2.cell (World.block_lt_of_cell? wr _ ho)).trans ho
      have hgO : gO < wr.heap.size := blk_lt hLb
      have ht2 : w2.heap[gO]? = some (.cells L.toArray 66 (0, 0)) := (hb2.block gO hgO).trans hLb
      have hs2 : w2.heap.size = gi + 1 := by rw [← hW, hgi]; simp
      obtain ⟨w3, hw3⟩ : ∃ w3, w2.alloc (.cells (rowV (List.replicate N false)).toArray 65) = w3 := ⟨_, rfl⟩
      have hb3 : Below w2.heap.size w2 w3 := by rw [← hw3]; exact (Below.refl _ _).alloc (Nat.le_refl _) _
      have hi3 : w3.cell? ⟨gi, 0, none⟩ = some (.int .i64 (i : Int)) := (hb3.cell (World.block_lt_of_cell? w2 _ hi2)).trans hi2
      have ho3 : w3.cell? ⟨gout, 0, none⟩ = some (.slice (some ⟨gO, 0, none⟩) N N) := (hb3.cell (World.block_lt_of_cell? w2 _ ho2)).trans ho2
      have ht3 : w3.heap[gO]? = some (.cells L.toArray 66 (0, 0)) := (hb3.block gO (by omega)).trans ht2
      have hc3 : w3.cell? ⟨gO, i, none⟩ = some v0 := by
        unfold World.cell?
        rw [ht3]
        simpa using hv0
      have hf3 : w3.frozen? ⟨gO, i, none⟩ = false := by simp [World.frozen?, ht3]
      have hr3 : RowAt w3 (gi + 1) (List.replicate N false) := by rw [← hw3, ← hs2]; exact alloc1_newT w2 _
      have HD := Aside0.mk (show ArcD N i gout gi gO ms L wr w2 w3 from ⟨hgi, hgO, hL, hLb, hLk, hb2, hb3, ht3, hr3⟩)
      have HI3 := Aside0.mk (And.intro hi3 ho3)
      have HI1 := Aside0.mk (show i + 1 ≤ N from hiN)
      have HMS := Aside0.mk (mstepA hiN (show N ≤ 1000 by have := HN.out; omega))
      have HVI := Aside0.mk (vI (show i ≤ 1000000 by have := HN.out; omega))
      rw [← hw3] at hi3 ho3 hc3 hf3
      have HW3 := Aside0.mk hw3
      clear hgi hgO hL hLb hLk hb2 hb3 ht3 hr3 hv0 hW ho hcell ht2 hw3
      go_region_law (fail)
      all_goals
        rw [HW3.out]
        generalize hW4 : (World.drew _ : World) = w4
        obtain ⟨hI4, hr4, hb4, hgw⟩ := arc_start hiN HD.out HG.out HO.out HB.out HI3.out.1 HI3.out.2 hW4
        have HX := Aside0.mk (And.intro hW4.symm hb4)
        have HLT := Lib.hid (comb_let N i gout gi gO (gi + 1) w.heap.size hiN hgw HN.out.2 m HMI.out.1 (List.replicate N false) (by simp) w4 hb4.size hI4 hr4)
        have HRO := Aside0.mk (show setAll m (List.replicate N false) = rowOf N (ms.getD i []) by rw [HMI.out.2]; rfl)
        rw [HRO.out] at HLT
        have e1 : wrap64 ((i : Int) + 1) = ((i + 1 : Nat) : Int) := wI (by have := HN.out; omega)
        obtain ⟨s4, hs4⟩ : ∃ s4, rowOf N (ms.getD i []) = s4 := ⟨_, rfl⟩
        have HS4 := Aside0.mk hs4
        rw [hs4] at HLT
        unfold visV at HLT
        clear hI4 hr4 hb4 hgw hi2 ho2 hs2 hi3 ho3 hc3 hf3 hW4 hs4
        have hcase : m = [] ∨ (∃ x, m = [x]) ∨ ∃ x y r, m = x :: y :: r := by
          rcases m with _ | ⟨x, _ | ⟨y, r⟩⟩
          · exact .inl rfl
          · exact .inr (.inl ⟨x, rfl⟩)
          · exact .inr (.inr ⟨x, y, r, rfl⟩)
        rcases hcase with rfl | ⟨x, rfl⟩ | ⟨x, y, r, rfl⟩
        · have hV' : V = .iface 109 (.int .u8 49) := by rw [← HV.out]; rfl
          subst hV'
          replace HLT := Lib.hid (show Calls Try.prog 79 #[.int .u8 49, .bool false, .bool false, (.func (.func 40) #[] #[.pointer (some ⟨gout, 0, none⟩), .pointer (some ⟨gi, 0, none⟩)])] w4 (LetPost w.heap.size (gi + 1) s4 w4) from HLT.out)
          go_wp2_with (fail)
          refine HLT.out.mono ?_; rintro e w5 ⟨rfl, hp⟩
          have HP := Aside0.mk hp
          clear hp HLT
          have ho5 := HP.out
          go_wp2_with (fail)
          exact ⟨⟨i + 1, HI1.out, HVI.out, arc_end hiN HD.out HG.out HO.out HI3.out.2 HX.out HS4.out HP.out⟩, HMS.out⟩
        · have hV' : V = .iface 112 (.agg #[.iface 110 (.int .i64 (x : Int))]) := by rw [← HV.out]; rfl
          subst hV'
          replace HLT := Lib.hid (show Calls Try.prog 83 #[.agg #[.iface 110 (.int .i64 (x : Int))], .bool false, .bool false, (.func (.func 40) #[] #[.pointer (some ⟨gout, 0, none⟩), .pointer (some ⟨gi, 0, none⟩)])] w4 (LetPost w.heap.size (gi + 1) s4 w4) from HLT.out)
          go_wp2_with (fail)
          refine HLT.out.mono ?_; rintro e w5 ⟨rfl, hp⟩
          have HP := Aside0.mk hp
          clear hp HLT
          have ho5 := HP.out
          go_wp2_with (fail)
          exact ⟨⟨i + 1, HI1.out, HVI.out, arc_end hiN HD.out HG.out HO.out HI3.out.2 HX.out HS4.out HP.out⟩, HMS.out⟩
        · have hV' : V = .iface 114 (.agg #[.iface 112 (.agg #[.iface 110 (.int .i64 (x : Int))]), combV (y :: r), .int .u8 38]) := by rw [← HV.out]; rfl
          subst hV'
          replace HLT := Lib.hid (show Calls Try.prog 86 #[.agg #[.iface 112 (.agg #[.iface 110 (.int .i64 (x : Int))]), combV (y :: r), .int .u8 38], .bool false, .bool false, (.func (.func 40) #[] #[.pointer (some ⟨gout, 0, none⟩), .pointer (some ⟨gi, 0, none⟩)])] w4 (LetPost w.heap.size (gi + 1) s4 w4) from HLT.out)
          generalize combV (y :: r) = Y at HLT ⊢
          go_wp2_with (fail)
          refine HLT.out.mono ?_; rintro e w5 ⟨rfl, hp⟩
          have HP := Aside0.mk hp
          clear hp HLT
          have ho5 := HP.out
          go_wp2_with (fail)
          exact ⟨⟨i + 1, HI1.out, HVI.out, arc_end hiN HD.out HG.out HO.out HI3.out.2 HX.out HS4.out HP.out⟩, HMS.out⟩
    · have d1 : decide ((i : Int) < (N : Int)) = false := decide_eq_false (by omega)
      have d1n : (i < N) = False := eq_false hiN
      obtain rfl : i = N := by omega
      clear hi hiN
      go_wp2_with (fail)
      go_ret
      refine ⟨gO, rfl, ?_, HB.out⟩
      obtain ⟨L, hl, hb, hk⟩ := HT.out
      intro k hk2
      obtain ⟨g, _, h2, h3⟩ := hk k hk2
      refine ⟨g, ?_, h3⟩
      unfold World.cell?
      rw [hb]
      simpa using h2
end Go.Proofs.Ytagmadfllfcloaa.PC
end
section
set_option linter.unusedVariables false
set_option linter.unusedSimpArgs false
/- slices.Index and slices.Contains over ints: the walks; the search for an odd cycle, plainly. -/
namespace Go.Proofs.Ytagmadfllfcloaa.PC
open Go.RowKit Go.Proofs.YtagmadfllfcloaaW.PrintWords Go.Proofs.YtagmadfllfcloaaW.PrintLast Go.Proofs.YtagmadfllfcloaaW.PrintMore
set_option linter.unusedVariables false
set_option linter.unusedSimpArgs false
theorem index_walk (A : Option Addr) (L c : Nat) (l : List Int) (x : Int) (w : World) (hr : Kd.C (Kd.int .i64) w A L l) (hL : L ≤ 100) :
    Calls Try.prog 41 #[.slice A L c, .int .i64 x] w fun e w' => ∃ v : Int, e = .returned (.int .i64 v) ∧ (0 ≤ v ↔ x ∈ l) ∧ w' = w := by
  have HR := Aside0.mk hr
  have HL := Aside0.mk (show l.length = L ∧ L ≤ 100 from ⟨hr.1, hL⟩)
  clear hr hL
  go_enter Try.func41, Try.ntmps41
  go_wp2
  go_loop [8] (fun v8 => ∃ i : Nat, i ≤ L ∧ v8 = .int .i64 (i : Int) ∧ Aside0 (x ∉ l.take i)) (fun v8 => L - (intOf v8).toNat)
  case atStart => exact ⟨0, by omega, rfl, ⟨by simp⟩⟩
  case round =>
    obtain ⟨i, hi, rfl, HX⟩ := hrel
    by_cases hiL : i < L
    · have d1 : decide ((i : Int) < (L : Int)) = true := decide_eq_true (by omega)
      have d1n : (i < L) = True := eq_true hiL
      obtain ⟨ad, e, hcell⟩ := at_scalar HR.out i hiL (by have := HL.out; omega)
      subst e
      have hil : i < l.length := by have := HL.out; omega
      have HTK := Aside0.mk (show l.take (i + 1) = l.take i ++ [l[i]] from (List.take_succ_eq_append_getElem hil))
      have HMM := Aside0.mk (List.getElem_mem hil)
      obtain ⟨y, hy⟩ : ∃ y, l[i] = y := ⟨_, rfl⟩
      rw [hy] at hcell HTK HMM
      clear hil hy
      by_cases hxy : x = y
      · have e1 : (x == y) = true := beq_iff_eq.2 hxy
        have e1n : (x = y) = True := eq_true hxy
        have HXY := Aside0.mk hxy
        clear hxy
        go_wp2_with (fail)
        go_ret
        exact ⟨_, rfl, ⟨fun _ => by first | exact HMM.out | (rw [HXY.out]; exact HMM.out), fun _ => by omega⟩, rfl⟩
      · have e1 : (x == y) = false := beq_eq_false_iff_ne.2 hxy
        have e1n : (x = y) = False := eq_false hxy
        have HXY := Aside0.mk hxy
        clear hxy
        go_wp2_with (fail)
        exact ⟨⟨i + 1, by omega, vI (by have := HL.out; omega), ⟨by rw [HTK.out, List.mem_append, List.mem_singleton]; exact fun h => h.elim HX.out HXY.out⟩⟩, mstepA hiL (by have := HL.out; omega)⟩
    · have d1 : decide ((i : Int) < (L : Int)) = false := decide_eq_false (by omega)
      have d1n : (i < L) = False := eq_false hiL
      have HN := Aside0.mk (show x ∉ l by have h := HX.out; rwa [List.take_of_length_le (by have := HL.out; omega)] at h)
      go_wp2_with (fail)
      go_ret
      exact ⟨_, rfl, ⟨fun h => by omega, fun h => absurd h HN.out⟩, rfl⟩
theorem contains_walk (A : Option Addr) (L c : Nat) (l : List Int) (x : Int) (w : World) (hr : Kd.C (Kd.int .i64) w A L l) (hL : L ≤ 100) :
    Calls Try.prog 26 #[.slice A L c, .int .i64 x] w fun e w' => e = .returned (.bool (decide (x ∈ l))) ∧ w' = w := by
  have HI := Lib.hid (index_walk A L c l x w hr hL)
  clear hr hL
  obtain ⟨b, hb⟩ : ∃ b, decide (x ∈ l) = b := ⟨_, rfl⟩
  rw [hb]
  have HB := Aside0.mk hb
  clear hb
  go_enter Try.func26, Try.ntmps26
  go_wp2_with (fail)
  refine HI.out.mono ?_; rintro e wa ⟨v, rfl, hv, rfl⟩
  go_wp2_with (fail)
  go_ret
  refine ⟨?_, rfl⟩
  rw [← HB.out]
  rfl
/-- The last and the first of a way. -/
def lastN (way : List Int) : Nat := (way.getD (way.length - 1) 0).toNat
def firstN (way : List Int) : Nat := (way.getD 0 0).toNat
/-- The search from a way: the first way of so many steps more that comes home. -/
def srch (o : List Nat) : Nat → List Int → Option (List Int)
  | 0, way => if (o.getD (lastN way) 0).testBit (firstN way) then some way else none
  | d + 1, way => (memI (o.getD (lastN way) 0)).findSome? fun j => if j ∈ way then none else srch o d (way ++ [j])
/-- The first person's first way of this length. -/
def srchAt (n : Nat) (o : List Nat) (long : Nat) : Option (List Int) := (List.range n).findSome? fun i : Nat => srch o (long - 1) [(i : Int)]
/-- A shortest odd cycle, and the error. -/
def oddF (n : Nat) (o : List Nat) : List Int × Int :=
  match (List.range n).findSome? (fun k => if k % 2 = 0 then srchAt n o (k + 1) else none) with
  | some l => (l, 0)
  | none => ([], 10)
end Go.Proofs.Ytagmadfllfcloaa.PC
end
section
set_option linter.unusedVariables false
set_option linter.unusedSimpArgs false
/- append(way[:len(way):len(way)], j): the list that comes out is one of its own. -/
namespace Go.Proofs.Ytagmadfllfcloaa.PC
open Go.RowKit Go.Proofs.YtagmadfllfcloaaW.PrintWords Go.Proofs.YtagmadfllfcloaaW.PrintLast Go.Proofs.YtagmadfllfcloaaW.PrintMore
set_option linter.unusedSimpArgs false
theorem step_cut_own {P : Program} {ops : Array Oper} {o : Oper} {a : Act} {K : Act → World → Prop} {Q : Exit → Act → World → Prop} {E : Prop} {W : World} (hgd : o.guard = none) (s x : Operand) (t : TypeId)
    (ho : o.op = .call { callee := .builtin .append, args := #[s, x], argTypes := #[t, t] }) (ht : P.underlying t = some (.slice 3)) (hinfo : (P.info? 3).map (fun i => (i.zero, i.size, i.bytes)) = some (some (.int .i64 0), 1, 8))
    (A : Option Addr) (l : List Int) (m : Nat) (hlm : l.length = m) (hl100 : m ≤ 100) (v : Int) (hs : a.eval s = .slice A m m) (hx : a.eval x = .slice (some ⟨W.heap.size, 0, none⟩) 1 1) (hC : Kd.C (Kd.int .i64) W A m l)
    (h : ∀ v1 w1, Kd.R (Kd.int .i64) 3 w1 W.heap.size (fun _ => True) v1 (l ++ [v]) → Below W.heap.size W w1 → K (a.put o.dst v1) w1) :
    if Region.wanted o (yielded ops a.tmps) = true then Oper.wp P o a (W.alloc (.cells #[.int .i64 v] 3)) K Q else E := by
  rw [← hlm] at hC
  have hA : A = none → l.length = 0 := fun e => by
    cases Nat.eq_zero_or_pos l.length with
    | inl h0 => exact h0
    | inr h0 =>
      obtain ⟨ad, ea, _⟩ := Kd.at_int hC 0 (by omega) (by omega)
      rw [e] at ea; cases ea
  have htk : l.take m = l := List.take_of_length_le (by omega)
  rw [← htk] at h
  have hlt : (l.take m).length = m := by rw [List.length_take]; omega
  cases hi : P.info? 3 with
  | none => rw [hi] at hinfo; cases hinfo
  | some inf =>
    rw [hi] at hinfo
    simp only [Option.map_some, Option.some.injEq, Prod.mk.injEq] at hinfo
    obtain ⟨j1, j2, j3⟩ := hinfo
    have hC' := Kd.C_alloc hC (.cells #[.int .i64 v] 3)
    refine step_append_grows (w := W.alloc (.cells #[.int .i64 v] 3)) hgd s x t ho 3 inf (.int .i64 0) 1 8 ht hi j1 j2 j3 rfl (by decide) A m m (nums .i64 (l.take m)) hs (fun e => by have := hA e; omega) (by simp [nums]; omega) (fun b hb j u hu => ?_) ⟨W.heap.size, 0, none⟩ 1 1 [.int .i64 v] hx rfl (fun j u hu => ?_) (fun u hu => ?_) (by omega) (by unfold maxLen; omega) (by omega) ?_
    · obtain ⟨hj, e⟩ := List.getElem?_eq_some_iff.1 hu
      have hj2 : j < m := by simp [nums] at hj; omega
      obtain ⟨ad, ea, hc⟩ := Kd.at_int hC' (j : Int) (by omega) (by omega)
      rw [hb] at ea
      injection ea with ea
      subst ea
      rw [Int.toNat_natCast] at hc
      rw [hc, ← e]
      simp [nums, rd, List.getD_eq_getElem?_getD, hj2, show j < l.length by omega]
    · obtain ⟨hj, e⟩ := List.getElem?_eq_some_iff.1 hu
      have : j = 0 := by simp at hj; omega
      subst this
      rw [← e]
      show (W.alloc (.cells #[.int .i64 v] 3)).cell? ⟨W.heap.size, 0, none⟩ = _
      rw [World.cell?_alloc_at _ _ _ _ rfl]; rfl
    · rcases List.mem_cons.1 hu with rfl | hu
      · rfl
      · cases hu
    · intro v' w' ho' hg
      have hsz : (W.alloc (.cells #[.int .i64 v] 3)).heap.size = W.heap.size + 1 := by simp
      have hb0 : Below W.heap.size W (W.alloc (.cells #[.int .i64 v] 3)) := (Below.refl _ W).alloc (Nat.le_refl _) _
      have hb1 : Below W.heap.size (W.alloc (.cells #[.int .i64 v] 3)) w' := ⟨hg.os, hg.tape, hg.output, by have := hg.size; omega, fun k hk => hg.block k (by omega) (by simp)⟩
      refine h v' w' ?_ (hb0.trans hb1)
      have e : nums .i64 (l.take m) ++ [.int .i64 v] = encs (fun n : Int => Value.int .i64 n) (l.take m ++ [v]) := by simp [nums, encs]
      rw [e] at ho'
      have hlen : (l.take m ++ [v]).length = m + 1 := by simp [hlt]
      rw [← hlen] at ho'
      exact Kd.R_lower (Kd.R_of_own (ok := fun _ => True) ho' (fun _ _ => trivial)) (by omega)
end Go.Proofs.Ytagmadfllfcloaa.PC
end
section
set_option linter.unusedVariables false
set_option linter.unusedSimpArgs false
/- shave.Odd: the walks. -/
namespace Go.Proofs.Ytagmadfllfcloaa.PC
open Go.RowKit Go.Proofs.YtagmadfllfcloaaW.PrintWords Go.Proofs.YtagmadfllfcloaaW.PrintLast Go.Proofs.YtagmadfllfcloaaW.PrintMore
set_option linter.unusedVariables false
set_option linter.unusedSimpArgs false
attribute [local go_sem] run_store_func
theorem sl_neq (A : Option Addr) (n c : Nat) (w : World) : Sem.run Try.prog (binOp .neq 23 (.slice A n c) (.slice none 0 0)) w = Result.ok (.bool (!A.isNone)) w := by
  cases A <;> kernel_rfl
attribute [local go_sem] sl_neq
/-- What stands still while ways are searched. -/
structure InvO (n : Nat) (o : List Nat) (gl gon gt long : Nat) (W : World) : Prop where
  l : W.cell? ⟨gl, 0, none⟩ = some (.int .i64 (long : Int))
  on : W.cell? ⟨gon, 0, none⟩ = some (.func (.func 27) #[] #[.pointer (some ⟨gt, 0, none⟩), .pointer (some ⟨gl, 0, none⟩), .pointer (some ⟨gon, 0, none⟩)])
  t : TownAt W gt (n : Int) o
theorem InvO.below {n : Nat} {o : List Nat} {gl gon gt long : Nat} {W W1 : World} (h : InvO n o gl gon gt long W) (hb : Below W.heap.size W W1) : InvO n o gl gon gt long W1 :=
  ⟨(hb.cell (World.block_lt_of_cell? W _ h.l)).trans h.l, (hb.cell (World.block_lt_of_cell? W _ h.on)).trans h.on, h.t.below hb⟩
/-- What the search tells. -/
def SrchPost (r : Option (List Int)) (w : World) (e : Ending) (w' : World) : Prop :=
  Below w.heap.size w w' ∧ match r with
    | none => e = .returned (.slice none 0 0)
    | some l => 1 ≤ l.length ∧ l.length ≤ 12 ∧ ∃ ad c, e = .returned (.slice (some ad) l.length c) ∧ Kd.C (Kd.int .i64) w' (some ad) l.length l
def SrchVal (r : Option (List Int)) (w' : World) (A : Option Addr) (n c : Nat) : Prop := match r with
  | none => A = none ∧ n = 0 ∧ c = 0
  | some l => 1 ≤ l.length ∧ l.length ≤ 12 ∧ n = l.length ∧ ∃ ad, A = some ad ∧ Kd.C (Kd.int .i64) w' (some ad) l.length l
theorem srch_shape {r : Option (List Int)} {w w' : World} {e : Ending} (h : SrchPost r w e w') :
    ∃ A n c, e = .returned (.slice A n c) ∧ Aside0 (Below w.heap.size w w') ∧ Aside0 (SrchVal r w' A n c) := by
  obtain ⟨hb, h⟩ := h
  cases r with
  | none => exact ⟨none, 0, 0, h, ⟨hb⟩, ⟨rfl, rfl, rfl⟩⟩
  | some l => obtain ⟨h1, h2, ad, c, he, hc⟩ := h; exact ⟨some ad, l.length, c, he, ⟨hb⟩, ⟨h1, h2, rfl, ad, rfl, hc⟩⟩
/-- A way: people, not too many. -/
def WayOk (way : List Int) : Prop := 1 ≤ way.length ∧ way.length ≤ 12 ∧ ∀ x ∈ way, 0 ≤ x ∧ x < 12
theorem info3c : (Try.prog.info? 3).map (fun i => (i.zero, i.size, i.bytes)) = some (some (.int .i64 0), 1, 8) := by kernel_rfl
set_option maxHeartbeats 16000000 in
set_option maxRecDepth 100000 in
theorem odd_on (n : Nat) (hn : n ≤ 12) (o : List Nat) (ho : o.length = 12) (hlt : ∀ j, o.getD j 0 < 4096) (gl gon gt long : Nat) (hlong : long ≤ 12) : ∀ (d : Nat) (way : List Int) (hd : way.length + d = long) (hw : WayOk way) (A : Option Addr) (c : Nat) (w : World) (hc : Kd.C (Kd.int .i64) w A way.length way) (hcap : way.length ≤ c) (hI : InvO n o gl gon gt long w),
    Calls Try.prog 27 #[.slice A way.length c, .pointer (some ⟨gt, 0, none⟩), .pointer (some ⟨gl, 0, none⟩), .pointer (some ⟨gon, 0, none⟩)] w (SrchPost (srch o d way) w) := by
  intro d
  induction d using Nat.strongRecOn with
  | ind d ih =>
  intro way hd hw A c w hc hcap hI
  have HIH := Lib.hid (fun (d' : Nat) (h : d' + 1 = d) (j : Int) (hj : WayOk (way ++ [j])) (N : Nat) (hN : (way ++ [j]).length = N) (A : Option Addr) (c : Nat) (wr : World) (hc : Kd.C (Kd.int .i64) wr A N (way ++ [j])) (hcap : N ≤ c) (hI : InvO n o gl gon gt long wr) =>
    show Calls Try.prog 27 #[.slice A N c, .pointer (some ⟨gt, 0, none⟩), .pointer (some ⟨gl, 0, none⟩), .pointer (some ⟨gon, 0, none⟩)] wr (SrchPost (srch o d' (way ++ [j])) wr) by
      subst hN
      exact ih d' (by omega) (way ++ [j]) (by rw [List.length_append, List.length_singleton]; omega) hj A c wr hc hcap hI)
  have HCO := Lib.hid (fun (x : Int) (wr : World) hr => contains_walk A way.length c way x wr hr (Nat.le_trans hw.2.1 (by decide)))
  obtain ⟨L, hL⟩ : ∃ L, way.length = L := ⟨_, rfl⟩
  obtain ⟨M, hM⟩ : ∃ M, L = M + 1 := ⟨L - 1, by have := hw.1; omega⟩
  obtain ⟨ad, hA, hx⟩ := at_scalar hc M (by omega) (by omega)
  obtain ⟨ad', hA', hf⟩ := at_scalar hc 0 (by omega) (by omega)
  obtain rfl : ad = ad' := by rw [hA] at hA'; exact Option.some.inj hA'
  subst hA
  have hxin := hw.2.2 way[M] (List.getElem_mem _)
  have hfin := hw.2.2 way[0] (List.getElem_mem _)
  have hln : lastN way = way[M].toNat := by
    have h1 : way.length - 1 = M := by omega
    unfold lastN
    rw [h1]
    simp [List.getD_eq_getElem?_getD, show M < way.length by omega]
  have hfn : firstN way = way[0].toNat := by unfold firstN; simp [List.getD_eq_getElem?_getD, show 0 < way.length by omega]
  obtain ⟨x, hxx⟩ : ∃ x, way[M] = x := ⟨_, rfl⟩
  obtain ⟨f, hff⟩ : ∃ f, way[0] = f := ⟨_, rfl⟩
  rw [hxx] at hx hxin hln
  rw [hff] at hf hfin hfn
  obtain ⟨X, rfl⟩ := Int.eq_ofNat_of_zero_le hxin.1
  obtain ⟨F, rfl⟩ := Int.eq_ofNat_of_zero_le hfin.1
  rw [Int.toNat_natCast] at hln hfn
  have hX12 : X < 12 := by omega
  have hF12 : F < 12 := by omega
  have hto := hI.t.at X (by omega)
  obtain ⟨T, hT⟩ : ∃ T, o.getD X 0 = T := ⟨_, rfl⟩
  have hT4 : T < 4096 := by rw [← hT]; exact hlt X
  rw [hT] at hto
  have HM := Lib.hid (fun wr => members_calls T hT4 wr)
  have hll := hI.l
  have k1 : (L ≤ c) = True := eq_true (by omega)
  have k2 : ((L : Int) ≤ (c : Int)) = True := eq_true (by omega)
  have k3 : decide ((L : Int) ≤ (c : Int)) = true := decide_eq_true (by omega)
  have k4 : (0 : Int) ≤ (L : Int) := by omega
  have e1 : wrap64 ((L : Int) - 1) = (M : Int) := by unfold wrap64; omega
  have e1' : IntKind.i64.wrap ((L : Int) - 1) = (M : Int) := (i64_w _).trans e1
  have b1 : decide ((M : Int) < (L : Int)) = true := decide_eq_true (by omega)
  have b1n : (M < L) = True := eq_true (by omega)
  have b0n : (0 < L) = True := eq_true (by omega)
  have HS := Aside0.mk (And.intro hd (And.intro hL hM))
  have HL12 := Aside0.mk (show L ≤ 12 by have := hw.2.1; omega)
  have HW := Aside0.mk hw
  have HI0 := Aside0.mk hI
  have HC := Aside0.mk hc
  have HLF := Aside0.mk (And.intro hln hfn)
  have HTT := Aside0.mk (And.intro hT hT4)
  have b2n : (X < 12) = True := eq_true hX12
  have b2 : decide ((X : Int) < 12) = true := decide_eq_true (by omega)
  have b3 : ((X : Int) < 12) = True := eq_true (by omega)
  have HX := Aside0.mk (And.intro hX12 hF12)
  rw [hL] at HC HCO ⊢
  clear hcap ih hd hw hc hI hA' hxin hfin hln hfn hxx hff hM hT hT4 hlt hX12 hF12 hL
  have HLW := Aside0.mk HS.out.2.1
  have HL100 := Aside0.mk (Nat.le_trans HL12.out (by decide : 12 ≤ 100))
  go_enter Try.func27, Try.ntmps27
  have hf0 : w.cell? ad = some (.int .i64 (F : Int)) := by rw [← hf]; rfl
  by_cases hd0 : d = 0
  · subst hd0
    obtain rfl : L = long := by have := HS.out; omega
    have e3 : bits .and .i64 ((T : Int) / 2 ^ F) 1 = if T.testBit F then 1 else 0 := by
      have e : ((T : Int) / 2 ^ F) = ((T / 2 ^ F : Nat) : Int) := by push_cast; rfl
      rw [e]
      exact bit_val T F (by have := HTT.out.2; omega)
    have hf64 : (F < 64) = True := eq_true (lt64 HX.out.2)
    have hmn : min F 64 = F := Nat.min_eq_left (Nat.le_of_lt (lt64 HX.out.2))
    have hsr : srch o 0 way = if T.testBit F then some way else none := by unfold srch; rw [HLF.out.1, HLF.out.2, HTT.out.1]
    cases hb : T.testBit F with
    | true =>
      rw [hb, if_pos rfl] at e3 hsr
      have HSR := Aside0.mk hsr
      clear hsr hb HIH HCO HM
      go_wp2_with (fail)
      go_ret
      rw [HSR.out]
      exact ⟨Below.refl _ _, HW.out.1, HW.out.2.1, ad, c, by rw [HS.out.2.1]; rfl, by rw [HS.out.2.1]; exact HC.out⟩
    | false =>
      rw [hb, if_neg (by decide)] at e3 hsr
      have HSR := Aside0.mk hsr
      clear hsr hb HIH HCO HM
      go_wp2_with (fail)
      go_ret
      rw [HSR.out]
      exact ⟨Below.refl _ _, rfl⟩
  obtain ⟨d', rfl⟩ : ∃ d', d = d' + 1 := ⟨d - 1, by omega⟩
  have c1 : ((L : Int) == (long : Int)) = false := beq_eq_false_iff_ne.2 (by have := HS.out; omega)
  have c1n : (L = long) = False := eq_false (by have := HS.out; omega)
  clear hd0
  go_wp2_with (fail)
  refine (HM.out _).mono ?_; rintro e wa ⟨v0, rfl, hr, hb⟩
  obtain ⟨A2, c2, rfl⟩ := Kd.R_slice hr
  have hsr : srch o (d' + 1) way = (memI T).findSome? fun j => if j ∈ way then none else srch o d' (way ++ [j]) := by rw [srch, HLF.out.1, HTT.out.1]
  have hmem : ∀ j ∈ memI T, 0 ≤ j ∧ j < 12 := fun j hj => by
    obtain ⟨y, hy, rfl⟩ := List.mem_map.1 hj
    have := memN_lt hy
    omega
  have hml : (memI T).length ≤ 12 := by unfold memI memN; rw [List.length_map]; exact Nat.le_trans (List.length_filter_le _ _) (by simp)
  obtain ⟨ml, hmm⟩ : ∃ ml, memI T = ml := ⟨_, rfl⟩
  rw [hmm] at hr hsr hmem hml ⊢
  have HSR := Aside0.mk hsr
  have HMM := Aside0.mk hmem
  have HC2 := Aside0.mk (Kd.R_reads' hr).2.2
  have HB := Aside0.mk hb
  obtain ⟨K, hK⟩ : ∃ K, ml.length = K := ⟨_, rfl⟩
  rw [hK] at hml HC2 ⊢
  have HK := Aside0.mk (And.intro hK hml)
  clear hsr hmem hmm hr hb hK hml HM
  go_wp2_with (fail)
  go_loopw [34] (fun v34 wr => ∃ i : Nat, i ≤ K ∧ v34 = .int .i64 (i : Int) ∧ Aside0 (Below wa.heap.size wa wr) ∧ Aside0 (srch o (d' + 1) way = (ml.drop i).findSome? fun j => if j ∈ way then none else srch o d' (way ++ [j]))) (fun v34 _ => K - (intOf v34).toNat)
  case atStart => exact ⟨0, by omega, rfl, ⟨Below.refl _ _⟩, HSR⟩
  case round =>
    clear HSR hf0 hx hf hto hll
    obtain ⟨i, hi, rfl, HBW, HSR⟩ := hrel
    have HBA := Aside0.mk (HB.out.trans (HBW.out.mono HB.out.size))
    by_cases hiK : i < K
    · have d1 : decide ((i : Int) < (K : Int)) = true := decide_eq_true (by omega)
      have d1n : (i < K) = True := eq_true hiK
      obtain ⟨ad2, e, hcell⟩ := at_scalar HC2.out i hiK (by have := HK.out; omega)
      subst e
      replace hcell := (HBW.out.cell (World.block_lt_of_cell? wa _ hcell)).trans hcell
      have hil : i < ml.length := by have := HK.out; omega
      have hdr : ml.drop i = ml[i] :: ml.drop (i + 1) := List.drop_eq_getElem_cons hil
      have hjm := HMM.out ml[i] (List.getElem_mem _)
      obtain ⟨j, hj⟩ : ∃ j, ml[i] = j := ⟨_, rfl⟩
      rw [hj] at hcell hdr hjm
      have HS1 := HSR.out
      rw [hdr, List.findSome?_cons] at HS1
      have HJ := Aside0.mk hjm
      have hcw := Kd.C_below HC.out HBA.out
      have HCW := Aside0.mk hcw
      have HX1 := Lib.hid (HCO.out j wr hcw)
      have HSN := Aside0.mk HS1
      have HI1 := Aside0.mk (HI0.out.below HBA.out)
      clear HS1 hdr hjm hj hil hcw HSR
      by_cases hjw : j ∈ way
      · have e4 : decide (j ∈ way) = true := decide_eq_true hjw
        rw [e4] at HX1
        have HSN2 := HSN.out
        rw [if_pos hjw] at HSN2
        have HSN3 := Aside0.mk HSN2
        clear HSN HSN2 hjw e4
        go_wp2_with (fail)
        refine HX1.out.mono ?_; rintro e wb ⟨rfl, rfl⟩
        go_wp2_with (fail)
        go_roundw
        case rel => exact ⟨i + 1, by omega, vI (by have := HK.out; omega), HBW, HSN3⟩
        case measure => exact mstepA hiK (by have := HK.out; omega)
      · have e4 : decide (j ∈ way) = false := decide_eq_false hjw
        rw [e4] at HX1
        have HSN2 := HSN.out
        rw [if_neg hjw] at HSN2
        have HSN3 := Aside0.mk HSN2
        have hon := HI1.out.on
        clear HSN HSN2 hjw e4
        go_wp2_with (fail)
        refine HX1.out.mono ?_; rintro e wb ⟨rfl, rfl⟩
        go_wp2_with (fail)
        have HWJ := Aside0.mk (show WayOk (way ++ [j]) from ⟨by simp, by have := HS.out; have := hlong; rw [List.length_append, List.length_singleton]; omega, fun y hy => by rcases List.mem_append.1 hy with h | h; exact HW.out.2.2 y h; rw [List.mem_singleton] at h; rw [h]; exact HJ.out⟩)
        have hon2 := (HI1.out.below ((Below.refl _ wb).alloc (Nat.le_refl _) (.cells #[.int .i64 j] 3))).on
        have HLJ := Aside0.mk (show (way ++ [j]).length = L + 1 by rw [List.length_append, List.length_singleton, HLW.out])
        go_region_law (first
          | (refine step_cut_own (W := wb.drew) rfl (.tmp 48) (.tmp 50) 23 rfl Try.underlying23 info3c (some ad) way L HLW.out HL100.out j (by simp [Act.eval, Act.put]) (by simp [Act.eval, Act.put]) ?hC ?_; (case hC => exact Kd.C_drew HCW.out); intro v51 w51 ho51 hb51; obtain ⟨A51, c51, e51, hl51, hc51⟩ := Kd.R_reads ho51; rw [HLJ.out] at e51 hl51 hc51; subst e51; have HB51 := Aside0.mk hb51; have HC51 := Aside0.mk (And.intro hl51 hc51); have hon51 := ((HI1.out.below ((Below.refl _ _).drew)).below HB51.out).on; clear hb51 hl51 hc51 ho51)
          | (go_simp; refine (HIH.out d' rfl j HWJ.out (L + 1) HLJ.out A51 c51 w51 HC51.out.2 HC51.out.1 ((HI1.out.below ((Below.refl _ _).drew)).below HB51.out)).mono ?_; intro e w52 hp52; obtain ⟨A52, n52, c52, rfl, HB52, HP52⟩ := srch_shape hp52; clear hp52))
        all_goals
          have hbw := HBA.out.trans ((((Below.refl wb.heap.size wb).drew.trans (HB51.out.mono (Nat.le_refl _))).trans (HB52.out.mono HB51.out.size)).mono HBA.out.size)
          have HBF := Aside0.mk hbw
          obtain ⟨r, hr⟩ : ∃ r, srch o d' (way ++ [j]) = r := ⟨_, rfl⟩
          have hs3 := HSN3.out
          have hp3 := HP52.out
          rw [hr] at hs3 hp3
          clear HSN3 HP52 hbw hr
          cases r with
          | none =>
            have HS4 := Aside0.mk hs3
            have e0 : A52.isNone = true := by rw [hp3.1]; rfl
            clear hs3 hp3
            go_wp2_with (fail)
            go_roundw
            case rel => exact ⟨i + 1, by omega, vI (by have := HK.out; omega), ⟨(HBW.out.trans ((((Below.refl wb.heap.size wb).drew.trans (HB51.out.mono (Nat.le_refl _))).trans (HB52.out.mono HB51.out.size)).mono HBW.out.size))⟩, HS4⟩
            case measure => exact mstepA hiK (by have := HK.out; omega)
          | some l =>
            have HS4 := Aside0.mk hs3
            have e0 : A52.isNone = false := by obtain ⟨_, _, _, ad5, e, _⟩ := hp3; rw [e]; rfl
            have HC5 := Aside0.mk hp3
            clear hs3 hp3
            go_wp2_with (fail)
            go_ret
            obtain ⟨hl1, hl2, rfl, ad5, rfl, hc5⟩ := HC5.out
            rw [HS4.out]
            exact ⟨HBF.out, hl1, hl2, ad5, c52, rfl, hc5⟩
    · have d1 : decide ((i : Int) < (K : Int)) = false := decide_eq_false (by omega)
      have d1n : (i < K) = False := eq_false hiK
      have HSN := HSR.out
      rw [List.drop_eq_nil_of_le (by have := HK.out; omega), List.findSome?_nil] at HSN
      have HSN2 := Aside0.mk HSN
      clear HSN HSR
      go_wp2_with (fail)
      go_ret
      rw [HSN2.out]
      exact ⟨HBA.out, rfl⟩
end Go.Proofs.Ytagmadfllfcloaa.PC
end
section
set_option linter.unusedVariables false
set_option linter.unusedSimpArgs false
/- truth.Cycle's closure: the walk. -/
namespace Go.Proofs.Ytagmadfllfcloaa.PC
open Go.RowKit Go.Proofs.YtagmadfllfcloaaW.PrintWords Go.Proofs.YtagmadfllfcloaaW.PrintLast Go.Proofs.YtagmadfllfcloaaW.PrintMore
set_option linter.unusedVariables false
set_option linter.unusedSimpArgs false
attribute [local go_sem] run_store_func sl_neq
/-- truth's search from a way: only odd lengths come home. -/
def srchT (N : Nat) (ms : List (List Nat)) (good : Bool) : Nat → List Int → Option (List Int)
  | 0, way => if good = true ∧ firstN way ∈ ms.getD (lastN way) [] then some way else none
  | d + 1, way => (List.range N).findSome? fun j : Nat => if j ∈ ms.getD (lastN way) [] then (if (j : Int) ∈ way then none else srchT N ms good d (way ++ [(j : Int)])) else none
theorem setAll_getD : ∀ (m : List Nat) (s : List Bool) (j : Nat), j < s.length → (setAll m s).getD j false = (s.getD j false || decide (j ∈ m))
  | [], s, j, h => by simp [setAll]
  | x :: m, s, j, h => by
    have := setAll_getD m (s.set x true) j (by rw [List.length_set]; exact h)
    refine this.trans ?_
    by_cases hx : x = j
    · subst hx
      simp [List.getD_eq_getElem?_getD, h]
    · have e : (s.set x true).getD j false = s.getD j false := by simp only [List.getD_eq_getElem?_getD]; rw [List.getElem?_set_ne hx]
      rw [e]
      have e2 : decide (j ∈ x :: m) = decide (j ∈ m) := decide_eq_decide.2 ⟨fun h => (List.mem_cons.1 h).resolve_left (fun e => hx e.symm), List.mem_cons_of_mem _⟩
      rw [e2]
theorem rowOf_getD (N : Nat) (m : List Nat) (j : Nat) (h : j < N) : (rowOf N m).getD j false = decide (j ∈ m) := by
  unfold rowOf
  rw [setAll_getD _ _ _ (by simpa using h)]
  simp [List.getD_eq_getElem?_getD, h]
theorem rowOf_len (N : Nat) (m : List Nat) : (rowOf N m).length = N := by unfold rowOf; rw [setAll_len, List.length_replicate]
/-- What stands still while ways are searched. -/
structure InvC (N : Nat) (ms : List (List Nat)) (gO garc gl godd gon long : Nat) (W : World) : Prop where
  arc : W.cell? ⟨garc, 0, none⟩ = some (.slice (some ⟨gO, 0, none⟩) N N)
  l : W.cell? ⟨gl, 0, none⟩ = some (.int .i64 (long : Int))
  odd : W.cell? ⟨godd, 0, none⟩ = some (.bool true)
  on : W.cell? ⟨gon, 0, none⟩ = some (.func (.func 25) #[] #[.pointer (some ⟨garc, 0, none⟩), .pointer (some ⟨gl, 0, none⟩), .pointer (some ⟨godd, 0, none⟩), .pointer (some ⟨gon, 0, none⟩)])
  t : ArcsAt W gO N ms
theorem InvC.below {N : Nat} {ms : List (List Nat)} {gO garc gl godd gon long : Nat} {W W1 : World} (h : InvC N ms gO garc gl godd gon long W) (hb : Below W.heap.size W W1) : InvC N ms gO garc gl godd gon long W1 :=
  ⟨(hb.cell (World.block_lt_of_cell? W _ h.arc)).trans h.arc, (hb.cell (World.block_lt_of_cell? W _ h.l)).trans h.l, (hb.cell (World.block_lt_of_cell? W _ h.odd)).trans h.odd, (hb.cell (World.block_lt_of_cell? W _ h.on)).trans h.on, h.t.below hb⟩
theorem old1 {w : World} {a : Addr} {v : Value} (h : w.cell? a = some v) : ∀ A, (w.alloc A).cell? a = some v := fun A => (((Below.refl w.heap.size w).alloc (Nat.le_refl _) A).cell (World.block_lt_of_cell? w _ h)).trans h
theorem old2 {w : World} {a : Addr} {v : Value} (h : w.cell? a = some v) : ∀ A B, ((w.alloc A).alloc B).cell? a = some v := fun A B => old1 (old1 h A) B
theorem below2 (w : World) (A B : Obj) : Below w.heap.size w ((w.alloc A).alloc B) := ((Below.refl _ _).alloc (Nat.le_refl _) A).alloc (by simp) B
def WayN (N : Nat) (way : List Int) : Prop := 1 ≤ way.length ∧ way.length ≤ 12 ∧ ∀ x ∈ way, 0 ≤ x ∧ x < N
theorem par_flip (n : Nat) : (!(n % 2 == 1)) = ((n + 1) % 2 == 1) := by
  rcases Nat.mod_two_eq_zero_or_one n with h | h
  · have h2 : (n + 1) % 2 = 1 := by omega
    rw [h, h2]; rfl
  · have h2 : (n + 1) % 2 = 0 := by omega
    rw [h, h2]; rfl
/-- The closure's contract, with d steps left. -/
def CycOn (N : Nat) (ms : List (List Nat)) (gO garc gl godd gon long d : Nat) : Prop := ∀ (way : List Int) (hd : way.length + d = long) (hw : WayN N way) (e : Bool) (he : e = (way.length % 2 == 1)) (A : Option Addr) (c : Nat) (w : World) (hc : Kd.C (Kd.int .i64) w A way.length way) (hcap : way.length ≤ c) (hI : InvC N ms gO garc gl godd gon long w),
    Calls Try.prog 25 #[.slice A way.length c, .agg #[.bool e, .bool (!e)], .pointer (some ⟨garc, 0, none⟩), .pointer (some ⟨gl, 0, none⟩), .pointer (some ⟨godd, 0, none⟩), .pointer (some ⟨gon, 0, none⟩)] w (SrchPost (srchT N ms (long % 2 == 1) d way) w)
end Go.Proofs.Ytagmadfllfcloaa.PC
end
section
set_option linter.unusedVariables false
set_option linter.unusedSimpArgs false
/- truth.Cycle's closure: the walk, part 0. -/
namespace Go.Proofs.Ytagmadfllfcloaa.PC
open Go.RowKit Go.Proofs.YtagmadfllfcloaaW.PrintWords Go.Proofs.YtagmadfllfcloaaW.PrintLast Go.Proofs.YtagmadfllfcloaaW.PrintMore
set_option linter.unusedVariables false
set_option linter.unusedSimpArgs false
attribute [local go_sem] run_store_func sl_neq
set_option maxHeartbeats 16000000 in
set_option maxRecDepth 100000 in
theorem cyc_zero (N : Nat) (hN : N ≤ 10) (ms : List (List Nat)) (gO garc gl godd gon long : Nat) (hlong : long ≤ 12) (d : Nat) (ih : ∀ m, m < d → CycOn N ms gO garc gl godd gon long m) (hd0 : d = 0) :
    ∀ (way : List Int) (hd : way.length + d = long) (hw : WayN N way) (e : Bool) (he : e = (way.length % 2 == 1)) (A : Option Addr) (c : Nat) (w : World) (hc : Kd.C (Kd.int .i64) w A way.length way) (hcap : way.length ≤ c) (hI : InvC N ms gO garc gl godd gon long w),
    Calls Try.prog 25 #[.slice A way.length c, .agg #[.bool e, .bool (!e)], .pointer (some ⟨garc, 0, none⟩), .pointer (some ⟨gl, 0, none⟩), .pointer (some ⟨godd, 0, none⟩), .pointer (some ⟨gon, 0, none⟩)] w (SrchPost (srchT N ms (long % 2 == 1) d way) w) := by
  intro way hd hw e he A c w hc hcap hI
  have HIH := Lib.hid (fun (d' : Nat) (h : d' + 1 = d) (j : Int) (hj : WayN N (way ++ [j])) (P : Nat) (hP : (way ++ [j]).length = P) (A : Option Addr) (c : Nat) (wr : World) (hc : Kd.C (Kd.int .i64) wr A P (way ++ [j])) (hcap : P ≤ c) (hI : InvC N ms gO garc gl godd gon long wr) =>
    show Calls Try.prog 25 #[.slice A P c, .agg #[.bool (!e), .bool e], .pointer (some ⟨garc, 0, none⟩), .pointer (some ⟨gl, 0, none⟩), .pointer (some ⟨godd, 0, none⟩), .pointer (some ⟨gon, 0, none⟩)] wr (SrchPost (srchT N ms (long % 2 == 1) d' (way ++ [j])) wr) by
      subst hP
      have := ih d' (by omega) (way ++ [j]) (by rw [List.length_append, List.length_singleton]; omega) hj (!e) (by rw [he, List.length_append, List.length_singleton]; exact par_flip _) A c wr hc hcap hI
      rwa [Bool.not_not] at this)
  have HCO := Lib.hid (fun (x : Int) (wr : World) hr => contains_walk A way.length c way x wr hr (Nat.le_trans hw.2.1 (by decide)))
  obtain ⟨L, hL⟩ : ∃ L, way.length = L := ⟨_, rfl⟩
  obtain ⟨M, hM⟩ : ∃ M, L = M + 1 := ⟨L - 1, by have := hw.1; omega⟩
  obtain ⟨ad, hA, hx⟩ := at_scalar hc M (by omega) (by omega)
  obtain ⟨ad', hA', hf⟩ := at_scalar hc 0 (by omega) (by omega)
  obtain rfl : ad = ad' := by rw [hA] at hA'; exact Option.some.inj hA'
  subst hA
  have hxin := hw.2.2 way[M] (List.getElem_mem _)
  have hfin := hw.2.2 way[0] (List.getElem_mem _)
  have hln : lastN way = way[M].toNat := by
    have h1 : way.length - 1 = M := by omega
    unfold lastN
    rw [h1]
    simp [List.getD_eq_getElem?_getD, show M < way.length by omega]
  have hfn : firstN way = way[0].toNat := by unfold firstN; simp [List.getD_eq_getElem?_getD, show 0 < way.length by omega]
  obtain ⟨x, hxx⟩ : ∃ x, way[M] = x := ⟨_, rfl⟩
  obtain ⟨f, hff⟩ : ∃ f, way[0] = f := ⟨_, rfl⟩
  rw [hxx] at hx hxin hln
  rw [hff] at hf hfin hfn
  obtain ⟨X, rfl⟩ := Int.eq_ofNat_of_zero_le hxin.1
  obtain ⟨F, rfl⟩ := Int.eq_ofNat_of_zero_le hfin.1
  rw [Int.toNat_natCast] at hln hfn
  have hX12 : X < N := by omega
  have hF12 : F < N := by omega
  obtain ⟨gr, hrc, hrow⟩ := hI.t X hX12
  obtain ⟨T, hT⟩ : ∃ T, ms.getD X [] = T := ⟨_, rfl⟩
  rw [hT] at hrow
  have harc := hI.arc
  have hll := hI.l
  have k1 : (L ≤ c) = True := eq_true (by omega)
  have k2 : ((L : Int) ≤ (c : Int)) = True := eq_true (by omega)
  have k3 : decide ((L : Int) ≤ (c : Int)) = true := decide_eq_true (by omega)
  have k4 : (0 : Int) ≤ (L : Int) := by omega
  have e1 : wrap64 ((L : Int) - 1) = (M : Int) := by unfold wrap64; omega
  have e1' : IntKind.i64.wrap ((L : Int) - 1) = (M : Int) := (i64_w _).trans e1
  have b1 : decide ((M : Int) < (L : Int)) = true := decide_eq_true (by omega)
  have b1n : (M < L) = True := eq_true (by omega)
  have b0n : (0 < L) = True := eq_true (by omega)
  have HS := Aside0.mk (And.intro hd (And.intro hL hM))
  have HL12 := Aside0.mk (show L ≤ 12 by have := hw.2.1; omega)
  have HW := Aside0.mk hw
  have HI0 := Aside0.mk hI
  have HC := Aside0.mk hc
  have HLF := Aside0.mk (And.intro hln hfn)
  have HRW := Aside0.mk hrow
  have b2n : (X < N) = True := eq_true hX12
  have b2 : decide ((X : Int) < (N : Int)) = true := decide_eq_true (by omega)
  have b3 : ((X : Int) < (N : Int)) = True := eq_true (by omega)
  have HX := Aside0.mk (And.intro hX12 (And.intro hF12 hN))
  have HE := Aside0.mk he
  have HT := Aside0.mk hT
  rw [hL] at HC HCO ⊢
  rw [hL] at he
  clear hcap ih hd hw hc hI hA' hxin hfin hln hfn hxx hff hM hX12 hF12 hL hN hrow hT
  have HLW := Aside0.mk HS.out.2.1
  have HL100 := Aside0.mk (Nat.le_trans HL12.out (by decide : 12 ≤ 100))
  have HEL := Aside0.mk he
  clear he HE
  have hf0 : w.cell? ad = some (.int .i64 (F : Int)) := by rw [← hf]; rfl
  have hb1 : Below w.heap.size w (w.alloc (.cells #[.bool e, .bool (!e)] 65)) := (Below.refl _ _).alloc (Nat.le_refl _) _
  replace hx := (hb1.cell (World.block_lt_of_cell? w _ hx)).trans hx
  replace hrc := (hb1.cell (World.block_lt_of_cell? w _ hrc)).trans hrc
  replace harc := (hb1.cell (World.block_lt_of_cell? w _ harc)).trans harc
  have HF0 := Aside0.mk ((hb1.cell (World.block_lt_of_cell? w _ hf0)).trans hf0)
  have HRW1 := Aside0.mk (HRW.out.below hb1)
  have HI1 := Aside0.mk (HI0.out.below hb1)
  have HC1 := Aside0.mk (Kd.C_below HC.out hb1)
  have HB1 := Aside0.mk hb1
  clear hf hf0 hll HRW HI0 HC hb1
  go_enter Try.func25, Try.ntmps25
  go_wp2_with (fail)
  generalize hW : (World.alloc _ _ : World) = w1
  rw [hW] at HF0 HRW1 HI1 HC1 HB1
  have hs0 : w1.cell? ⟨w.heap.size, 0, none⟩ = some (.bool e) := by rw [← hW]; refine (World.cell?_alloc_at _ _ _ _ rfl).trans ?_; rfl
  have hs1 : w1.cell? ⟨w.heap.size, 1, none⟩ = some (.bool (!e)) := by rw [← hW]; refine (World.cell?_alloc_at _ _ _ _ rfl).trans ?_; rfl
  obtain ⟨g7, hg7⟩ : ∃ g7, w.heap.size = g7 := ⟨_, rfl⟩
  rw [hg7] at hs0 hs1 ⊢
  have HS01 := Aside0.mk (And.intro hs0 hs1)
  clear hx hrc harc hW hg7 hs0 hs1
  subst hd0
  obtain rfl : L = long := by have := HS.out; omega
  have HSR := Aside0.mk (show srchT N ms (L % 2 == 1) 0 way = if (L % 2 == 1) = true ∧ F ∈ T then some way else none by unfold srchT; rw [HLF.out.1, HLF.out.2, HT.out])
  go_loopw [25] (fun v25 wr => ∃ j : Nat, j ≤ N ∧ v25 = .int .i64 (j : Int) ∧ Aside0 (Below w1.heap.size w1 wr) ∧ Aside0 (e = true → F < j → F ∉ T)) (fun v25 _ => N - (intOf v25).toNat)
  case atStart => exact ⟨0, by omega, rfl, ⟨Below.refl _ _⟩, ⟨fun _ h => absurd h (Nat.not_lt_zero _)⟩⟩
  case round =>
    obtain ⟨j, hj, rfl, HBW, HF⟩ := hrel
    by_cases hjN : j < N
    · have d1 : decide ((j : Int) < (N : Int)) = true := decide_eq_true (by omega)
      have d1n : (j < N) = True := eq_true hjN
      have hrw := HRW1.out.below HBW.out
      have hc0 := hrw.c0 (j := j) (by rw [rowOf_len]; exact hjN)
      have hc1 := hrw.c1 (j := j) (by rw [rowOf_len]; exact hjN)
      rw [rowOf_getD N T j hjN] at hc1
      have HIW := Aside0.mk (HI1.out.below HBW.out)
      have f1 := old1 ((HBW.out.cell (World.block_lt_of_cell? w1 _ HS01.out.1)).trans HS01.out.1)
      have f2 := old1 ((HBW.out.cell (World.block_lt_of_cell? w1 _ HS01.out.2)).trans HS01.out.2)
      have f3 := old2 HIW.out.l
      have f4 := old2 HIW.out.odd
      have f5 := old2 ((HBW.out.cell (World.block_lt_of_cell? w1 _ HF0.out)).trans HF0.out)
      have HJ1 := Aside0.mk (show j + 1 ≤ N from hjN)
      have HMS := Aside0.mk (mstepA hjN (show N ≤ 1000 by have := HX.out; omega))
      have HVI := Aside0.mk (vI (show j ≤ 1000000 by have := HX.out; omega))
      obtain ⟨b, hb⟩ : ∃ b, decide (j ∈ T) = b := ⟨_, rfl⟩
      rw [hb] at hc1
      have HBB := Aside0.mk hb
      clear hb hrw
      cases b with
      | false =>
        cases e
        all_goals
          go_wp2_with (fail)
          refine ⟨⟨j + 1, HJ1.out, HVI.out, ⟨HBW.out.trans ((below2 _ _ _).mono HBW.out.size)⟩, ⟨?_⟩⟩, HMS.out⟩
          first
            | exact fun he _ => absurd he (by decide)
            | (intro _ h hF; rcases Nat.lt_or_ge F j with h1 | h1; · exact HF.out rfl h1 hF
               · have e0 : F = j := by omega
                 rw [e0] at hF
                 exact of_decide_eq_false HBB.out hF)
      | true =>
        cases e
        all_goals
          by_cases hjF : j = F
          · subst hjF
            go_wp2_with (fail)
            first
              | (refine ⟨⟨j + 1, HJ1.out, HVI.out, ⟨HBW.out.trans ((below2 _ _ _).mono HBW.out.size)⟩, ⟨?_⟩⟩, HMS.out⟩; exact fun he _ => absurd he (by decide))
              | (go_ret
                 have hsr := HSR.out
                 rw [if_pos ⟨HEL.out.symm, of_decide_eq_true HBB.out⟩] at hsr
                 rw [hsr]
                 have hbb := HB1.out.trans ((HBW.out.trans ((below2 wr (.cells #[.bool false, .bool true] 65) (.cells #[.bool false, .bool true] 65)).mono HBW.out.size)).mono HB1.out.size)
                 have hbw := HBW.out.trans ((below2 wr (.cells #[.bool false, .bool true] 65) (.cells #[.bool false, .bool true] 65)).mono HBW.out.size)
                 refine ⟨hbb, HW.out.1, HW.out.2.1, ad, c, by rw [HLW.out]; rfl, ?_⟩
                 rw [HLW.out]
                 exact Kd.C_below HC1.out hbw)
          · have c1 : ((j : Int) == (F : Int)) = false := beq_eq_false_iff_ne.2 (by omega)
            have c1n : (j = F) = False := eq_false hjF
            go_wp2_with (fail)
            refine ⟨⟨j + 1, HJ1.out, HVI.out, ⟨HBW.out.trans ((below2 _ _ _).mono HBW.out.size)⟩, ⟨?_⟩⟩, HMS.out⟩
            first
              | exact fun he _ => absurd he (by decide)
              | (intro _ h hF; exact HF.out rfl (by omega) hF)
    · have d1 : decide ((j : Int) < (N : Int)) = false := decide_eq_false (by omega)
      have d1n : (j < N) = False := eq_false hjN
      have hsr := HSR.out
      rw [if_neg (fun h => HF.out (HEL.out.trans h.1) (by have := HX.out; omega) h.2)] at hsr
      have HSR2 := Aside0.mk hsr
      clear hsr HSR
      go_wp2_with (fail)
      go_ret
      rw [HSR2.out]
      exact ⟨HB1.out.trans (HBW.out.mono HB1.out.size), rfl⟩
end Go.Proofs.Ytagmadfllfcloaa.PC
end
