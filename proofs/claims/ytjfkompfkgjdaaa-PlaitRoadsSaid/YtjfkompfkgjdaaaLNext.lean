/- Arch systems: the next one in the lexicographic order, by the program (one pass) and by the specification (tries from the end). -/
import Derived.Test.YtjfkompfkgjdaaaLPart
import Derived.Test.YtjfkompfkgjdaaaPCf60
import Derived.Test.YtjfkompfkgjdaaaPCf35
import Derived.Test.YtjfkompfkgjdaaaPCf36
namespace Go.Proofs.Ytjfkompfkgjdaaa.L
open Go.RowKit Go.Proofs.Ytjfkompfkgjdaaa.PC Go.Proofs.YtjfkompfkgjdaaaW.PrintWords Go.Proofs.YtjfkompfkgjdaaaW.PrintLast
theorem opens_eq (s : ByteArray) : plait_opens s = (opn s s.size : Int) := by
  have h : ∀ i, i ≤ s.size → (s.data.toList.take i).countP (fun c => c == 40) = opn s i := by
    intro i
    induction i with
    | zero => intro _; simp [opn]
    | succ i ih =>
      intro hi
      rw [opens_snoc s i (by omega), ih (by omega), opn]
      have e : bt s (i : Int) = ((s[i]'(by omega)).toNat : Int) := (bt_at s (i : Int) (by simp; omega)).symm
      rw [e]
      congr 1
      by_cases c : (s[i]'(by omega)).toNat = 40
      · rw [if_pos c, if_pos (by omega)]
      · rw [if_neg c, if_neg (by omega)]
  have := h s.size (Nat.le_refl _)
  unfold plait_opens
  rw [← this, List.take_of_length_le (by simp)]
theorem ascii_of (s : ByteArray) (h : ∀ i : Nat, i < s.size → bt s (i : Int) = 40 ∨ bt s (i : Int) = 41) : plait_ascii s = true := by
  unfold plait_ascii
  rw [List.all_eq_true]
  intro x hx
  obtain ⟨i, hi, rfl⟩ := List.getElem_of_mem hx
  have hi' : i < s.size := by simpa using hi
  have e : bt s (i : Int) = ((s[i]'hi').toNat : Int) := (bt_at s (i : Int) (by simpa using hi')).symm
  have := h i hi'
  have e2 : s[i]'hi' = s.data.toList[i] := rfl
  rw [e2] at e
  rw [decide_eq_true_eq]; omega
/-- the depth before byte i -/
def dp (s : ByteArray) (i : Nat) : Int := 2 * (opn s i : Int) - (i : Int)
/-- the last byte before i that is an opening one inside another, or -1 -/
def la (s : ByteArray) : Nat → Int
  | 0 => -1
  | i + 1 => if bt s (i : Int) = 40 ∧ dp s i > 0 then (i : Int) else la s i
theorem la_lt (s : ByteArray) (i : Nat) : -1 ≤ la s i ∧ la s i < (i : Int) := by
  induction i with
  | zero => simp [la]
  | succ i ih => simp only [la]; split <;> omega
theorem opn_mono (s : ByteArray) {i j : Nat} (h : i ≤ j) : opn s i ≤ opn s j := by
  induction j with
  | zero => obtain rfl : i = 0 := by omega
            exact Nat.le_refl _
  | succ j ih =>
    by_cases e : i = j + 1
    · rw [e]; exact Nat.le_refl _
    · have := ih (by omega); simp only [opn]; omega
theorem opn_step (s : ByteArray) (j : Nat) : opn s j ≤ opn s (j + 1) ∧ opn s (j + 1) ≤ opn s j + 1 := by
  simp only [opn]; split <;> omega
theorem opn_lip (s : ByteArray) {i j : Nat} (h : i ≤ j) : opn s j + i ≤ opn s i + j := by
  induction j with
  | zero => obtain rfl : i = 0 := by omega
            exact Nat.le_refl _
  | succ j ih =>
    by_cases e : i = j + 1
    · rw [e]; exact Nat.le_refl _
    · have := ih (by omega); have := opn_step s j; omega
/-- m copies of a byte -/
def rp (c : UInt8) (m : Nat) : ByteArray := ⟨(Lib.repeatL [c] m).toArray⟩
theorem sz1 (c : UInt8) : (⟨#[c]⟩ : ByteArray).size = 1 := rfl
theorem rp_size (c : UInt8) (m : Nat) : (rp c m).size = m := by
  simp [rp, ByteArray.size, Lib.repeatL_length]
theorem app_rp (a : ByteArray) (c : UInt8) (m : Nat) : (a ++ (⟨#[c]⟩ : ByteArray)) ++ rp c m = a ++ rp c (m + 1) := by
  apply ByteArray.ext
  simp [ByteArray.data_append, rp, Lib.repeatL]
theorem app_rp0 (a : ByteArray) (c : UInt8) : a ++ rp c 0 = a := by
  apply ByteArray.ext
  simp [ByteArray.data_append, rp, Lib.repeatL]
/-- what stands in the place of byte p and of those behind it -/
def nx (s : ByteArray) (p : Nat) : ByteArray := (((s.extract 0 p) ++ (⟨#[41]⟩ : ByteArray)) ++ rp 40 (opn s s.size - opn s p)) ++ rp 41 (opn s p + opn s s.size - 1 - p)
theorem rep_f (c : UInt8) (m : Nat) (h : m ≤ 1000) : strings_Repeat.f (⟨#[c]⟩ : ByteArray) (m : Int) = some (rp c m) := by
  unfold strings_Repeat.f
  rw [if_pos ⟨by omega, by omega, by simp [ByteArray.size]⟩]
  simp [rp]
theorem ext_size (s : ByteArray) (p : Nat) (h : p ≤ s.size) : (s.extract 0 p).size = p := by simp; omega
theorem plait_next_l0 (s : ByteArray) (hs : s.size ≤ 1000) (o : List Int) (hA : Arch s o) (d : Nat) : ∀ (i : Nat) (l9 l10 : List Int), i + d = s.size → l9.length = s.size → l10.length = s.size → (∀ j : Nat, j < i → rd l9 (j : Int) = dp s j ∧ rd l10 (j : Int) = (opn s j : Int)) →
    Ev (fun k => plait_next.l0 k s (plait_opens s) (opn s i : Int) (dp s i) (la s i) l9 l10 (s.size : Int) (i : Int)) (if la s s.size < 0 then (⟨#[]⟩ : ByteArray) else nx s (la s s.size).toNat) := by
  induction d with
  | zero =>
    intro i l9 l10 hi h9 h10 hr
    obtain rfl : i = s.size := by omega
    refine Ev.step (f := fun _ => some (if la s s.size < 0 then (⟨#[]⟩ : ByteArray) else nx s (la s s.size).toNat)) (fun k => ?_) (Ev.now _)
    simp only [plait_next.l0]
    have hl := la_lt s s.size
    rw [if_neg (by omega)]
    by_cases c : la s s.size < 0
    · rw [if_pos c, if_pos c]
    · rw [if_neg c, if_neg c]
      obtain ⟨p, hp⟩ : ∃ p : Nat, la s s.size = (p : Int) := ⟨(la s s.size).toNat, by omega⟩
      rw [hp] at c hl ⊢
      have hps : p < s.size := by omega
      have hrp := hr p hps
      have hm := opn_mono s (Nat.le_of_lt hps)
      have hl2 := opn_lip s (Nat.le_of_lt hps)
      have hb := hA.bal
      have hd := hA.dep p (by omega)
      have hle := opn_le s s.size
      have es := ext_size s p (by omega)
      have ew : wrap64 (plait_opens s - rd l10 (p : Int)) = ((opn s s.size - opn s p : Nat) : Int) := by
        rw [hrp.2, opens_eq, pw64 (by omega) (by omega)]; omega
      have ew2 : wrap64 (wrap64 (rd l9 (p : Int) - 1) + ((opn s s.size - opn s p : Nat) : Int)) = ((opn s p + opn s s.size - 1 - p : Nat) : Int) := by
        rw [hrp.1, dp, pw64 (x := 2 * (opn s p : Int) - (p : Int) - 1) (by omega) (by omega), pw64 (by omega) (by omega)]
        omega
      rw [if_pos (by omega), if_pos (by omega), if_pos (by omega), Int.toNat_natCast, if_pos (by rw [es]; omega), ew, rep_f _ _ (by omega)]
      simp only [Option.bind_some]
      rw [if_pos (by rw [ByteArray.size_append, es, rp_size, sz1]; omega), if_pos (by omega), ew2, rep_f _ _ (by omega)]
      simp only [Option.bind_some]
      rw [if_pos (by rw [ByteArray.size_append, ByteArray.size_append, es, rp_size, rp_size, sz1]; omega)]
      rfl
  | succ d ih =>
    intro i l9 l10 hi h9 h10 hr
    have hle := opn_le s i
    have hdep := hA.dep i (by omega)
    have hr' : ∀ j : Nat, j < i + 1 → rd (l9.set (i : Int).toNat (dp s i)) (j : Int) = dp s j ∧ rd (l10.set (i : Int).toNat (opn s i : Int)) (j : Int) = (opn s j : Int) := by
      intro j hj
      by_cases e : j = i
      · subst e
        simp [rd, List.getD_eq_getElem?_getD, h9, h10, show j < s.size by omega]
      · have := hr j (by omega)
        simp only [rd, List.getD_eq_getElem?_getD, Int.toNat_natCast] at this ⊢
        rw [List.getElem?_set_ne (Ne.symm e), List.getElem?_set_ne (Ne.symm e)]
        exact this
    have h := ih (i + 1) _ _ (by omega) (by simpa using h9) (by simpa using h10) hr'
    refine Ev.step (fun k => ?_) h
    simp only [plait_next.l0]
    rw [if_pos (by omega), if_pos (by omega), if_pos (by omega)]
    simp only [Option.bind_some]
    rw [if_pos (by omega), if_pos (by omega)]
    have e3 : wrap64 ((i : Int) + 1) = ((i + 1 : Nat) : Int) := by rw [pw64 (by omega) (by omega)]; rfl
    have ed : dp s i = 2 * (opn s i : Int) - (i : Int) := rfl
    rw [e3]
    by_cases c : bt s (i : Int) = 40
    · have e1 : wrap64 ((opn s i : Int) + 1) = (opn s (i + 1) : Int) := by rw [pw64 (by omega) (by omega)]; simp [opn, c]
      have e2 : wrap64 (dp s i + 1) = dp s (i + 1) := by rw [ed, pw64 (by omega) (by omega)]; simp [dp, opn, c]; omega
      rw [if_pos c, e1, e2]
      by_cases c2 : dp s i > 0
      · rw [if_pos c2]
        have e4 : la s (i + 1) = (i : Int) := by simp only [la]; rw [if_pos ⟨c, c2⟩]
        rw [e4]
      · rw [if_neg c2]
        have e4 : la s (i + 1) = la s i := by simp only [la]; rw [if_neg (fun h => c2 h.2)]
        rw [e4]
    · have e1 : opn s (i + 1) = opn s i := by simp [opn, c]
      have e2 : wrap64 (dp s i - 1) = dp s (i + 1) := by rw [ed, pw64 (by omega) (by omega)]; simp [dp, opn, c]; omega
      have e4 : la s (i + 1) = la s i := by simp only [la]; rw [if_neg (fun h => c h.1)]
      rw [if_neg c, e1, e2, e4]
theorem plait_next_both (s : ByteArray) (hs : s.size ≤ 1000) (o : List Int) (hA : Arch s o) : Ev (fun k => plait_next.f k s) (if la s s.size < 0 then (⟨#[]⟩ : ByteArray) else nx s (la s s.size).toNat) := by
  have h := plait_next_l0 s hs o hA s.size 0 (List.replicate s.size 0) (List.replicate s.size 0) (by omega) (by simp) (by simp) (fun j hj => by omega)
  refine Ev.congr (fun k => ?_) h
  unfold plait_next.f
  rw [if_pos (ascii_of s hA.br), if_pos (by omega), if_pos (by omega)]
  rfl
/-! ### by the specification -/
theorem ref_l3 (s : ByteArray) (hs : s.size ≤ 1000) (m : Nat) : ∀ a : ByteArray, a.size + m = s.size → Ev (fun k => pomaderef07_Next.l3 k s a) (a ++ rp 41 m, 0) := by
  induction m with
  | zero =>
    intro a ha
    refine Ev.step (f := fun _ => some (a ++ rp 41 0, 0)) (fun k => ?_) (Ev.now _)
    simp only [pomaderef07_Next.l3]
    rw [if_neg (by omega), app_rp0]
  | succ m ih =>
    intro a ha
    have h := ih (a ++ (⟨#[41]⟩ : ByteArray)) (by rw [ByteArray.size_append, sz1]; omega)
    rw [app_rp] at h
    refine Ev.step (fun k => ?_) h
    simp only [pomaderef07_Next.l3]
    rw [if_pos (by omega), if_pos (by omega)]
theorem ref_l2 (s : ByteArray) (hs : s.size ≤ 1000) (e m : Nat) : ∀ (q : Nat) (a : ByteArray), q + m = s.size / 2 → a.size + m + e = s.size → Ev (fun k => pomaderef07_Next.l2 k s (q : Int) a) ((a ++ rp 40 m) ++ rp 41 e, 0) := by
  induction m with
  | zero =>
    intro q a hq ha
    have h := ref_l3 s hs e (a ++ rp 40 0) (by rw [app_rp0]; omega)
    refine Ev.step (fun k => ?_) h
    simp only [pomaderef07_Next.l2]
    rw [pw64 (by omega) (by omega), if_neg (by omega), app_rp0]
  | succ m ih =>
    intro q a hq ha
    have h := ih (q + 1) (a ++ (⟨#[40]⟩ : ByteArray)) (by omega) (by rw [ByteArray.size_append, sz1]; omega)
    rw [app_rp] at h
    refine Ev.step (fun k => ?_) h
    simp only [pomaderef07_Next.l2]
    rw [pw64 (x := (s.size : Int) / 2) (by omega) (by omega), if_pos (by omega), if_pos (by omega), pw64 (by omega) (by omega)]
    rfl
theorem ref_l1 (s : ByteArray) (hs : s.size ≤ 1000) (o : List Int) (hA : Arch s o) (t : Nat) (ht : t < s.size) (r : ByteArray × Int)
    (h : if bt s (t : Int) = 40 ∧ dp s t > 0 then r = (nx s t, 0) else Ev (fun k => pomaderef07_Next.l0 k s (wrap64 ((t : Int) - 1))) r) (d : Nat) : ∀ i : Nat, i + d = t → Ev (fun k => pomaderef07_Next.l1 k s (t : Int) (dp s i) (opn s i : Int) (i : Int)) r := by
  induction d with
  | zero =>
    intro i hi
    obtain rfl : i = t := by omega
    have hle := opn_le s s.size
    have hm := opn_mono s (Nat.le_of_lt ht)
    have hl2 := opn_lip s (Nat.le_of_lt ht)
    have hb := hA.bal
    have hd := hA.dep i (by omega)
    by_cases c : bt s (i : Int) = 40 ∧ dp s i > 0
    · rw [if_pos c] at h
      have c2 : 2 * (opn s i : Int) - (i : Int) > 0 := c.2
      have h2 := ref_l2 s hs (opn s i + opn s s.size - 1 - i) (opn s s.size - opn s i) (opn s i) ((s.extract 0 i) ++ (⟨#[41]⟩ : ByteArray)) (by omega) (by rw [ByteArray.size_append, ext_size s i (by omega), sz1]; omega)
      rw [h]
      refine Ev.step (fun k => ?_) (Ev.step (f := fun k => pomaderef07_Next.l2 k s (opn s i : Int) ((s.extract 0 i) ++ (⟨#[41]⟩ : ByteArray))) (g := fun k => pomaderef07_Next.j2 k s (i : Int) (opn s i : Int) false) (fun k => ?_) h2)
      · simp only [pomaderef07_Next.l1]
        rw [if_neg (by omega), if_pos (by omega), if_pos (by omega), if_neg (by omega), beq_eq_false_iff_ne.2 (by omega)]
      · simp only [pomaderef07_Next.j2]
        rw [if_neg (by simp), if_pos (by omega), if_pos (by omega), Int.toNat_natCast, if_pos (by rw [ext_size s i (by omega)]; omega)]
    · rw [if_neg c] at h
      refine Ev.step (fun k => ?_) (Ev.step (f := fun k => pomaderef07_Next.l0 k s (wrap64 ((i : Int) - 1))) (g := fun k => pomaderef07_Next.j2 k s (i : Int) (opn s i : Int) true) (fun k => ?_) h)
      · simp only [pomaderef07_Next.l1]
        rw [if_neg (by omega), if_pos (by omega), if_pos (by omega)]
        by_cases c3 : bt s (i : Int) = 41
        · rw [if_pos c3]
        · rw [if_neg c3]
          have h40 : bt s (i : Int) = 40 := (hA.br i ht).resolve_right c3
          have e0 : dp s i = 0 := by
            have : ¬ dp s i > 0 := fun h => c ⟨h40, h⟩
            simp only [dp] at this ⊢
            omega
          rw [e0]; rfl
      · simp only [pomaderef07_Next.j2]
        rw [if_pos trivial]
  | succ d ih =>
    intro i hi
    have hle := opn_le s i
    have hd := hA.dep i (by omega)
    have ed : dp s i = 2 * (opn s i : Int) - (i : Int) := rfl
    refine Ev.step (fun k => ?_) (ih (i + 1) (by omega))
    simp only [pomaderef07_Next.l1]
    have e3 : wrap64 ((i : Int) + 1) = ((i + 1 : Nat) : Int) := by rw [pw64 (by omega) (by omega)]; rfl
    rw [if_pos (by omega), if_pos (by omega), if_pos (by omega), e3]
    by_cases c : bt s (i : Int) = 40
    · have e1 : wrap64 ((opn s i : Int) + 1) = (opn s (i + 1) : Int) := by rw [pw64 (by omega) (by omega)]; simp [opn, c]
      have e2 : wrap64 (dp s i + 1) = dp s (i + 1) := by rw [ed, pw64 (by omega) (by omega)]; simp [dp, opn, c]; omega
      rw [if_pos c, e1, e2]
    · have e1 : opn s (i + 1) = opn s i := by simp [opn, c]
      have e2 : wrap64 (dp s i - 1) = dp s (i + 1) := by rw [ed, pw64 (by omega) (by omega)]; simp [dp, opn, c]; omega
      rw [if_neg c, e1, e2]
theorem ref_l0 (s : ByteArray) (hs : s.size ≤ 1000) (o : List Int) (hA : Arch s o) (t : Nat) : t < s.size → Ev (fun k => pomaderef07_Next.l0 k s (t : Int)) (if la s (t + 1) < 0 then ((⟨#[]⟩ : ByteArray), 10) else (nx s (la s (t + 1)).toNat, 0)) := by
  induction t with
  | zero =>
    intro _
    have e : la s (0 + 1) = -1 := by simp [la, dp, opn]
    rw [e, if_pos (by omega)]
    refine Ev.step (f := fun _ => some ((⟨#[]⟩ : ByteArray), 10)) (fun k => ?_) (Ev.now _)
    simp only [pomaderef07_Next.l0]
    rw [if_neg (by omega)]
  | succ t ih =>
    intro ht
    have h := ref_l1 s hs o hA (t + 1) ht (if la s (t + 1 + 1) < 0 then ((⟨#[]⟩ : ByteArray), 10) else (nx s (la s (t + 1 + 1)).toNat, 0)) (by
      by_cases c : bt s ((t + 1 : Nat) : Int) = 40 ∧ dp s (t + 1) > 0
      · rw [if_pos c]
        have e : la s (t + 1 + 1) = ((t + 1 : Nat) : Int) := by
          rw [la, if_pos c]
        rw [e, if_neg (by omega)]; rfl
      · rw [if_neg c]
        have e : la s (t + 1 + 1) = la s (t + 1) := by
          rw [la, if_neg c]
        rw [e]
        have e2 : wrap64 (((t + 1 : Nat) : Int) - 1) = (t : Int) := by rw [pw64 (by omega) (by omega)]; omega
        rw [e2]
        exact ih (by omega)) (t + 1) 0 (by omega)
    refine Ev.step (fun k => ?_) h
    simp only [pomaderef07_Next.l0]
    rw [if_pos (by omega)]
    rfl
theorem nx_ne (s : ByteArray) (p : Nat) : (nx s p).toList ≠ [] := by
  rw [Go.ByteArray.toList_eq]
  simp [nx, ByteArray.data_append]
theorem sys_ev (s : ByteArray) (b : Bool) (o : List Int) (h : Ev (fun k => pomaderef07_partners.f k s) (o, b)) : Ev (fun k => pomaderef07_System.f k s) (if s.size > 24 then 3 else if b = true then 0 else 5) := by
  by_cases c : s.size > 24
  · rw [if_pos c]
    exact Ev.congr (fun k => by unfold pomaderef07_System.f; rw [if_pos (by omega)]) (Ev.now _)
  · rw [if_neg c]
    refine Ev.congr (fun k => by unfold pomaderef07_System.f; rw [if_neg (by omega)]) (Ev.bind h ?_)
    by_cases d : b = true
    · simp only [d, if_true]; exact Ev.now _
    · simp only [d]; exact Ev.now _
/-- Next, by the program and by the specification -/
theorem next_both (s : ByteArray) (hs : s.size ≤ 1000) : ∃ r, Ev (fun k => plait_Next.f k s) r ∧ Ev (fun k => pomaderef07_Next.f k s) r := by
  rcases partners_both s hs with ⟨o, hA, h1, h2⟩ | ⟨o, h1, h2⟩
  · have h3 := sys_ev s true o h2
    by_cases c : s.size > 24
    · rw [if_pos c] at h1 h3
      refine ⟨((⟨#[]⟩ : ByteArray), 3), Ev.congr (fun k => rfl) (Ev.bind h1 ?_), Ev.congr (fun k => rfl) (Ev.bind h3 ?_)⟩
      · exact Ev.congr (fun k => by rw [if_neg (by decide)]) (Ev.now _)
      · exact Ev.congr (fun k => by rw [if_neg (by decide)]) (Ev.now _)
    · rw [if_neg c] at h1 h3
      rw [if_pos rfl] at h3
      have h4 := plait_next_both s hs o hA
      have hp := hA.pos
      have h5 := ref_l0 s hs o hA (s.size - 1) (by omega)
      rw [show s.size - 1 + 1 = s.size by omega] at h5
      have e : wrap64 ((s.size : Int) - 1) = ((s.size - 1 : Nat) : Int) := by rw [pw64 (by omega) (by omega)]; omega
      refine ⟨_, Ev.congr (fun k => rfl) (Ev.bind h1 ?_), Ev.congr (fun k => rfl) (Ev.bind h3 (Ev.congr (fun k => by rw [if_pos rfl, e]) h5))⟩
      refine Ev.congr (fun k => by rw [if_pos rfl]) (Ev.bind h4 ?_)
      by_cases c2 : la s s.size < 0
      · simp only [if_pos c2]
        exact Ev.congr (fun k => by rw [if_pos (by rw [Go.ByteArray.toList_eq])]) (Ev.now _)
      · simp only [if_neg c2]
        exact Ev.congr (fun k => by rw [if_neg (nx_ne s _)]) (Ev.now _)
  · have h3 := sys_ev s false o h2
    have e1 : (if s.size > 24 then (([] : List Int), (3 : Int)) else ([], 5)) = ([], if s.size > 24 then 3 else 5) := by split <;> rfl
    have e2 : (if s.size > 24 then (3 : Int) else if false = true then 0 else 5) = if s.size > 24 then 3 else 5 := by simp
    rw [e1] at h1
    rw [e2] at h3
    have hn : (if s.size > 24 then (3 : Int) else 5) ≠ 0 := by split <;> decide
    exact ⟨((⟨#[]⟩ : ByteArray), if s.size > 24 then 3 else 5), Ev.congr (fun k => rfl) (Ev.bind h1 (Ev.congr (fun k => by rw [if_neg hn]) (Ev.now _))), Ev.congr (fun k => rfl) (Ev.bind h3 (Ev.congr (fun k => by rw [if_neg hn]) (Ev.now _)))⟩
end Go.Proofs.Ytjfkompfkgjdaaa.L
