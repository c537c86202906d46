/- shorter: the walk. -/
import Derived.Test.YtjfkompfkgjdaaaMShort
import Derived.Test.YtjfkompfkgjdaaaHProd
import Derived.Test.YtjfkompfkgjdaaaPCg4
import Derived.Laws.IdiomRangeMap
namespace Go.Proofs.Ytjfkompfkgjdaaa.PC
open Go.RowKit Go.Proofs.YtjfkompfkgjdaaaW.PrintWords Go.Proofs.YtjfkompfkgjdaaaW.PrintLast Go.Proofs.YtjfkompfkgjdaaaW.PrintMore
/-- what is handed back: nothing, or a list of the call's own -/
def Handed1 (w0 w' : World) (v : Value) (r : List Int) : Prop := (r = [] ∧ v = .slice none 0 0) ∨ (r ≠ [] ∧ Kd.R (Kd.int .i64) 3 w' w0.heap.size (fun _ => True) v r)
/-- the list that is tried, and the two ends -/
structure OS (w0 : World) (E G cap len T : Nat) (e0 e1 : Int) (o : List Int) (W : World) : Prop where
  below : Below w0.heap.size w0 W
  row : Kd.R (Kd.int .i64) 3 W w0.heap.size (fun k => k ≠ E) (.slice (some ⟨G, 0, none⟩) len cap) o
  arr : W.heap[E]? = some (.cells #[.int .i64 e0, .int .i64 e1] T (0, 0))
  hG : w0.heap.size ≤ G
theorem OS.ne {w0 : World} {E G cap len T : Nat} {e0 e1 : Int} {o : List Int} {W : World} (h : OS w0 E G cap len T e0 e1 o W) : G ≠ E := h.row.1 G (by simp [Value.ownBlock])
theorem OS.put {w0 : World} {E G cap len T : Nat} {e0 e1 : Int} {o : List Int} {W : World} (h : OS w0 E G cap len T e0 e1 o W) (i x : Int) : OS w0 E G cap len T e0 e1 (o.set i.toNat x) (W.setCell ⟨G, i.toNat, none⟩ (.int .i64 x)) :=
  ⟨h.below.setCell (p := ⟨G, i.toNat, none⟩) h.hG _, (Kd.R_putg h.row i x).1, (Below.heap_setCell W _ _ E (Ne.symm h.ne)).trans h.arr, h.hG⟩
theorem OS.cell {w0 : World} {E G cap len T : Nat} {e0 e1 : Int} {o : List Int} {W : World} (h : OS w0 E G cap len T e0 e1 o W) (i : Int) (h0 : 0 ≤ i) (h1 : i < (len : Int)) : W.cell? ⟨G, i.toNat, none⟩ = some (.int .i64 (rdOf 0 o i)) ∧ W.frozen? ⟨G, i.toNat, none⟩ = false := Kd.R_celln 0 h.row i h0 h1
theorem OS.end0 {w0 : World} {E G cap len T : Nat} {e0 e1 : Int} {o : List Int} {W : World} (h : OS w0 E G cap len T e0 e1 o W) : W.cell? ⟨E, 0, none⟩ = some (.int .i64 e0) := by simp [World.cell?, h.arr]
theorem OS.end1 {w0 : World} {E G cap len T : Nat} {e0 e1 : Int} {o : List Int} {W : World} (h : OS w0 E G cap len T e0 e1 o W) : W.cell? ⟨E, 1, none⟩ = some (.int .i64 e1) := by simp [World.cell?, h.arr]
theorem OS.drew {w0 : World} {E G cap len T : Nat} {e0 e1 : Int} {o : List Int} {W : World} (h : OS w0 E G cap len T e0 e1 o W) : OS w0 E G cap len T e0 e1 o W.drew := ⟨h.below.drew, Kd.R_drew h.row, h.arr, h.hG⟩
theorem OS.later {w0 : World} {E G cap len T : Nat} {e0 e1 : Int} {o : List Int} {W W' : World} (h : OS w0 E G cap len T e0 e1 o W) (hb : Below W.heap.size W W') : OS w0 E G cap len T e0 e1 o W' :=
  ⟨h.below.trans (hb.mono h.below.size), Kd.R_below h.row hb, (hb.block E (Array.getElem?_eq_some_iff.1 h.arr).1).trans h.arr, h.hG⟩
theorem OS.len {w0 : World} {E G cap len T : Nat} {e0 e1 : Int} {o : List Int} {W : World} (h : OS w0 E G cap len T e0 e1 o W) : o.length = len := (Kd.R_reads' h.row).1.symm
theorem OS.read {w0 : World} {E G cap len T : Nat} {e0 e1 : Int} {o : List Int} {W : World} (h : OS w0 E G cap len T e0 e1 o W) : Kd.C (Kd.int .i64) W (some ⟨G, 0, none⟩) len o := by have := (Kd.R_reads' h.row).2.2; rwa [h.len] at this
theorem OS.start {w0 wp w2 : World} {len T : Nat} {e0 e1 : Int} {o : List Int} {v : Value} (h0 : Below w0.heap.size w0 wp) (hR : Kd.R (Kd.int .i64) 3 w2 (wp.alloc (.cells #[.int .i64 e0, .int .i64 e1] T)).heap.size (fun _ => True) v o) (hb : Below (wp.alloc (.cells #[.int .i64 e0, .int .i64 e1] T)).heap.size (wp.alloc (.cells #[.int .i64 e0, .int .i64 e1] T)) w2) (hl : o.length = len) (hp : 0 < len) :
    ∃ G cap, v = .slice (some ⟨G, 0, none⟩) len cap ∧ len ≤ cap ∧ OS w0 wp.heap.size G cap len T e0 e1 o w2 := by
  have hs : (wp.alloc (.cells #[.int .i64 e0, .int .i64 e1] T)).heap.size = wp.heap.size + 1 := by simp
  obtain ⟨G, cap, rfl, hg, _, _⟩ := Kd.R_form hR (by omega)
  have hc := (Kd.R_reads' hR).2.1
  have h3 := h0.size
  rw [hl] at hR hc ⊢
  refine ⟨G, cap, rfl, hc, (h0.trans ((Below.refl _ wp).alloc h3 _)).trans (hb.mono (by omega)), ?_, (hb.block _ (by omega)).trans (heap_alloc_new _ _), by omega⟩
  exact Kd.R_lower (Kd.R_mono (Kd.R_bound hR) (fun k hk => by have := hk.2.1; omega)) (by omega)
theorem ends_first (a b c d : Int) (w : World) : (Instr.index 113 (.agg #[.int .i64 a, .int .i64 b, .int .i64 c, .int .i64 d]) (.int .i64 0)).run Try.prog w = .ok (.agg #[.int .i64 a, .int .i64 b]) w := by kernel_rfl
theorem ends_second (a b c d : Int) (w : World) : (Instr.index 113 (.agg #[.int .i64 a, .int .i64 b, .int .i64 c, .int .i64 d]) (.int .i64 1)).run Try.prog w = .ok (.agg #[.int .i64 c, .int .i64 d]) w := by kernel_rfl
set_option maxHeartbeats 4000000 in
set_option maxRecDepth 100000 in
theorem shorter_walk (k : Nat) (a0 : Addr) (c0 : Nat) (l0 : List Int) (n len : Nat) (i : Int) (w : World) (hr0 : Kd.C (Kd.int .i64) w (some a0) len l0) (hc0 : len ≤ c0) (hl0 : l0.length = len) (hlen : len = 2 * n) (hn : n ≤ 500) (hi0 : 0 ≤ i) (hi : i + 1 < (n : Int))
    (h1 : rd l0 i = i + 1) (ht : Int) (h2 : plait_diagram_height.f k l0 = some ht) (r : List Int) (h3 : plait_search k l0 n i (wrap64 (ht - 1)) (2 * n) 0 = some r) :
    Calls Try.prog 79 #[.slice (some a0) len c0, .int .i64 i] w fun e w' => ∃ v, e = .returned v ∧ Handed1 w w' v r ∧ Below w.heap.size w w' := by
  have HR0 := Lib.hid hr0
  have HC0 := Lib.hid hc0
  have HL0 := Lib.hid hl0
  have HLN := Lib.hid hlen
  have H2 := Lib.hid h2
  have hcl := plait_diagram_height.calls k (some a0) c0 l0 ht
  rw [hl0] at hcl
  have HCL := Lib.hid hcl
  obtain ⟨ad, e0, hx0⟩ := Kd.at_int hr0 i hi0 (by omega)
  rw [h1] at hx0
  have e0' := Option.some.inj e0
  subst e0'
  have hsz := size_same (some a0) c0 len n
  have HSZ := Lib.hid hsz
  have q1 : i < (len : Int) := by omega
  obtain ⟨want, hwant⟩ : ∃ x, wrap64 (ht - 1) = x := ⟨_, rfl⟩
  rw [hwant] at h3
  have H3 := Lib.hid h3
  clear hr0 hc0 hl0 hlen h1 h2 h3 hsz e0 hcl
  go_enter Try.func79, Try.ntmps79
  go_wp2_with (first | (go_at_call 72; refine (HSZ.out _ HLN.out (by omega)).mono ?_; rintro e w' ⟨rfl, rfl⟩) | (go_at_call 78; refine (HCL.out _ HR0.out HC0.out H2.out).mono ?_; rintro e w' ⟨rfl, ⟨nd, rfl⟩⟩))
  have HB := Lib.hid (pw_below_drewN (Below.refl w.heap.size w) nd)
  obtain ⟨w1, hw1⟩ : ∃ w1, w.drewN nd = w1 := ⟨_, rfl⟩
  rw [hw1] at HB ⊢
  rw [hwant]
  clear hwant hw1 hx0
  go_loopw [30] (fun t w' => ∃ p : Nat, p ≤ 2 * n ∧ t = .int .i64 (p : Int) ∧ Hid (plait_search k l0 n i want (2 * n - p) p = some r) ∧ Hid (Below w.heap.size w w')) (fun t _ => 2 * n - (intOf t).toNat)
  case atStart => exact ⟨0, Nat.zero_le _, rfl, H3, HB⟩
  case round =>
    obtain ⟨p, hp, rfl, HA, HB1⟩ := hrel
    clear H3 HB
    obtain ⟨wo, rfl⟩ : ∃ wo : World, wo = wr := ⟨_, rfl⟩
    by_cases hlt : p < 2 * n
    · have d1 : decide ((p : Int) < 2 * (n : Int)) = true := decide_eq_true (by omega)
      have p1 : (p : Int) < (len : Int) := by have := HLN.out; omega
      obtain ⟨ad, e0, hx0⟩ := Kd.at_int (Kd.C_below HR0.out HB1.out) (p : Int) (by omega) p1
      have e0' := Option.some.inj e0
      subst e0'
      rw [Int.toNat_natCast] at hx0
      have h := HA.out
      rw [show 2 * n - p = (2 * n - (p + 1)) + 1 by omega] at h
      simp only [plait_search] at h
      obtain ⟨q, hq⟩ : ∃ q, rd l0 (p : Int) = q := ⟨_, rfl⟩
      rw [hq] at h hx0
      have HQ := Lib.hid hq
      clear hq e0 HA
      by_cases t1 : (p : Int) = i
      · rw [if_pos (Or.inl t1)] at h
        have HN := Lib.hid h
        have b1 : ((p : Int) == i) = true := beq_iff_eq.2 t1
        clear h t1
        go_wp2
        go_roundw
        case rel => exact ⟨p + 1, by omega, by go_num, HN, HB1⟩
        case measure => simp [intOf] <;> omega
      have b1 : ((p : Int) == i) = false := beq_eq_false_iff_ne.2 t1
      by_cases t2 : (p : Int) = i + 1
      · rw [if_pos (Or.inr (Or.inl t2))] at h
        have HN := Lib.hid h
        have b2 : ((p : Int) == i + 1) = true := beq_iff_eq.2 t2
        clear h t1 t2
        go_wp2
        go_roundw
        case rel => exact ⟨p + 1, by omega, by go_num, HN, HB1⟩
        case measure => simp [intOf] <;> omega
      have b2 : ((p : Int) == i + 1) = false := beq_eq_false_iff_ne.2 t2
      by_cases t3 : q = i
      · rw [if_pos (Or.inr (Or.inr (Or.inl t3)))] at h
        have HN := Lib.hid h
        have b3 : (q == i) = true := beq_iff_eq.2 t3
        clear h t1 t2 t3
        go_wp2
        go_roundw
        case rel => exact ⟨p + 1, by omega, by go_num, HN, HB1⟩
        case measure => simp [intOf] <;> omega
      have b3 : (q == i) = false := beq_eq_false_iff_ne.2 t3
      by_cases t4 : q = i + 1
      · rw [if_pos (Or.inr (Or.inr (Or.inr t4)))] at h
        have HN := Lib.hid h
        have b4 : (q == i + 1) = true := beq_iff_eq.2 t4
        clear h t1 t2 t3 t4
        go_wp2
        go_roundw
        case rel => exact ⟨p + 1, by omega, by go_num, HN, HB1⟩
        case measure => simp [intOf] <;> omega
      have b4 : (q == i + 1) = false := beq_eq_false_iff_ne.2 t4
      rw [if_neg (by omega)] at h
      by_cases t5 : 0 ≤ q ∧ q < (l0.length : Int)
      · rw [if_pos t5] at h
        obtain ⟨R, he, h⟩ := Option.bind_eq_some_iff.1 h
        have HN := Lib.hid h
        have HE := Lib.hid he
        have HT : Hid (((p : Int) ≠ i ∧ (p : Int) ≠ i + 1 ∧ q ≠ i ∧ q ≠ i + 1) ∧ 0 ≤ q ∧ q < (len : Int)) := ⟨⟨t1, t2, t3, t4⟩, t5.1, by have := HL0.out; omega⟩
        clear h he t1 t2 t3 t4 t5
        have hcl2 := plait_diagram_int_89.calls (some a0) c0 l0 l0
        rw [HL0.out] at hcl2
        have hc89 : plait_diagram_int_89.f l0 = some l0 := by
          unfold plait_diagram_int_89.f
          rw [Option.bind_some, if_pos (by have := HL0.out; have := HLN.out; simp; omega), List.nil_append]
        have HCL2 := Lib.hid hcl2
        have HC89 := Lib.hid hc89
        clear hcl2 hc89
        go_wp2
        go_loopw [66] (fun t w' => ∃ j : Nat, j ≤ 2 ∧ t = .int .i64 (j : Int) ∧ Hid (plait_ends k l0 n i want (p : Int) q j = some R) ∧ Hid (Below w.heap.size w w')) (fun t _ => 2 - (intOf t).toNat)
        case atStart => exact ⟨0, by omega, rfl, HE, HB1⟩
        case round =>
          obtain ⟨j, hj, rfl, HE2, HB2⟩ := hrel
          obtain ⟨wp, rfl⟩ : ∃ wp : World, wp = wr := ⟨_, rfl⟩
          clear HE hx0
          rcases (show j = 0 ∨ j = 1 ∨ j = 2 by omega) with rfl | rfl | rfl
          · have ix := ends_first i (i + 1) (i + 1) i
            have he := HE2.out
            simp only [plait_ends] at he
            obtain ⟨r1, ht1, hr1⟩ := Option.bind_eq_some_iff.1 he
            have HT1 := Lib.hid ht1
            have HR1 := Lib.hid hr1
            clear he ht1 hr1 HE2
            go_wp2_with (first | (go_at_call 89; refine (HCL2.out _ (Kd.C_below HR0.out (HB2.out.alloc HB2.out.size _)) HC0.out rfl HC89.out).mono ?_; rintro e w2 ⟨v2, rfl, hR2, hb2⟩; obtain ⟨G, cap, rfl, hcap, hOS⟩ := OS.start HB2.out hR2 hb2 HL0.out (by have := HLN.out; omega); have HOS := Lib.hid hOS; have HCP := Lib.hid hcap; clear hR2 hb2 hOS hcap))
            have i10 : 0 ≤ i + 1 := by omega
            have i11 : i + 1 < (len : Int) := by have := HLN.out; omega
            obtain ⟨hc1, hf1⟩ := HOS.out.cell i hi0 q1
            obtain ⟨hc2, hf2⟩ := (HOS.out.put i (p : Int)).cell (p : Int) (by omega) p1
            have he0 := HOS.out.end0
            have he1 := (HOS.out.put i (p : Int)).end0
            have he2 := ((HOS.out.put i (p : Int)).put (p : Int) i).end0
            rw [Int.toNat_natCast] at hc2 hf2 he2
            go_region_held3 (fun W => W.cell? ⟨wp.heap.size, 0, none⟩ = some (.int .i64 i))
              (first | exact he0 | exact he1 | exact he2)
              (fail)
            have hOS1 := ((HOS.out.put i (p : Int)).put (p : Int) i).drew
            rw [Int.toNat_natCast] at hOS1
            have HOS1 := Lib.hid hOS1
            clear hc1 hf1 hc2 hf2 he0 he1 he2 hOS1 HOS
            obtain ⟨w3, hw3⟩ : ∃ w3, ((w2.setCell ⟨G, i.toNat, none⟩ (.int .i64 (p : Int))).setCell ⟨G, p, none⟩ (.int .i64 i)).drew = w3 := ⟨_, rfl⟩
            go_wp2
            rw [hw3] at HOS1 ⊢
            clear hw3
            have qq := HT.out.2
            obtain ⟨qq0, qq1⟩ := qq
            obtain ⟨hc1, hf1⟩ := HOS1.out.cell (i + 1) i10 i11
            obtain ⟨hc2, hf2⟩ := (HOS1.out.put (i + 1) q).cell q qq0 qq1
            have he0 := HOS1.out.end1
            have he1 := (HOS1.out.put (i + 1) q).end1
            have he2 := ((HOS1.out.put (i + 1) q).put q (i + 1)).end1
            go_region_held3 (fun W => W.cell? ⟨wp.heap.size, 1, none⟩ = some (.int .i64 (i + 1)))
              (first | exact he0 | exact he1 | exact he2)
              (fail)
            have hOS2 := ((HOS1.out.put (i + 1) q).put q (i + 1)).drew
            have ho : (((l0.set i.toNat (p : Int)).set p i).set (i + 1).toNat q).set q.toNat (i + 1) = plait_open l0 (p : Int) q i (i + 1) := by
              unfold plait_open; rw [Int.toNat_natCast]
            rw [ho] at hOS2
            have HOS2 := Lib.hid hOS2
            clear hc1 hf1 hc2 hf2 he0 he1 he2 hOS2 HOS1 ho
            obtain ⟨w4, hw4⟩ : ∃ w4, ((w3.setCell ⟨G, (i + 1).toNat, none⟩ (.int .i64 q)).setCell ⟨G, q.toNat, none⟩ (.int .i64 (i + 1))).drew = w4 := ⟨_, rfl⟩
            rw [hw4] at HOS2
            obtain ⟨o, ho⟩ : ∃ o, plait_open l0 (p : Int) q i (i + 1) = o := ⟨_, rfl⟩
            rw [ho] at HOS2 HT1
            clear ho
            have hol := HOS2.out.len
            have HOL := Lib.hid hol
            go_wp2_with fail
            clear hw4
            have h := HT1.out
            unfold plait_try at h
            obtain ⟨⟨s, ok⟩, ha, h⟩ := Option.bind_eq_some_iff.1 h
            have hcl := plait_diagram_arches.calls k (some ⟨G, 0, none⟩) cap o s ok
            rw [hol] at hcl
            refine (hcl _ HOS2.out.read HCP.out ha).mono ?_
            rintro e w5 ⟨rfl, hb5⟩
            have HOS3 := Lib.hid (HOS2.out.later hb5)
            clear hcl ha hb5 HOS2 HT1 hol
            cases ok with
            | false =>
              simp only [Bool.false_eq_true, if_false] at h
              have h := Option.some.inj h
              subst h
              have HNX : Hid (plait_ends k l0 n i want (p : Int) q 1 = some R) := Lib.hid (by have h_ := HR1.out; rw [if_neg (by simp)] at h_; exact h_)
              clear HR1
              go_wp2
              go_roundw
              case rel => exact ⟨1, by omega, by go_num, HNX, Lib.hid HOS3.out.below⟩
              case measure => simp [intOf] <;> omega
            | true =>
              simp only [if_true] at h
              obtain ⟨hh, hhe, h⟩ := Option.bind_eq_some_iff.1 h
              go_wp2_with fail
              have hcl := plait_diagram_height.calls k (some ⟨G, 0, none⟩) cap o hh
              rw [HOL.out] at hcl
              refine (hcl _ HOS3.out.read HCP.out hhe).mono ?_
              rintro e w6 ⟨rfl, ⟨nd6, hw6⟩⟩
              have hb6 : Below w5.heap.size w5 w6 := by rw [hw6]; exact pw_below_drewN (Below.refl _ _) _
              have HOS4 := Lib.hid (HOS3.out.later hb6)
              clear hb6
              clear hcl hhe HOS3 hw6
              by_cases hw : hh = want
              · rw [if_pos hw] at h
                have bw : (hh != want) = false := bne_eq_false_iff_eq.2 hw
                obtain ⟨hk, hke, h⟩ := Option.bind_eq_some_iff.1 h
                obtain ⟨⟨b1_, b2_⟩, hpe, h⟩ := Option.bind_eq_some_iff.1 h
                have H := Lib.hid h
                clear h hw
                go_wp2_with fail
                clear bw
                refine (plait_hook.calls k (n : Int) i hk _ hke).mono ?_
                rintro e w7 ⟨vk, rfl, hRk, hb7⟩
                have HOS5 := Lib.hid (HOS4.out.later hb7)
                obtain ⟨Ak, ck, rfl⟩ := Kd.R_slice hRk
                obtain ⟨_, hck, hCk⟩ := Kd.R_reads' hRk
                have HCK := Lib.hid hCk
                have HCKC := Lib.hid hck
                clear hke hRk hb7 HOS4 hCk hck
                go_wp2_with fail
                have hcl := plait_diagram_product.calls Ak ck hk (some ⟨G, 0, none⟩) cap o b1_ b2_
                rw [HOL.out] at hcl
                refine (hcl _ HCK.out HCKC.out HOS5.out.read HCP.out hpe).mono ?_
                rintro e w8 ⟨vb, rfl, hRb, hb8⟩
                have HOS6 := Lib.hid (HOS5.out.later hb8)
                obtain ⟨Ab, cb, rfl⟩ := Kd.R_slice hRb
                obtain ⟨_, hcb, hCb⟩ := Kd.R_reads' hRb
                have HCB := Lib.hid hCb
                have HCBC := Lib.hid hcb
                clear hcl hpe hRb hb8 HOS5 hCb hcb HCK HCKC
                by_cases hz : b2_ = 0
                · have h := H.out
                  rw [if_pos hz] at h
                  have bz : (b2_ == 0) = true := beq_iff_eq.2 hz
                  obtain ⟨eq, hee, h⟩ := Option.bind_eq_some_iff.1 h
                  have H' := Lib.hid h
                  clear h hz H
                  go_wp2_with fail
                  clear bz
                  have hcl := plait_diagram_int_69.calls k Ab cb b1_ (some a0) c0 l0 eq
                  rw [HL0.out] at hcl
                  refine (hcl _ HCB.out HCBC.out (Kd.C_below HR0.out HOS6.out.below) HC0.out hee).mono ?_
                  rintro e w9 ⟨rfl, ⟨nd9, hw9⟩⟩
                  have hb9 : Below w8.heap.size w8 w9 := by rw [hw9]; exact pw_below_drewN (Below.refl _ _) _
                  have HOS7 := Lib.hid (HOS6.out.later hb9)
                  clear hb9
                  clear hcl hee HOS6 hw9 HCB HCBC
                  cases eq with
                  | false =>
                    have h := H'.out
                    simp only [Bool.false_eq_true, if_false] at h
                    have h := Option.some.inj h
                    subst h
                    have HNX : Hid (plait_ends k l0 n i want (p : Int) q 1 = some R) := Lib.hid (by have h_ := HR1.out; rw [if_neg (by simp)] at h_; exact h_)
                    clear HR1
                    go_wp2
                    go_roundw
                    case rel => exact ⟨1, by omega, by go_num, HNX, Lib.hid HOS7.out.below⟩
                    case measure => simp [intOf] <;> omega
                  | true =>
                    have h := H'.out
                    simp only [if_true] at h
                    have h := Option.some.inj h
                    subst h
                    have hR := HR1.out
                    rw [if_pos (show (some o).isSome = true from rfl)] at hR
                    have hR := Option.some.inj hR
                    subst hR
                    have hr := HN.out
                    rw [if_pos (show (some o).isSome = true from rfl)] at hr
                    have hr := Option.some.inj hr
                    simp only [Option.getD_some] at hr
                    subst hr
                    clear hR HR1 HN H'
                    go_wp2
                    go_ret
                    exact ⟨_, rfl, .inr ⟨fun e_ => by have h1_ := HOL.out; rw [e_] at h1_; have h2_ := HLN.out; simp at h1_; omega, Kd.R_mono HOS7.out.row (fun _ _ => trivial)⟩, HOS7.out.below⟩
                · have h := H.out
                  rw [if_neg hz] at h
                  have bz : (b2_ == 0) = false := beq_eq_false_iff_ne.2 hz
                  have h := Option.some.inj h
                  subst h
                  clear hz H
                  have HNX : Hid (plait_ends k l0 n i want (p : Int) q 1 = some R) := Lib.hid (by have h_ := HR1.out; rw [if_neg (by simp)] at h_; exact h_)
                  clear HR1
                  go_wp2
                  go_roundw
                  case rel => exact ⟨1, by omega, by go_num, HNX, Lib.hid HOS6.out.below⟩
                  case measure => simp [intOf] <;> omega
              · rw [if_neg hw] at h
                have bw : (hh != want) = true := bne_iff_ne.2 hw
                have h := Option.some.inj h
                subst h
                clear hw
                have HNX : Hid (plait_ends k l0 n i want (p : Int) q 1 = some R) := Lib.hid (by have h_ := HR1.out; rw [if_neg (by simp)] at h_; exact h_)
                clear HR1
                go_wp2
                go_roundw
                case rel => exact ⟨1, by omega, by go_num, HNX, Lib.hid HOS4.out.below⟩
                case measure => simp [intOf] <;> omega
          · have ix := ends_second i (i + 1) (i + 1) i
            have he := HE2.out
            simp only [plait_ends] at he
            obtain ⟨r1, ht1, hr1⟩ := Option.bind_eq_some_iff.1 he
            have HT1 := Lib.hid ht1
            have HR1 := Lib.hid hr1
            clear he ht1 hr1 HE2
            go_wp2_with (first | (go_at_call 89; refine (HCL2.out _ (Kd.C_below HR0.out (HB2.out.alloc HB2.out.size _)) HC0.out rfl HC89.out).mono ?_; rintro e w2 ⟨v2, rfl, hR2, hb2⟩; obtain ⟨G, cap, rfl, hcap, hOS⟩ := OS.start HB2.out hR2 hb2 HL0.out (by have := HLN.out; omega); have HOS := Lib.hid hOS; have HCP := Lib.hid hcap; clear hR2 hb2 hOS hcap))
            have i10 : 0 ≤ i + 1 := by omega
            have i11 : i + 1 < (len : Int) := by have := HLN.out; omega
            obtain ⟨hc1, hf1⟩ := HOS.out.cell (i + 1) i10 i11
            obtain ⟨hc2, hf2⟩ := (HOS.out.put (i + 1) (p : Int)).cell (p : Int) (by omega) p1
            have he0 := HOS.out.end0
            have he1 := (HOS.out.put (i + 1) (p : Int)).end0
            have he2 := ((HOS.out.put (i + 1) (p : Int)).put (p : Int) (i + 1)).end0
            rw [Int.toNat_natCast] at hc2 hf2 he2
            go_region_held3 (fun W => W.cell? ⟨wp.heap.size, 0, none⟩ = some (.int .i64 (i + 1)))
              (first | exact he0 | exact he1 | exact he2)
              (fail)
            have hOS1 := ((HOS.out.put (i + 1) (p : Int)).put (p : Int) (i + 1)).drew
            rw [Int.toNat_natCast] at hOS1
            have HOS1 := Lib.hid hOS1
            clear hc1 hf1 hc2 hf2 he0 he1 he2 hOS1 HOS
            obtain ⟨w3, hw3⟩ : ∃ w3, ((w2.setCell ⟨G, (i + 1).toNat, none⟩ (.int .i64 (p : Int))).setCell ⟨G, p, none⟩ (.int .i64 (i + 1))).drew = w3 := ⟨_, rfl⟩
            go_wp2
            rw [hw3] at HOS1 ⊢
            clear hw3
            have qq := HT.out.2
            obtain ⟨qq0, qq1⟩ := qq
            obtain ⟨hc1, hf1⟩ := HOS1.out.cell i hi0 q1
            obtain ⟨hc2, hf2⟩ := (HOS1.out.put i q).cell q qq0 qq1
            have he0 := HOS1.out.end1
            have he1 := (HOS1.out.put i q).end1
            have he2 := ((HOS1.out.put i q).put q i).end1
            go_region_held3 (fun W => W.cell? ⟨wp.heap.size, 1, none⟩ = some (.int .i64 i))
              (first | exact he0 | exact he1 | exact he2)
              (fail)
            have hOS2 := ((HOS1.out.put i q).put q i).drew
            have ho : (((l0.set (i + 1).toNat (p : Int)).set p (i + 1)).set i.toNat q).set q.toNat i = plait_open l0 (p : Int) q (i + 1) i := by
              unfold plait_open; rw [Int.toNat_natCast]
            rw [ho] at hOS2
            have HOS2 := Lib.hid hOS2
            clear hc1 hf1 hc2 hf2 he0 he1 he2 hOS2 HOS1 ho
            obtain ⟨w4, hw4⟩ : ∃ w4, ((w3.setCell ⟨G, i.toNat, none⟩ (.int .i64 q)).setCell ⟨G, q.toNat, none⟩ (.int .i64 i)).drew = w4 := ⟨_, rfl⟩
            rw [hw4] at HOS2
            obtain ⟨o, ho⟩ : ∃ o, plait_open l0 (p : Int) q (i + 1) i = o := ⟨_, rfl⟩
            rw [ho] at HOS2 HT1
            clear ho
            have hol := HOS2.out.len
            have HOL := Lib.hid hol
            go_wp2_with fail
            clear hw4
            have h := HT1.out
            unfold plait_try at h
            obtain ⟨⟨s, ok⟩, ha, h⟩ := Option.bind_eq_some_iff.1 h
            have hcl := plait_diagram_arches.calls k (some ⟨G, 0, none⟩) cap o s ok
            rw [hol] at hcl
            refine (hcl _ HOS2.out.read HCP.out ha).mono ?_
            rintro e w5 ⟨rfl, hb5⟩
            have HOS3 := Lib.hid (HOS2.out.later hb5)
            clear hcl ha hb5 HOS2 HT1 hol
            cases ok with
            | false =>
              simp only [Bool.false_eq_true, if_false] at h
              have h := Option.some.inj h
              subst h
              have HNX : Hid (plait_ends k l0 n i want (p : Int) q 2 = some R) := Lib.hid (by have h_ := HR1.out; exact h_)
              clear HR1
              go_wp2
              go_roundw
              case rel => exact ⟨2, by omega, by go_num, HNX, Lib.hid HOS3.out.below⟩
              case measure => simp [intOf] <;> omega
            | true =>
              simp only [if_true] at h
              obtain ⟨hh, hhe, h⟩ := Option.bind_eq_some_iff.1 h
              go_wp2_with fail
              have hcl := plait_diagram_height.calls k (some ⟨G, 0, none⟩) cap o hh
              rw [HOL.out] at hcl
              refine (hcl _ HOS3.out.read HCP.out hhe).mono ?_
              rintro e w6 ⟨rfl, ⟨nd6, hw6⟩⟩
              have hb6 : Below w5.heap.size w5 w6 := by rw [hw6]; exact pw_below_drewN (Below.refl _ _) _
              have HOS4 := Lib.hid (HOS3.out.later hb6)
              clear hb6
              clear hcl hhe HOS3 hw6
              by_cases hw : hh = want
              · rw [if_pos hw] at h
                have bw : (hh != want) = false := bne_eq_false_iff_eq.2 hw
                obtain ⟨hk, hke, h⟩ := Option.bind_eq_some_iff.1 h
                obtain ⟨⟨b1_, b2_⟩, hpe, h⟩ := Option.bind_eq_some_iff.1 h
                have H := Lib.hid h
                clear h hw
                go_wp2_with fail
                clear bw
                refine (plait_hook.calls k (n : Int) i hk _ hke).mono ?_
                rintro e w7 ⟨vk, rfl, hRk, hb7⟩
                have HOS5 := Lib.hid (HOS4.out.later hb7)
                obtain ⟨Ak, ck, rfl⟩ := Kd.R_slice hRk
                obtain ⟨_, hck, hCk⟩ := Kd.R_reads' hRk
                have HCK := Lib.hid hCk
                have HCKC := Lib.hid hck
                clear hke hRk hb7 HOS4 hCk hck
                go_wp2_with fail
                have hcl := plait_diagram_product.calls Ak ck hk (some ⟨G, 0, none⟩) cap o b1_ b2_
                rw [HOL.out] at hcl
                refine (hcl _ HCK.out HCKC.out HOS5.out.read HCP.out hpe).mono ?_
                rintro e w8 ⟨vb, rfl, hRb, hb8⟩
                have HOS6 := Lib.hid (HOS5.out.later hb8)
                obtain ⟨Ab, cb, rfl⟩ := Kd.R_slice hRb
                obtain ⟨_, hcb, hCb⟩ := Kd.R_reads' hRb
                have HCB := Lib.hid hCb
                have HCBC := Lib.hid hcb
                clear hcl hpe hRb hb8 HOS5 hCb hcb HCK HCKC
                by_cases hz : b2_ = 0
                · have h := H.out
                  rw [if_pos hz] at h
                  have bz : (b2_ == 0) = true := beq_iff_eq.2 hz
                  obtain ⟨eq, hee, h⟩ := Option.bind_eq_some_iff.1 h
                  have H' := Lib.hid h
                  clear h hz H
                  go_wp2_with fail
                  clear bz
                  have hcl := plait_diagram_int_69.calls k Ab cb b1_ (some a0) c0 l0 eq
                  rw [HL0.out] at hcl
                  refine (hcl _ HCB.out HCBC.out (Kd.C_below HR0.out HOS6.out.below) HC0.out hee).mono ?_
                  rintro e w9 ⟨rfl, ⟨nd9, hw9⟩⟩
                  have hb9 : Below w8.heap.size w8 w9 := by rw [hw9]; exact pw_below_drewN (Below.refl _ _) _
                  have HOS7 := Lib.hid (HOS6.out.later hb9)
                  clear hb9
                  clear hcl hee HOS6 hw9 HCB HCBC
                  cases eq with
                  | false =>
                    have h := H'.out
                    simp only [Bool.false_eq_true, if_false] at h
                    have h := Option.some.inj h
                    subst h
                    have HNX : Hid (plait_ends k l0 n i want (p : Int) q 2 = some R) := Lib.hid (by have h_ := HR1.out; exact h_)
                    clear HR1
                    go_wp2
                    go_roundw
                    case rel => exact ⟨2, by omega, by go_num, HNX, Lib.hid HOS7.out.below⟩
                    case measure => simp [intOf] <;> omega
                  | true =>
                    have h := H'.out
                    simp only [if_true] at h
                    have h := Option.some.inj h
                    subst h
                    have hR := HR1.out
                    have hR := Option.some.inj hR
                    subst hR
                    have hr := HN.out
                    rw [if_pos (show (some o).isSome = true from rfl)] at hr
                    have hr := Option.some.inj hr
                    simp only [Option.getD_some] at hr
                    subst hr
                    clear hR HR1 HN H'
                    go_wp2
                    go_ret
                    exact ⟨_, rfl, .inr ⟨fun e_ => by have h1_ := HOL.out; rw [e_] at h1_; have h2_ := HLN.out; simp at h1_; omega, Kd.R_mono HOS7.out.row (fun _ _ => trivial)⟩, HOS7.out.below⟩
                · have h := H.out
                  rw [if_neg hz] at h
                  have bz : (b2_ == 0) = false := beq_eq_false_iff_ne.2 hz
                  have h := Option.some.inj h
                  subst h
                  clear hz H
                  have HNX : Hid (plait_ends k l0 n i want (p : Int) q 2 = some R) := Lib.hid (by have h_ := HR1.out; exact h_)
                  clear HR1
                  go_wp2
                  go_roundw
                  case rel => exact ⟨2, by omega, by go_num, HNX, Lib.hid HOS6.out.below⟩
                  case measure => simp [intOf] <;> omega
              · rw [if_neg hw] at h
                have bw : (hh != want) = true := bne_iff_ne.2 hw
                have h := Option.some.inj h
                subst h
                clear hw
                have HNX : Hid (plait_ends k l0 n i want (p : Int) q 2 = some R) := Lib.hid (by have h_ := HR1.out; exact h_)
                clear HR1
                go_wp2
                go_roundw
                case rel => exact ⟨2, by omega, by go_num, HNX, Lib.hid HOS4.out.below⟩
                case measure => simp [intOf] <;> omega
          · have he := HE2.out
            simp only [plait_ends] at he
            have he := Option.some.inj he
            subst he
            have hr := HN.out
            rw [if_neg (by simp)] at hr
            have HN2 := Lib.hid hr
            clear hr HE2 HN
            go_wp2
            go_roundw
            case rel => exact ⟨p + 1, by omega, by go_num, HN2, HB2⟩
            case measure => simp [intOf] <;> omega
      · rw [if_neg t5] at h
        cases h
    · obtain rfl : p = 2 * n := by omega
      have d1 : decide (((2 * n : Nat) : Int) < 2 * (n : Int)) = false := decide_eq_false (by omega)
      have h := HA.out
      rw [Nat.sub_self] at h
      simp only [plait_search] at h
      have h := Option.some.inj h
      subst h
      clear HA
      go_wp2
      go_ret
      exact ⟨_, rfl, .inl ⟨rfl, rfl⟩, HB1.out⟩
set_option maxHeartbeats 1000000 in
theorem shorter_nil (a0 : Addr) (c0 : Nat) (l0 : List Int) (n len : Nat) (i : Int) (w : World) (hr0 : Kd.C (Kd.int .i64) w (some a0) len l0) (hlen : len = 2 * n) (hn : n ≤ 500) (hi0 : 0 ≤ i) (hi : i + 1 < (n : Int)) (h1 : rd l0 i ≠ i + 1) :
    Calls Try.prog 79 #[.slice (some a0) len c0, .int .i64 i] w fun e w' => e = .returned (.slice none 0 0) ∧ w = w' := by
  have HLN := Lib.hid hlen
  obtain ⟨ad, e0, hx0⟩ := Kd.at_int hr0 i hi0 (by omega)
  have e0' := Option.some.inj e0
  subst e0'
  have hsz := size_same (some a0) c0 len n
  have HSZ := Lib.hid hsz
  have q1 : i < (len : Int) := by omega
  obtain ⟨x, hx⟩ : ∃ x, rd l0 i = x := ⟨_, rfl⟩
  rw [hx] at hx0 h1
  have b1 : (x != i + 1) = true := bne_iff_ne.2 h1
  clear hr0 hlen h1 hsz e0 hx
  go_enter Try.func79, Try.ntmps79
  go_wp2_with (first | (go_at_call 72; refine (HSZ.out _ HLN.out (by omega)).mono ?_; rintro e w' ⟨rfl, rfl⟩))
  go_ret
  exact ⟨rfl, rfl⟩
/-- shorter, whole -/
theorem shorter_any (k : Nat) (A0 : Option Addr) (c0 : Nat) (l0 : List Int) (i : Int) (r : List Int) (w : World) (hr0 : Kd.C (Kd.int .i64) w A0 l0.length l0) (hc0 : l0.length ≤ c0) (h : plait_short k l0 i = some r) :
    Calls Try.prog 79 #[.slice A0 l0.length c0, .int .i64 i] w fun e w' => ∃ v, e = .returned v ∧ Handed1 w w' v r ∧ Below w.heap.size w w' := by
  unfold plait_short at h
  by_cases c : l0.length = 2 * (l0.length / 2) ∧ l0.length ≤ 1000 ∧ 0 ≤ i ∧ i + 1 < ((l0.length / 2 : Nat) : Int)
  · rw [if_pos c] at h
    obtain ⟨g1, g2, g3, g4⟩ := c
    obtain ⟨a0, rfl, _⟩ := hr0.2.2 (by omega)
    by_cases c2 : rd l0 i = i + 1
    · rw [if_pos c2] at h
      obtain ⟨ht, h1, h2⟩ := Option.bind_eq_some_iff.1 h
      exact shorter_walk k a0 c0 l0 (l0.length / 2) l0.length i w hr0 hc0 rfl g1 (by omega) g3 g4 c2 ht h1 r h2
    · rw [if_neg c2] at h
      have h := Option.some.inj h
      subst h
      refine (shorter_nil a0 c0 l0 (l0.length / 2) l0.length i w hr0 g1 (by omega) g3 g4 c2).mono ?_
      rintro e w' ⟨rfl, rfl⟩
      exact ⟨_, rfl, .inl ⟨rfl, rfl⟩, Below.refl _ _⟩
  · rw [if_neg c] at h
    cases h
end Go.Proofs.Ytjfkompfkgjdaaa.PC
