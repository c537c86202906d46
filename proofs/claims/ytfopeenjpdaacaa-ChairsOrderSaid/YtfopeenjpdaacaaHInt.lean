/- Numbers of the program's big package below 2^32: contracts of the methods over them. -/
import Derived.Test.YtfopeenjpdaacaaHBig
import Derived.Deep.RegionHeld3
import Derived.Deep.RegionWith
namespace Go.Proofs.Ytfopeenjpdaacaa.PC
open Go.RowKit Go.Proofs.YtfopeenjpdaacaaW.PrintWords Go.Proofs.YtfopeenjpdaacaaW.PrintLast Go.Proofs.YtfopeenjpdaacaaW.PrintMore
/-- a number behind a pointer -/
def Num (W : World) (p v : Nat) : Prop := ∃ s, W.heap[p]? = some (.cells #[.bool false, s] 82 (0, 0)) ∧ Dig W s v
/-- a block of a number, whatever it holds -/
def Slot (W : World) (p : Nat) : Prop := ∃ b s, W.heap[p]? = some (.cells #[b, s] 82 (0, 0))
theorem Num.slot {W : World} {p v : Nat} (h : Num W p v) : Slot W p := by obtain ⟨s, h, _⟩ := h; exact ⟨_, _, h⟩
theorem Num.lt {W : World} {p v : Nat} (h : Num W p v) : p < W.heap.size := by obtain ⟨s, h, _⟩ := h; exact (Array.getElem?_eq_some_iff.1 h).1
theorem Slot.lt {W : World} {p : Nat} (h : Slot W p) : p < W.heap.size := by obtain ⟨b, s, h⟩ := h; exact (Array.getElem?_eq_some_iff.1 h).1
theorem Dig.grown {W W' : World} {s : Value} {v p : Nat} (h : Dig W s v) (hs : Slot W p) (hg : W.grownBy W' (some p)) : Dig W' s v :=
  h.same fun g cells hc => hg.block g (Array.getElem?_eq_some_iff.1 hc).1 (by
    rintro e
    cases e
    obtain ⟨b, s', hs⟩ := hs
    rw [hc] at hs
    injection hs with hs
    injection hs with _ h2
    cases h2)
theorem Num.grown {W W' : World} {q v p : Nat} (h : Num W q v) (hs : Slot W p) (hne : q ≠ p) (hg : W.grownBy W' (some p)) : Num W' q v := by
  obtain ⟨s, h1, h2⟩ := h
  exact ⟨s, (hg.block q (Array.getElem?_eq_some_iff.1 h1).1 (by rintro e; cases e; exact hne rfl)).trans h1, h2.grown hs hg⟩
theorem Num.below {W W' : World} {q v : Nat} (h : Num W q v) (hb : Below W.heap.size W W') : Num W' q v := by
  obtain ⟨s, h1, h2⟩ := h
  exact ⟨s, (hb.block q (Array.getElem?_eq_some_iff.1 h1).1).trans h1, h2.below hb⟩
theorem Slot.below {W W' : World} {q : Nat} (h : Slot W q) (hb : Below W.heap.size W W') : Slot W' q := by
  obtain ⟨b, s, h1⟩ := h
  exact ⟨b, s, (hb.block q (Array.getElem?_eq_some_iff.1 h1).1).trans h1⟩
theorem Dig.form {W : World} {s : Value} {v : Nat} (h : Dig W s v) : ∃ A n c, s = .slice A n c := by
  rcases h with ⟨_, A, c, rfl, _⟩ | ⟨_, _, g, c, cells, rfl, _⟩
  · exact ⟨_, _, _, rfl⟩
  · exact ⟨_, _, _, rfl⟩
theorem heap_set {w : World} {p i : Nat} {cs : Array Value} {t : TypeId} {fr : Nat × Nat} (h : w.heap[p]? = some (.cells cs t fr)) (v : Value) : (w.setCell ⟨p, i, none⟩ v).heap[p]? = some (.cells (cs.setIfInBounds i v) t fr) := by
  show (w.heap.modify p _)[p]? = _
  rw [Array.getElem?_modify, if_pos rfl, h]
  rfl
theorem grown_set (w : World) (b i : Nat) (v : Value) : w.grownBy (w.setCell ⟨b, i, none⟩ v) (some b) :=
  ⟨rfl, rfl, rfl, by show w.heap.size ≤ (w.heap.modify b _).size; rw [Array.size_modify]; exact Nat.le_refl _, fun j _ hj => Below.heap_setCell w _ v j (fun e => hj (by rw [e]))⟩
set_option maxHeartbeats 400000 in
theorem set_walk (p : Nat) (A : Option Addr) (n c : Nat) (b0 s0 : Value) (w : World) (hp : w.heap[p]? = some (.cells #[b0, s0] 82 (0, 0))) :
    Calls Try.prog 79 #[.pointer (some ⟨p, 0, none⟩), .bool false, .slice A n c] w fun e w' => e = .returned (.pointer (some ⟨p, 0, none⟩)) ∧ w'.heap[p]? = some (.cells #[.bool false, .slice A n c] 82 (0, 0)) ∧ w.grownBy w' (some p) := by
  have c0 : w.cell? ⟨p, 0, none⟩ = some b0 := by simp [World.cell?, hp]
  have c1 : w.cell? ⟨p, 1, none⟩ = some s0 := by simp [World.cell?, hp]
  have f0 : w.frozen? ⟨p, 0, none⟩ = false := by simp [World.frozen?, hp]
  have f1 : w.frozen? ⟨p, 1, none⟩ = false := by simp [World.frozen?, hp]
  have HP := Lib.hid hp
  clear hp
  go_enter Try.func79, Try.ntmps79
  go_wp2
  go_ret
  exact ⟨rfl, heap_set (heap_set HP.out _) _, (grown_set _ _ _ _).trans (grown_set _ _ _ _)⟩
set_option maxHeartbeats 400000 in
theorem NewInt_walk (v : Nat) (hv : v < 4294967296) (w : World) :
    Calls Try.prog 70 #[.int .i64 (v : Int)] w fun e w' => ∃ p, e = .returned (.pointer (some ⟨p, 0, none⟩)) ∧ w.heap.size ≤ p ∧ Num w' p v ∧ Below w.heap.size w w' := by
  have d1 : decide ((v : Int) < 0) = false := decide_eq_false (by omega)
  go_enter Try.func70, Try.ntmps70
  go_wp2_with (go_at_call 78; refine (of_walk v hv _).mono ?_; rintro e w' ⟨s, rfl, hd, hb⟩; obtain ⟨A1, n1, c1, rfl⟩ := hd.form; have HD := Lib.hid hd; have HB := Lib.hid hb; clear hd hb)
  go_ret
  have hb := HB.out
  exact ⟨_, rfl, hb.size, ⟨_, heap_alloc_new _ _, HD.out.below ((Below.refl _ _).alloc (Nat.le_refl _) _)⟩, hb.alloc hb.size _⟩
/-- what the walk of a method over numbers reads, in every world on the way -/
structure Reads2 (w : World) (z a b : Nat) (sa sb : Value) (w' : World) : Prop where
  a0 : w'.cell? ⟨a, 0, none⟩ = some (.bool false)
  a1 : w'.cell? ⟨a, 1, none⟩ = some sa
  b0 : w'.cell? ⟨b, 0, none⟩ = some (.bool false)
  b1 : w'.cell? ⟨b, 1, none⟩ = some sb
theorem Reads2.of {w w' : World} {z a b : Nat} {sa sb : Value} (ha : w.heap[a]? = some (.cells #[.bool false, sa] 82 (0, 0))) (hb : w.heap[b]? = some (.cells #[.bool false, sb] 82 (0, 0))) (hza : a ≠ z) (hzb : b ≠ z) (hg : w.grownBy w' (some z)) : Reads2 w z a b sa sb w' := by
  have e1 := (hg.block a (Array.getElem?_eq_some_iff.1 ha).1 (by rintro e; cases e; exact hza rfl)).trans ha
  have e2 := (hg.block b (Array.getElem?_eq_some_iff.1 hb).1 (by rintro e; cases e; exact hzb rfl)).trans hb
  exact ⟨by simp [World.cell?, e1], by simp [World.cell?, e1], by simp [World.cell?, e2], by simp [World.cell?, e2]⟩
theorem reads_all {w w' : World} {z a b : Nat} {sa sb : Value} (h : ∀ w' : World, w.grownBy w' (some z) → Reads2 w z a b sa sb w') (hg : w.grownBy w' (some z)) :
    w'.cell? ⟨a, 0, none⟩ = some (.bool false) ∧ w'.cell? ⟨a, 1, none⟩ = some sa ∧ w'.cell? ⟨b, 0, none⟩ = some (.bool false) ∧ w'.cell? ⟨b, 1, none⟩ = some sb ∧ w.grownBy w' (some z) :=
  ⟨(h w' hg).a0, (h w' hg).a1, (h w' hg).b0, (h w' hg).b1, hg⟩
theorem grown_below {w w1 w2 : World} {row : Option Nat} (h : w.grownBy w1 row) (hb : Below w1.heap.size w1 w2) : w.grownBy w2 row := h.trans (grown_of_below hb row)
theorem Slot.later {w w2 : World} {p : Nat} (h : Slot w p) (hb : Below w.drew.heap.size w.drew w2) : Slot w2 p := Slot.below (W := w.drew) h hb
set_option maxHeartbeats 1000000 in
theorem Mul_walk (z a b x y : Nat) (w : World) (hz : Slot w z) (ha : Num w a x) (hb : Num w b y) (hza : a ≠ z) (hzb : b ≠ z) (hs : x * y < 4294967296) :
    Calls Try.prog 72 #[.pointer (some ⟨z, 0, none⟩), .pointer (some ⟨a, 0, none⟩), .pointer (some ⟨b, 0, none⟩)] w fun e w' => e = .returned (.pointer (some ⟨z, 0, none⟩)) ∧ Num w' z (x * y) ∧ w.grownBy w' (some z) := by
  obtain ⟨sa, ha, da⟩ := ha
  obtain ⟨sb, hb, db⟩ := hb
  have HR := Lib.hid (fun (w' : World) => Reads2.of (w := w) (w' := w') ha hb hza hzb)
  have HR2 := HR
  have HA := Lib.hid da
  have HB := Lib.hid db
  have HZ := Lib.hid hz
  have h0 := HR.out w (World.grownBy.refl w _)
  have a0 := h0.a0
  have a1 := h0.a1
  have b0 := h0.b0
  have b1 := h0.b1
  have hgd : w.grownBy w.drew (some z) := ⟨rfl, rfl, rfl, Nat.le_refl _, fun _ _ _ => rfl⟩
  clear ha hb da db hz h0 hza hzb
  go_enter Try.func72, Try.ntmps72
  go_wp2_with fail
  go_region_held3 (fun w' => w'.cell? ⟨a, 0, none⟩ = some (.bool false) ∧ w'.cell? ⟨a, 1, none⟩ = some sa ∧ w'.cell? ⟨b, 0, none⟩ = some (.bool false) ∧ w'.cell? ⟨b, 1, none⟩ = some sb ∧ w.grownBy w' (some z))
    (first | exact ⟨a0, a1, b0, b1, hgd⟩ | exact reads_all HR2.out hgE | exact reads_all HR2.out hgF)
    (first | (go_at_call 80; refine (times_walk (HA.out.grown HZ.out hgd) (HB.out.grown HZ.out hgd) hs).mono ?_; rintro e w' ⟨s, rfl, hd, hb⟩; obtain ⟨A1, n1, c1, rfl⟩ := hd.form; have hgE := grown_below hgd hb; have hz1 := HZ.out.later hb; have HD := Lib.hid hd; clear hd hb)
           | (go_at_call 79; obtain ⟨q0, q1, hq⟩ := hz1; refine (set_walk z A1 n1 c1 q0 q1 _ hq).mono ?_; rintro e w' ⟨rfl, hp, hgN⟩; have hgF := hgE.trans hgN))
  go_wp2
  go_ret
  exact ⟨rfl, ⟨_, hp, HD.out.grown ⟨_, _, hq⟩ hgN⟩, hgF⟩
theorem block_lt' {w : World} {p : Nat} {o : Obj} (h : w.heap[p]? = some o) : p < w.heap.size := (Array.getElem?_eq_some_iff.1 h).1
theorem cell_of {w : World} {p : Nat} {x y : Value} {t : TypeId} {fr : Nat × Nat} (h : w.heap[p]? = some (.cells #[x, y] t fr)) (_n : Nat) : w.cell? ⟨p, 0, none⟩ = some x := by simp [World.cell?, h]
set_option maxRecDepth 100000 in
set_option maxHeartbeats 1000000 in
theorem Add_walk (z b x y : Nat) (w : World) (hz : Num w z x) (hb : Num w b y) (hzb : b ≠ z) (hs : x + y < 4294967296) :
    Calls Try.prog 73 #[.pointer (some ⟨z, 0, none⟩), .pointer (some ⟨z, 0, none⟩), .pointer (some ⟨b, 0, none⟩)] w fun e w' => e = .returned (.pointer (some ⟨z, 0, none⟩)) ∧ Num w' z (x + y) ∧ w.grownBy w' (some z) := by
  obtain ⟨sa, ha, da⟩ := hz
  obtain ⟨sb, hb, db⟩ := hb
  have a0 : w.cell? ⟨z, 0, none⟩ = some (.bool false) := by simp [World.cell?, ha]
  have a1 : w.cell? ⟨z, 1, none⟩ = some sa := by simp [World.cell?, ha]
  have b0 : w.cell? ⟨b, 0, none⟩ = some (.bool false) := by simp [World.cell?, hb]
  have b1 : w.cell? ⟨b, 1, none⟩ = some sb := by simp [World.cell?, hb]
  have HA := Lib.hid da
  have HB := Lib.hid db
  have HZ := Lib.hid ha
  have HS := Lib.hid hs
  have hb2 : ∀ w' : World, w.grownBy w' (some z) → w'.cell? ⟨b, 0, none⟩ = some (.bool false) ∧ w'.cell? ⟨b, 1, none⟩ = some sb := fun w' hg => by
    have e2 := (hg.block b (Array.getElem?_eq_some_iff.1 hb).1 (by rintro e; cases e; exact hzb rfl)).trans hb
    exact ⟨by simp [World.cell?, e2], by simp [World.cell?, e2]⟩
  have HW := Lib.hid hb2
  clear ha hb da db hzb hs hb2
  go_enter Try.func73, Try.ntmps73
  go_wp2_with fail
  go_quiet (fail)
  go_wp2_with fail
  have hgd : w.grownBy (w.drewN nq).drew (some z) := ⟨rfl, rfl, rfl, Nat.le_refl _, fun _ _ _ => rfl⟩
  go_region_with (first | (go_at_call 81; refine (plus_walk (HA.out.grown ⟨_, _, HZ.out⟩ hgd) (HB.out.grown ⟨_, _, HZ.out⟩ hgd) HS.out).mono ?_; rintro e w' ⟨s, rfl, hd, hb⟩; obtain ⟨A1, n1, c1, rfl⟩ := hd.form; have hgE := grown_below hgd hb; have hz1 := (hb.block z (block_lt' HZ.out)).trans HZ.out; have hzE := cell_of hz1 0; have HD := Lib.hid hd; have HZ1 := Lib.hid hz1; have HGE := Lib.hid hgE; clear hd hb hz1 hgE) | (go_at_call 79; refine (set_walk z A1 n1 c1 _ _ _ HZ1.out).mono ?_; rintro e w' ⟨rfl, hp, hgN⟩; have HP := Lib.hid hp; have HGN := Lib.hid hgN; clear hp hgN))
  all_goals go_wp2
  all_goals go_ret
  all_goals exact ⟨rfl, ⟨_, HP.out, HD.out.grown ⟨_, _, HZ1.out⟩ HGN.out⟩, HGE.out.trans HGN.out⟩
set_option maxRecDepth 100000 in
set_option maxHeartbeats 1000000 in
theorem Int64_walk (p v : Nat) (w : World) (h : Num w p v) :
    Calls Try.prog 57 #[.pointer (some ⟨p, 0, none⟩)] w fun e w' => e = .returned (.int .i64 (v : Int)) ∧ Drawn0 w w' := by
  obtain ⟨s, hp, hd⟩ := h
  have a0 := cell_of hp 0
  have a1 : w.cell? ⟨p, 1, none⟩ = some s := by simp [World.cell?, hp]
  clear hp
  rcases hd with ⟨rfl, A, c, rfl, hc⟩ | ⟨h1, h2, g, c, cells, rfl, h4, h5, h6, h7⟩
  · go_enter Try.func57, Try.ntmps57
    go_wp2_with fail
    go_quiet ((go_at_call 74; exact Calls.quiet_of_same ((small0 A c _).mono (fun _ _ h => ⟨h.1, h.2.symm⟩))))
    go_wp2
    go_ret
    exact ⟨rfl, ⟨⟨_, rfl⟩⟩⟩
  · have hsm : ∀ nd : Nat, Calls Try.prog 74 #[.slice (some ⟨g, 0, none⟩) 1 c] (w.drewN nd) fun e w' => e = .returned (.tuple #[.int .u64 (v : Int), .bool true]) ∧ w' = w.drewN nd := fun nd => (small1 g c v (w.drewN nd) h7 h2).mono fun _ _ h => ⟨h.1, h.2.symm⟩
    have HSm := Lib.hid hsm
    clear h7 h6 hsm
    have hc1 : (1 : Int) ≤ (c : Int) := by omega
    have hc2 : (c : Int) ≤ 9223372036854775807 := by omega
    go_enter Try.func57, Try.ntmps57
    go_wp2_with fail
    go_quiet ((go_at_call 74; exact Calls.quiet_of_same (HSm.out _)))
    go_wp2
    go_ret
    exact ⟨rfl, ⟨⟨_, rfl⟩⟩⟩
end Go.Proofs.Ytfopeenjpdaacaa.PC
