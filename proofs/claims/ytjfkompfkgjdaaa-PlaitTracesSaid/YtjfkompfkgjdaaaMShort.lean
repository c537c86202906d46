/- The diagram that a hook on top of it leads to another one, as the program finds it: plain. -/
import Derived.Test.YtjfkompfkgjdaaaPCg2
import Derived.Test.YtjfkompfkgjdaaaPCg4
import Derived.Test.YtjfkompfkgjdaaaPCg4
import Derived.Test.YtjfkompfkgjdaaaPCf66
import Derived.Test.YtjfkompfkgjdaaaPCg4
namespace Go.Proofs.Ytjfkompfkgjdaaa.PC
open Go.RowKit Go.Proofs.YtjfkompfkgjdaaaW.PrintWords Go.Proofs.YtjfkompfkgjdaaaW.PrintLast Go.Proofs.YtjfkompfkgjdaaaW.PrintMore
/-- an arch opened: its ends take the places of the ends of another strand -/
def plait_open (d : List Int) (p q e0 e1 : Int) : List Int := (((d.set e0.toNat p).set p.toNat e0).set e1.toNat q).set q.toNat e1
/-- is it the one? -/
def plait_try (k : Nat) (d : List Int) (n : Nat) (i want : Int) (o : List Int) : Option (Option (List Int)) :=
  (plait_diagram_arches.f k o).bind fun a => if a.2 = true then ((plait_diagram_height.f k o).bind fun h => if h = want then ((plait_hook.f k (n : Int) i).bind fun hk => (plait_diagram_product.f hk o).bind fun b => if b.2 = 0 then ((plait_diagram_int_69.f k b.1 d).bind fun eq => if eq = true then some (some o) else some none) else some none) else some none) else some none
def plait_ends (k : Nat) (d : List Int) (n : Nat) (i want p q : Int) : Nat → Option (Option (List Int))
  | 0 => (plait_try k d n i want (plait_open d p q i (i + 1))).bind fun r => if r.isSome = true then some r else ((plait_try k d n i want (plait_open d p q (i + 1) i)).bind fun s => some s)
  | 1 => (plait_try k d n i want (plait_open d p q (i + 1) i)).bind fun s => some s
  | _ => some none
def plait_search (k : Nat) (d : List Int) (n : Nat) (i want : Int) : Nat → Nat → Option (List Int)
  | 0, _ => some []
  | m + 1, p =>
    if (p : Int) = i ∨ (p : Int) = i + 1 ∨ rd d (p : Int) = i ∨ rd d (p : Int) = i + 1 then plait_search k d n i want m (p + 1)
    else if 0 ≤ rd d (p : Int) ∧ rd d (p : Int) < (d.length : Int) then ((plait_ends k d n i want (p : Int) (rd d (p : Int)) 0).bind fun r => if r.isSome = true then some (r.getD []) else plait_search k d n i want m (p + 1))
    else none
def plait_short (k : Nat) (l0 : List Int) (a1 : Int) : Option (List Int) :=
  if l0.length = 2 * (l0.length / 2) ∧ l0.length ≤ 1000 ∧ 0 ≤ a1 ∧ a1 + 1 < ((l0.length / 2 : Nat) : Int) then
    (if rd l0 a1 = a1 + 1 then ((plait_diagram_height.f k l0).bind fun ht => plait_search k l0 (l0.length / 2) a1 (wrap64 (ht - 1)) (2 * (l0.length / 2)) 0) else some [])
  else none
/-- the first hook that leads on -/
def plait_pick (k : Nat) (d : List Int) : Nat → Nat → Option (Option (Nat × List Int))
  | 0, _ => some none
  | c + 1, i => (plait_short k d (i : Int)).bind fun o => if o = [] then plait_pick k d c (i + 1) else some (some (i, o))
def plait_wordGo (k : Nat) : Nat → List Int → List Int → Option (List Int)
  | 0, _, _ => none
  | m + 1, d, out =>
    if d.length = 2 * (d.length / 2) ∧ d.length ≤ 1000 ∧ 0 < d.length then
      (plait_diagram_height.f k d).bind fun h => if h > 0 then ((plait_pick k d (d.length / 2 - 1) 0).bind fun r => if r.isSome = true then plait_wordGo k m (r.getD (0, [])).2 (out ++ [(((r.getD (0, [])).1 : Nat) : Int)]) else none) else some out
    else none
theorem plait_try_mono (k : Nat) (d : List Int) (n : Nat) (i want : Int) (o : List Int) : LeO (plait_try k d n i want o) (plait_try (k + 1) d n i want o) := by
  unfold plait_try
  exact LeO.bind (plait_diagram_arches.mono _ k) fun _ => LeO.ite (LeO.bind (plait_diagram_height.mono _ k) fun _ => LeO.ite (LeO.bind (plait_hook.mono _ _ k) fun _ => LeO.bind (LeO.refl _) fun _ => LeO.ite (LeO.bind (plait_diagram_int_69.mono _ _ k) fun _ => LeO.refl _) (LeO.refl _)) (LeO.refl _)) (LeO.refl _)
theorem plait_ends_mono (k : Nat) (d : List Int) (n : Nat) (i want p q : Int) : ∀ j, LeO (plait_ends k d n i want p q j) (plait_ends (k + 1) d n i want p q j)
  | 0 => by
    simp only [plait_ends]
    exact LeO.bind (plait_try_mono _ _ _ _ _ _) fun _ => LeO.ite (LeO.refl _) (LeO.bind (plait_try_mono _ _ _ _ _ _) fun _ => LeO.refl _)
  | 1 => by
    simp only [plait_ends]
    exact LeO.bind (plait_try_mono _ _ _ _ _ _) fun _ => LeO.refl _
  | _ + 2 => by simp only [plait_ends]; exact LeO.refl _
theorem plait_search_mono (k : Nat) (d : List Int) (n : Nat) (i want : Int) : ∀ m p, LeO (plait_search k d n i want m p) (plait_search (k + 1) d n i want m p)
  | 0, _ => by simp only [plait_search]; exact LeO.refl _
  | m + 1, p => by
    simp only [plait_search]
    exact LeO.ite (plait_search_mono k d n i want m _) (LeO.ite (LeO.bind (plait_ends_mono _ _ _ _ _ _ _ _) fun _ => LeO.ite (LeO.refl _) (plait_search_mono k d n i want m _)) (LeO.refl _))
theorem plait_short_mono (k : Nat) (l0 : List Int) (a1 : Int) : LeO (plait_short k l0 a1) (plait_short (k + 1) l0 a1) := by
  unfold plait_short
  exact LeO.ite (LeO.ite (LeO.bind (plait_diagram_height.mono _ k) fun _ => plait_search_mono _ _ _ _ _ _ _) (LeO.refl _)) (LeO.refl _)
theorem plait_pick_mono (k : Nat) (d : List Int) : ∀ c i, LeO (plait_pick k d c i) (plait_pick (k + 1) d c i)
  | 0, _ => by simp only [plait_pick]; exact LeO.refl _
  | c + 1, i => by
    simp only [plait_pick]
    exact LeO.bind (plait_short_mono _ _ _) fun _ => LeO.ite (plait_pick_mono k d c _) (LeO.refl _)
theorem plait_wordGo_mono (k : Nat) : ∀ m d out, LeO (plait_wordGo k m d out) (plait_wordGo (k + 1) m d out)
  | 0, _, _ => by simp only [plait_wordGo]; exact LeO.refl _
  | m + 1, d, out => by
    simp only [plait_wordGo]
    exact LeO.ite (LeO.bind (plait_diagram_height.mono _ k) fun _ => LeO.ite (LeO.bind (plait_pick_mono _ _ _ _) fun _ => LeO.ite (plait_wordGo_mono k m _ _) (LeO.refl _)) (LeO.refl _)) (LeO.refl _)
end Go.Proofs.Ytjfkompfkgjdaaa.PC
