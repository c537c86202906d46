/- The tree of wishes and the wishes of a tree, as the program makes them: plain. -/
namespace Go.Proofs.Ytfopeenjpdaacaa.PC
/-- one chair's customers: they come to the end of the queue, their parent is the node -/
def chairs_Tree.row (k node : Int) : List Int → Nat → List Int → List Int → List Int × List Int
  | [], _, out, q => (out, q)
  | w :: ws, c, out, q => if w = k then chairs_Tree.row k node ws (c + 1) (out.set c node) (q ++ [(c : Int) + 1]) else chairs_Tree.row k node ws (c + 1) out q
def chairs_Tree.go (l0 : List Int) : Nat → Int → List Int → List Int → Option (List Int)
  | 0, _, _, _ => none
  | _ + 1, _, out, [] => some out
  | n + 1, k, out, node :: q => chairs_Tree.go l0 n (k + 1) (chairs_Tree.row k node l0 0 out q).1 (chairs_Tree.row k node l0 0 out q).2
/-- one node's children: they come to the end of the queue, they wish the chair -/
def chairs_Wishes.go (l0 : List Int) : Nat → Int → List Int → List Int → Option (List Int)
  | 0, _, _, _ => none
  | _ + 1, _, out, [] => some out
  | n + 1, k, out, node :: q => chairs_Wishes.go l0 n (k + 1) (chairs_Tree.row node k l0 0 out q).1 (chairs_Tree.row node k l0 0 out q).2
end Go.Proofs.Ytfopeenjpdaacaa.PC
