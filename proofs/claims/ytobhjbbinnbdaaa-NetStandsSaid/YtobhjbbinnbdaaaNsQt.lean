/-
  Types of values, and how they lie in cells. Conditions: none.
-/
import Derived.Test.YtobhjbbinnbdaaaNsDm
namespace Go.Dc
open Go Go.Mx Go.Lx Go.Proofs
set_option linter.unusedSimpArgs false
set_option linter.unusedVariables false
set_option maxRecDepth 100000
set_option maxHeartbeats 4000000
structure S_haruspexref05_Piece where
  card : Int
  parents : Int
  w : (List Int)
  deriving Inhabited, DecidableEq
def eS_haruspexref05_Piece : En S_haruspexref05_Piece := eM (fun x => (x.card, x.parents, x.w)) (eP (eI .u8) (eP (eI .u8) (eL (eI .u8))))
theorem eS_haruspexref05_Piece_c (t : Bool) (x : S_haruspexref05_Piece) : eS_haruspexref05_Piece.c t x = [(dU8 x.card), (dU8 x.parents), (fzE t (eI .u8) x.w)] := rfl
structure S_haruspexref05_Draft where
  grain : Int
  nodes : (List S_haruspexref05_Piece)
  order : (List Int)
  deriving Inhabited, DecidableEq
def eS_haruspexref05_Draft : En S_haruspexref05_Draft := eM (fun x => (x.grain, x.nodes, x.order)) (eP (eI .u8) (eP (eL eS_haruspexref05_Piece) (eL (eI .u8))))
structure S_api_Node where
  card : Int
  parents : (List Int)
  rows : (List (List Int))
  deriving Inhabited, DecidableEq
def eS_api_Node : En S_api_Node := eM (fun x => (x.card, x.parents, x.rows)) (eP (eI .i64) (eP (eL (eI .i64)) (eL (eL (eI .i64)))))
theorem eS_api_Node_c (t : Bool) (x : S_api_Node) : eS_api_Node.c t x = [(dI x.card), (fzE t (eI .i64) x.parents), (fzE t (eL (eI .i64)) x.rows)] := rfl
structure S_api_Net where
  grain : Int
  nodes : (List S_api_Node)
  deriving Inhabited, DecidableEq
def eS_api_Net : En S_api_Net := eM (fun x => (x.grain, x.nodes)) (eP (eI .i64) (eL eS_api_Node))
theorem eS_api_Net_c (t : Bool) (x : S_api_Net) : eS_api_Net.c t x = [(dI x.grain), (fzE t eS_api_Node x.nodes)] := rfl
def eZS_api_Node : En S_api_Node := eM (fun x => (x.card, x.parents, x.rows)) (eP (eI .i64) (eP (eN (eI .i64)) (eN (eL (eI .i64)))))
theorem eZS_api_Node_c (t : Bool) (x : S_api_Node) : eZS_api_Node.c t x = [(dI x.card), (nE t (eI .i64) x.parents), (nE t (eL (eI .i64)) x.rows)] := rfl
theorem eZS_api_Node_to {L : List LB} {t u : Bool} (h : u = true → t = true) (x : S_api_Node) : Snps L u (eZS_api_Node.c t x) (eS_api_Node.c u x) := (.cons (.lit _) (.cons (snp_nEf _ _ h) (.cons (snp_nEf _ _ h) .nil)))
theorem eZS_api_Node_pw {L : List LB} {t u : Bool} (h : u = true → t = true) (xs : List S_api_Node) : Pw (Snp L u) (xs.map (eZS_api_Node.c t)) (xs.map (eS_api_Node.c u)) := Pw.map (fun x => ⟨(eZS_api_Node_to (L := L) h x).len, (eZS_api_Node_to (L := L) h x).get⟩) xs
structure S_haruspexref02_Draft where
  c : (List Int)
  which : Int
  order : (List Int)
  deriving Inhabited, DecidableEq
structure S_net_network where
  net : S_api_Net
  cards : (List Int)
  sets : (List Int)
  order : (List Int)
  deriving Inhabited, DecidableEq
structure A8_Intu8 where
  a0 : Int
  a1 : Int
  a2 : Int
  a3 : Int
  a4 : Int
  a5 : Int
  a6 : Int
  a7 : Int
  deriving Inhabited, DecidableEq
structure S_haruspexref05_Known where
  which : Int
  v : A8_Intu8
  deriving Inhabited, DecidableEq
structure S_api_Factor where
  vars : (List Int)
  cards : (List Int)
  w : (List Int)
  deriving Inhabited, DecidableEq
end Go.Dc
