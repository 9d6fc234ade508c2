/-
  Types of values, and how they lie in cells. Conditions: none.
-/
import Derived.Test.YtobhjbbinnbdaaaNnDm
namespace Go.Dc
open Go Go.Mx Go.Lx Go.Proofs
set_option maxRecDepth 100000
set_option maxHeartbeats 4000000
structure S_haruspexref05_Piece where
  card : Int
  parents : Int
  w : (List Int)
  deriving Inhabited, DecidableEq
def zag : En S_haruspexref05_Piece := eM (fun x => (x.card, x.parents, x.w)) (eP (eI .u8) (eP (eI .u8) (eL (eI .u8))))
theorem zbX (t : Bool) (x : S_haruspexref05_Piece) : zag.c t x = [(dU8 x.card), (dU8 x.parents), (fzE t (eI .u8) x.w)] := rfl
structure S_haruspexref05_Draft where
  grain : Int
  nodes : (List S_haruspexref05_Piece)
  order : (List Int)
  deriving Inhabited, DecidableEq
def zcf : En S_haruspexref05_Draft := eM (fun x => (x.grain, x.nodes, x.order)) (eP (eI .u8) (eP (eL zag) (eL (eI .u8))))
structure S_api_Node where
  card : Int
  parents : (List Int)
  rows : (List (List Int))
  deriving Inhabited, DecidableEq
def zab : En S_api_Node := eM (fun x => (x.card, x.parents, x.rows)) (eP (eI .i64) (eP (eL (eI .i64)) (eL (eL (eI .i64)))))
theorem zaB (t : Bool) (x : S_api_Node) : zab.c t x = [(dI x.card), (fzE t (eI .i64) x.parents), (fzE t (eL (eI .i64)) x.rows)] := rfl
structure S_api_Net where
  grain : Int
  nodes : (List S_api_Node)
  deriving Inhabited, DecidableEq
def zad : En S_api_Node := eM (fun x => (x.card, x.parents, x.rows)) (eP (eI .i64) (eP (eN (eI .i64)) (eN (eL (eI .i64)))))
theorem zdi (t : Bool) (x : S_api_Node) : zad.c t x = [(dI x.card), (nE t (eI .i64) x.parents), (nE t (eL (eI .i64)) x.rows)] := rfl
theorem zcb {L : List LB} {t u : Bool} (h : u = true → t = true) (x : S_api_Node) : Snps L u (zad.c t x) (zab.c u x) := (.cons (.lit _) (.cons (zkw _ _ h) (.cons (zkw _ _ h) .nil)))
theorem zgL {L : List LB} {t u : Bool} (h : u = true → t = true) (xs : List S_api_Node) : Pw (Snp L u) (xs.map (zad.c t)) (xs.map (zab.c u)) := Pw.map (fun x => ⟨(zcb (L := L) h x).len, (zcb (L := L) h x).get⟩) xs
structure S_haruspexref02_Draft where
  c : (List Int)
  which : Int
  order : (List Int)
  deriving Inhabited, DecidableEq
structure S_net_network where
  net : S_api_Net
  cards : (List Int)
  sets : (List Int)
  order : (List Int)
  deriving Inhabited, DecidableEq
structure A8_Intu8 where
  a0 : Int
  a1 : Int
  a2 : Int
  a3 : Int
  a4 : Int
  a5 : Int
  a6 : Int
  a7 : Int
  deriving Inhabited, DecidableEq
structure S_haruspexref05_Known where
  which : Int
  v : A8_Intu8
  deriving Inhabited, DecidableEq
structure S_api_Factor where
  vars : (List Int)
  cards : (List Int)
  w : (List Int)
  deriving Inhabited, DecidableEq
structure S_haruspexref05_Bend where
  what : Int
  at_ : Int
  row : Int
  n : Int
  deriving Inhabited, DecidableEq
structure A3_S_api_Net where
  a0 : S_api_Net
  a1 : S_api_Net
  a2 : S_api_Net
  deriving Inhabited, DecidableEq
end Go.Dc
