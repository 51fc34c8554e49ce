/- second: a clock in plain words: keys from the hand on, each with whether it was asked for, and ghosts. -/
namespace Go.Proofs.Ythhkgknolclakaa

structure Clk where
  L : List (Int × Bool)
  G : List Int
  most : Nat
  few : Nat

def Clk.ks (x : Clk) : List Int := x.L.map (·.1)
def ckHas (x : Clk) (k : Int) : Bool := x.ks.contains k
def ckGhost (x : Clk) (k : Int) : Bool := x.G.contains k
/-- a key was asked for -/
def askOf : List (Int × Bool) → Int → Bool
  | [], _ => false
  | p :: r, k => if p.1 = k then p.2 else askOf r k
/-- one key's mark -/
def setAsk (L : List (Int × Bool)) (k : Int) (a : Bool) : List (Int × Bool) := L.map fun p => if p.1 = k then (k, a) else p

structure Clk.Ok (x : Clk) : Prop where
  nl : x.ks.Nodup
  ng : x.G.Nodup
  sep : ∀ k, k ∈ x.ks → ¬ k ∈ x.G
  most : x.L.length ≤ x.most
  few : x.G.length ≤ x.few

def dropK (L : List (Int × Bool)) (k : Int) : List (Int × Bool) := L.filter fun p => p.1 != k

def ckAdd (x : Clk) (k : Int) : Clk :=
  if ckHas x k then x else if x.L.length = x.most then x else { x with L := x.L ++ [(k, ckGhost x k)], G := x.G.erase k }
def ckAddE (x : Clk) (k : Int) : Int := if ckHas x k then 15 else if x.L.length = x.most then 17 else 0
def ckTouch (x : Clk) (k : Int) : Clk := if ckHas x k then { x with L := setAsk x.L k true } else x
def ckDrop (x : Clk) (k : Int) : Clk := if ckHas x k then { x with L := dropK x.L k } else x
def lastN (n : Nat) (l : List Int) : List Int := l.drop (l.length - n)

/-- the hand goes on, so many times at most -/
def evictN (may : Int → Bool) : Nat → Clk → Clk × Int × Int
  | 0, x => (x, 0, 14)
  | n + 1, x =>
    match x.L with
    | [] => (x, 0, 14)
    | (k, a) :: r =>
      if may k = false then evictN may n { x with L := r ++ [(k, a)] }
      else if a = true then evictN may n { x with L := r ++ [(k, false)] }
      else ({ x with L := r, G := lastN x.few (x.G ++ [k]) }, k, 0)
def ckEvict (x : Clk) (may : Int → Bool) : Clk × Int × Int := evictN may (2 * x.L.length) x
end Go.Proofs.Ythhkgknolclakaa
