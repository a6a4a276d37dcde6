-- a shortened text: what this claim does not name is left out (wip/xprint/prune.py of this repo)
namespace Go.Proofs.Ytlbhjkbjokiioaa.MDS
def minusOf (a b c : Int) : Bool := (decide (a < 0) != decide (b < 0)) != decide (c < 0)
def upOf (m : Bool) (q r d how : Int) : Bool :=
  if r = 0 then false else if how = 1 then m else if how = 2 then !m else if how = 4 then (if d < 2 * r then true else if 2 * r = d then decide (q % 2 = 1) else false) else false
def signOf (m : Bool) (q : Int) : Int × Int := if 9223372036854775808 < q ∨ (q = 9223372036854775808 ∧ m = false) then (0, 9) else (if m = true then -q else q, 0)
def mulDivS (a b c how : Int) : Int × Int :=
  if c = 0 ∨ how < 1 ∨ 4 < how then (0, 1)
  else
    let n : Int := (a.natAbs : Int) * b.natAbs
    let d : Int := c.natAbs
    signOf (minusOf a b c) (n / d + if upOf (minusOf a b c) (n / d) (n % d) d how = true then 1 else 0)
end Go.Proofs.Ytlbhjkbjokiioaa.MDS
