/-
  Layer 9 (number), in plain Lean: what the program's number.Check, of, Same, Int come to, over lists of bytes. No Go and no memory.
-/

/-
  Layer 9 (number), in plain Lean: what the program's number.Check, of, Same, Int come to, over lists of bytes. No Go and no memory.
-/
namespace Go.Proofs.YtfploakafbnigaaGreatDoor.Num
set_option linter.unusedVariables false
set_option linter.unusedSimpArgs false
def isD (c : UInt8) : Bool := 48 ≤ c && c ≤ 57
def run (l : List UInt8) : Nat := (l.takeWhile isD).length
/-- stands one of some bytes at a place? -/
def hasAt (b : List UInt8) (i : Nat) (some : List UInt8) : Bool := match b[i]? with | .some c => some.contains c | .none => false
def skipTo (b : List UInt8) (i : Nat) (some : List UInt8) : Nat := if hasAt b i some then i + 1 else i
def digTo (b : List UInt8) (i : Nat) : Nat := i + run (b.drop i)
def digErr (b : List UInt8) (i : Nat) : Int := if 0 < run (b.drop i) then 0 else if i = b.length then 3 else 90
def expo (b : List UInt8) (i : Nat) : Nat × Int :=
  if hasAt b i [101, 69] then (digTo b (skipTo b (i + 1) [43, 45]), digErr b (skipTo b (i + 1) [43, 45])) else (i, 0)
def frac (b : List UInt8) (i : Nat) : Nat × Int :=
  if hasAt b i [46] then (if digErr b (i + 1) = 0 then expo b (digTo b (i + 1)) else (digTo b (i + 1), digErr b (i + 1))) else expo b i
def numF (b : List UInt8) (i : Nat) : Nat × Int :=
  if hasAt b (skipTo b i [45]) [48] then frac b (skipTo b i [45] + 1)
  else if digErr b (skipTo b i [45]) = 0 then frac b (digTo b (skipTo b i [45]))
  else (digTo b (skipTo b i [45]), digErr b (skipTo b i [45]))
def checkN (b : List UInt8) (i : Nat) : Nat × Int := if (numF b i).2 = 0 then ((numF b i).1, 0) else (0, (numF b i).2)
def check (b : List UInt8) (at' : Int) : Nat × Int := if at' < 0 ∨ (b.length : Int) < at' then (0, 9) else checkN b at'.toNat
/-- a decimal number -/
def decV (l : List UInt8) : Nat := l.foldl (fun n c => n * 10 + (c.toNat - 48)) 0
def isE (c : UInt8) : Bool := c == 101 || c == 69
def trimL (l : List UInt8) (cs : List UInt8) : List UInt8 := l.dropWhile (cs.contains ·)
def trimR (l : List UInt8) (cs : List UInt8) : List UInt8 := (l.reverse.dropWhile (cs.contains ·)).reverse
structure V where
  below : Bool
  digits : List UInt8
  power : Int
deriving DecidableEq, Repr
def plainOf (s : List UInt8) : List UInt8 := if s.head? = some 45 then s.tail else s
def mantOf (p : List UInt8) : List UInt8 := p.takeWhile (fun c => !isE c)
def powOf (p : List UInt8) : List UInt8 := (p.dropWhile (fun c => !isE c)).drop 1
def aheadOf (m : List UInt8) : List UInt8 := m.takeWhile (fun c => !(c == 46))
def behindOf (m : List UInt8) : List UInt8 := (m.dropWhile (fun c => !(c == 46))).drop 1
def digsOf (m : List UInt8) : List UInt8 := trimL (aheadOf m ++ behindOf m) [48]
def powDigs (p : List UInt8) : List UInt8 := trimL (trimL p [43, 45]) [48]
def powVal (p : List UInt8) : Int := if p.head? = some 45 then -(decV (powDigs p) : Int) else decV (powDigs p)
def valOf (s : List UInt8) : Option V :=
  if digsOf (mantOf (plainOf s)) = [] then some ⟨false, [], 0⟩
  else if 15 < (powDigs (powOf (plainOf s))).length then none
  else some ⟨decide (s.head? = some 45), trimR (digsOf (mantOf (plainOf s))) [48],
    ((digsOf (mantOf (plainOf s))).length : Int) - (trimR (digsOf (mantOf (plainOf s))) [48]).length - (behindOf (mantOf (plainOf s))).length + powVal (powOf (plainOf s))⟩
def ofS (s : List UInt8) : Option V := if checkN s 0 = (s.length, 0) then valOf s else none
def same (a b : List UInt8) : Bool := match ofS a, ofS b with
  | some x, some y => decide (x = y)
  | _, _ => false
def intN (v : V) : Nat := decV (v.digits ++ List.replicate v.power.toNat 48)
def intV (v : V) : Int × Bool :=
  if v.power < 0 ∨ 16 < v.power ∨ 16 < (v.digits.length : Int) + v.power then (0, false)
  else if 9007199254740991 < intN v then (0, false)
  else if v.below then (-(intN v : Int), true) else (intN v, true)
def int (s : List UInt8) : Int × Bool := match ofS s with
  | none => (0, false)
  | some v => intV v
end Go.Proofs.YtfploakafbnigaaGreatDoor.Num
