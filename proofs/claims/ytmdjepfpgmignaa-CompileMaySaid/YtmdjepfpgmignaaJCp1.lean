/- Package compile, plainly: what a tree's code is. -/
import Derived.Test.YtmdjepfpgmignaaJSc4
set_option linter.unusedVariables false
set_option linter.unusedSimpArgs false
set_option maxRecDepth 20000
set_option maxHeartbeats 8000000
namespace Go.Proofs.Ytmdjepfpgmignaa
open Go Ax
/-- The strings by their numbers, and how many sites there are. -/
abbrev PS := List ByteArray × Nat
/-- What is laid from a place on. -/
abbrev GE := Nat → PS → List Ins × PS
def isS (s x : ByteArray) : Bool := x == s
def idS (L : List ByteArray) (s : ByteArray) : Nat := L.findIdx (isS s)
def poolF (L : List ByteArray) (s : ByteArray) : Nat × List ByteArray := if L.any (isS s) = true then (idS L s, L) else (L.length, L ++ [s])
def idE : GE := fun _ st => ([], st)
def oneE (op a b : Int) : GE := fun _ st => ([(op, a, b)], st)
def seqE (f g : GE) : GE := fun a st =>
  let p := f a st
  let q := g (a + p.1.length) p.2
  (p.1 ++ q.1, q.2)
def allE : List GE → GE
  | [] => idE
  | g :: gs => seqE g (allE gs)
/-- An instruction with a string's number. -/
def poolE (op : Int) (s : ByteArray) : GE := fun _ st => ([(op, ((poolF st.1 s).1 : Int), 0)], ((poolF st.1 s).2, st.2))
/-- An instruction with a string's number and a site. -/
def siteE (op : Int) (s : ByteArray) : GE := fun _ st => ([(op, ((poolF st.1 s).1 : Int), (st.2 : Int))], ((poolF st.1 s).2, st.2 + 1))
def keepE (op : Int) (f g : GE) : GE := fun a st =>
  let p := f a st
  let q := g (a + p.1.length + 1) p.2
  (p.1 ++ (op, ((a + p.1.length + 1 + q.1.length : Nat) : Int), 0) :: q.1, q.2)
def choiceE (f g h : GE) : GE := fun a st =>
  let p := f a st
  let q := g (a + p.1.length + 1) p.2
  let no := a + p.1.length + 1 + q.1.length + 1
  let r := h no q.2
  (p.1 ++ (23, (no : Int), 0) :: (q.1 ++ (22, ((no + r.1.length : Nat) : Int), 0) :: r.1), r.2)
def loopE (f g : GE) : GE := fun a st =>
  let p := f a st
  let q := g (a + p.1.length + 1) p.2
  (p.1 ++ (23, ((a + p.1.length + 1 + q.1.length + 1 : Nat) : Int), 0) :: (q.1 ++ [(22, (a : Int), 0)]), q.2)
/-- An object's fields. -/
def initE : List ByteArray → List GE → GE
  | n :: ns, g :: gs => seqE g (seqE (siteE 13 n) (initE ns gs))
  | _, _ => idE
def leafE (k n : Int) (s : ByteArray) : Option GE :=
  if k = 1 then some (oneE 2 0 0) else if k = 6 then some (oneE 6 0 0) else if k = 2 then some (oneE 3 n 0) else if k = 3 then some (oneE 4 n 0) else
  if k = 4 then some (poolE 5 s) else if k = 20 then some (oneE 7 n 0) else if k = 18 then some (oneE 8 n 0) else if k = 19 then some (oneE 10 n 0) else none
/-- What a node does with what its parts come to. -/
def endE (k o n : Int) (s : ByteArray) (len : Nat) : GE :=
  if k = 9 then oneE 20 o 0 else if k = 10 then oneE 21 o 0 else if k = 17 then oneE 29 o 0 else if k = 13 then siteE 14 s else if k = 14 then oneE 16 0 0 else
  if k = 15 then oneE 26 ((len : Int) - 1) 0 else if k = 33 then oneE 9 n 0 else if k = 34 then oneE 11 n 0 else if k = 23 then siteE 15 s else if k = 24 then oneE 17 0 0 else
  if k = 25 then poolE 18 s else if k = 26 then oneE 19 0 0 else if k = 27 then oneE 30 0 0 else if k = 32 then oneE 31 0 0 else if k = 31 then oneE 32 0 0 else idE
def genF (k o n : Int) (s : ByteArray) (ns : List ByteArray) (gs : List GE) : GE :=
  seqE (oneE 1 1 0) (match leafE k n s with
    | some g => g
    | none =>
      if k = 7 then seqE (oneE 12 0 0) (initE ns gs) else
      if k = 11 then keepE 24 (gs.getD 0 idE) (gs.getD 1 idE) else if k = 12 then keepE 25 (gs.getD 0 idE) (gs.getD 1 idE) else
      if k = 16 then seqE (gs.getD 0 idE) (seqE (siteE 27 s) (seqE (allE (gs.drop 1)) (oneE 28 ((gs.length : Int) - 1) 0))) else
      if k = 28 then choiceE (gs.getD 0 idE) (gs.getD 1 idE) (gs.getD 2 idE) else if k = 30 then loopE (gs.getD 0 idE) (gs.getD 1 idE) else
      seqE (allE gs) (endE k o n s gs.length))
mutual
/-- A node's code. -/
def Tr.gen : Tr → GE
  | .mk k o n s ns ks _ => genF k o n s ns (gens ks)
def gens : List Tr → List GE
  | [] => []
  | t :: ts => t.gen :: gens ts
end
theorem gens_map : ∀ ks, gens ks = ks.map Tr.gen
  | [] => rfl
  | k :: ks => by rw [gens, gens_map ks]; rfl
theorem Tr.gen_eq (x : Tr) : x.gen = genF x.kind x.op x.num x.str x.names (x.kids.map Tr.gen) := by
  cases x
  rw [Tr.gen, gens_map]
  rfl
end Go.Proofs.Ytmdjepfpgmignaa
