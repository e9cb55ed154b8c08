/- Part of the proof of a law of chapter 15. Conditions: none. -/
import Derived.Test.YtmkapobnfigedaaGreatDoorDp29
set_option linter.unusedVariables false
set_option linter.unusedSimpArgs false
set_option maxRecDepth 100000
set_option maxHeartbeats 8000000
namespace Go.Proofs.YtmkapobnfigedaaGreatDoor
open Go.RowKit
def joinP : List ByteArray → ByteArray → ByteArray
 | [], s => s
 | n :: r, s => joinP r (s ++ (⟨#[47]⟩ ++ n))
def printM (ns : List ByteArray) : ByteArray × Int := if ns.all nameB = true then (if 4 < ns.length then (⟨#[]⟩, 1102) else if 64 < (joinP ns ⟨#[]⟩).size then (⟨#[]⟩, 1101) else if (joinP ns ⟨#[]⟩).size = 0 then (⟨#[47]⟩, 0) else (joinP ns ⟨#[]⟩, 0)) else (⟨#[]⟩, 1100)
def findP (S : PSt) (p : ByteArray) : Int × Int := if (parseM p).1 ≠ 0 then (0, codeM (parseM p).1) else if mayM S = true then (if (walkM S 0 (parseM p).2).2 ≠ 0 then (0, (walkM S 0 (parseM p).2).2) else (numAt S (walkM S 0 (parseM p).2).1, 0)) else (0, 9)
def thruK (S : PSt) (ns : List ByteArray) : List PKey := (List.range ns.length).map fun k => ⟨(findP S (printM (ns.take k)).1).1, ⟨#[46]⟩⟩
def lastNum (S : PSt) (ns : List ByteArray) : Int := (findP S (printM (ns.take (ns.length - 1))).1).1
def bktName (n : ByteArray) : ByteArray := ⟨#[47, UInt8.ofNat (48 + (bucketM n).toNat)]⟩
def walkK (S : PSt) (p : ByteArray) : List PKey := thruK S (parseM p).2
def entryK (S : PSt) (p : ByteArray) : List PKey := walkK S p ++ [⟨lastNum S (parseM p).2, bktName ((parseM p).2.getLastD ⟨#[]⟩)⟩]
def inodeK (S : PSt) (p : ByteArray) : List PKey := [⟨(findP S p).1, ⟨#[]⟩⟩]
def openedK (S : PSt) (c : PCall) : List PKey := [⟨match S.op[(idxM (isFd c) S.op).toNat]? with | some d => d.num | none => 0, ⟨#[]⟩⟩]
def gatherK (S S' : PSt) (c : PCall) : Option (List PKey) :=
 let l : Option (List PKey) := if c.kind = 0 ∨ c.kind = 1 then some (entryK S c.path ++ inodeK S' c.path) else if c.kind = 2 then some (walkK S c.path ++ inodeK S c.path) else
  if c.kind = 3 ∨ c.kind = 6 then some (openedK S c) else if c.kind = 5 then (if c.data.size = 0 then none else some (openedK S c)) else
  if c.kind = 8 then some (walkK S c.path ++ entryK S c.path2 ++ inodeK S c.path) else if c.kind = 9 ∨ c.kind = 10 then some (entryK S c.path ++ inodeK S c.path) else
  if c.kind = 11 then some (entryK S c.path ++ entryK S c.path2 ++ inodeK S c.path) else none
 l.map fun l => l ++ [⟨-1 - c.core, ⟨#[]⟩⟩]
end Go.Proofs.YtmkapobnfigedaaGreatDoor
