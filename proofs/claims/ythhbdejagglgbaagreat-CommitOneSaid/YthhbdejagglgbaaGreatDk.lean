/- The disk as a plain value, and what its operations make of it. No program, no world. -/
import Derived.Laws.Sem
namespace Go.Proofs.YthhbdejagglgbaaGreat

structure Dk where
  up : Bool
  sec : List (List UInt8)
  cache : List (Nat × List UInt8)
  left : Int
  stay : List UInt8

/-- the keys, rising -/
def dirty (m : List (Nat × List UInt8)) : List Nat := (m.map (·.1)).mergeSort (fun a b => decide (a ≤ b))

/-- what a map holds at a key -/
def look (m : List (Nat × List UInt8)) (i : Nat) : Option (List UInt8) := (m.find? (fun p => p.1 == i)).map (·.2)
/-- a store into a map: in its place, else behind -/
def upd (m : List (Nat × List UInt8)) (i : Nat) (l : List UInt8) : List (Nat × List UInt8) :=
  if (m.find? (fun p => p.1 == i)).isSome then m.map (fun p => if p.1 == i then (i, l) else p) else m ++ [(i, l)]

namespace Dk
/-- a sector's bytes -/
def at_ (D : Dk) (i : Nat) : List UInt8 := (look D.cache i).getD (D.sec.getD i [])

/-- the sectors behind the first sectors that are dirty have come out of the cache -/
def spillTo (D : Dk) (stays : Nat → Bool) : Nat → List (List UInt8)
  | 0 => D.sec
  | n + 1 => match (dirty D.cache)[n]? with
    | some k => if stays n then (D.spillTo stays n).set k ((look D.cache k).getD []) else D.spillTo stays n
    | none => D.spillTo stays n

def spill (D : Dk) (stays : Nat → Bool) : Dk := { D with sec := D.spillTo stays D.cache.length, cache := [] }

/-- does the n-th one stay? -/
def bit (stay : List UInt8) (n : Nat) : Bool := decide (n / 8 < stay.length) && ((stay.getD (n / 8) 0).toNat / 2 ^ (n % 8) % 2 == 1)

def fall (D : Dk) (stay : List UInt8) : Dk := { D.spill (bit stay) with up := false, left := 0, stay := [] }

/-- one operation: what it makes, and whether it is done -/
def operate (D : Dk) (do_ : Dk → Dk) : Dk × Int :=
  if D.left = 1 then (D.fall D.stay, 60) else (do_ { D with left := max (D.left - 1) 0 }, 0)

def ready (D : Dk) : Int := if D.up then 0 else 60

def write (D : Dk) (i : Int) (b : List UInt8) : Dk × Int :=
  if D.up = false then (D, 60)
  else if ¬ (0 ≤ i ∧ i < D.sec.length) then (D, 61)
  else if b.length ≠ 64 then (D, 2)
  else D.operate fun D => { D with cache := upd D.cache i.toNat b }

def flush (D : Dk) : Dk × Int :=
  if D.up = false then (D, 60) else D.operate fun D => D.spill fun _ => true

def crash (D : Dk) (stay : List UInt8) : Dk × Int :=
  if D.up = false then (D, 60) else (D.fall stay, 0)

def arm (D : Dk) (n : Int) (stay : List UInt8) : Dk × Int :=
  if D.up = false then (D, 60) else if n < 1 then (D, 2) else ({ D with left := n, stay := stay }, 0)

def start (D : Dk) : Dk × Int :=
  if D.up then (D, 2) else ({ D with up := true }, 0)

/-- a new disk -/
def new (n : Nat) : Dk := ⟨true, List.replicate n (List.replicate 64 0), [], 0, []⟩

/-- sectors are of 64 bytes, the cache holds sectors that there are, each once -/
structure Ok (D : Dk) : Prop where
  secs : ∀ s ∈ D.sec, s.length = 64
  keys : ∀ p ∈ D.cache, p.1 < D.sec.length ∧ p.2.length = 64
  nodup : (D.cache.map (·.1)).Nodup
  most : D.sec.length ≤ 1024
  left0 : 0 ≤ D.left
end Dk
end Go.Proofs.YthhbdejagglgbaaGreat
