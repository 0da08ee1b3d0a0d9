/- The plain functions that the contracts of this seat speak of: flights, caps, slots, loads. No program in sight. -/
import Derived.WalkKit
import Derived.WalkLawsBesides
namespace Go.Proofs.Ytgoepnbajpgkhaa
namespace Core

structure Visit where
  f0 : ByteArray
  f1 : Int
  f2 : Int
structure Flight where
  f0 : ByteArray
  f1 : Int
  f2 : Int
  f3 : List Visit
structure Cap where
  f0 : ByteArray
  f1 : Int
structure Run where
  f0 : Int
  f1 : Int
  f2 : Int
structure Book where
  f0 : List Cap
  f1 : List Flight
  f2 : List Int

instance : Inhabited Visit := ⟨⟨ByteArray.empty, 0, 0⟩⟩
instance : Inhabited Flight := ⟨⟨ByteArray.empty, 0, 0, []⟩⟩
instance : Inhabited Cap := ⟨⟨ByteArray.empty, 0⟩⟩

def inB (n lo hi : Int) : Bool := decide (lo ≤ n) && decide (n ≤ hi)
def okByte (c : Int) : Bool := (decide (97 ≤ c) && decide (c ≤ 122)) || (decide (48 ≤ c) && decide (c ≤ 57)) || (c == 45)
def nameB (s : ByteArray) : Bool := inB s.size 1 8 && s.data.toList.all fun c => okByte c.toNat
def lessB (a b : ByteArray) : Bool := Op.bytesLess a.toList b.toList
def visitB (v : Visit) : Bool := nameB v.f0 && inB v.f1 0 200 && inB v.f2 1 30
/-- Each two that follow each other are so related. -/
def linkB {α : Type} (rel : α → α → Bool) : List α → Bool
  | [] => true
  | [_] => true
  | u :: v :: r => rel u v && linkB rel (v :: r)
/-- No visit begins ahead of the end of the one before it. -/
def apartB (u v : Visit) : Bool := decide (u.f1 + u.f2 ≤ v.f1)
def byName (a b : Flight) : Bool := lessB a.f0 b.f0
def bySector (a b : Cap) : Bool := lessB a.f0 b.f0
def visitsB (l : List Visit) : Bool := inB l.length 1 5 && l.all visitB && linkB apartB l
def flightB (f : Flight) : Bool := nameB f.f0 && inB f.f1 0 10000 && inB f.f2 0 60 && visitsB f.f3
def flightsB (l : List Flight) : Bool := decide (l.length ≤ 8) && l.all flightB && linkB byName l
def capB (c : Cap) : Bool := nameB c.f0 && inB c.f1 0 20
def capsB (l : List Cap) : Bool := decide (l.length ≤ 6) && l.all capB && linkB bySector l
def slotsB (list : List Flight) (slots : List Int) : Bool := flightsB list && decide (slots.length = list.length) && slots.all fun s => inB s (-1) 10060
/-- By how much somebody is late; nobody without a slot is. -/
def delayOf (f : Flight) (s : Int) : Int := if 0 ≤ s then s - f.f1 else 0
def delayTo (l : List Flight) (s : List Int) (k : Nat) : Int := ((l.zip s).take k).foldl (fun n p => n + delayOf p.1 p.2) 0
def delayN (l : List Flight) (s : List Int) : Int := if slotsB l s = true then delayTo l s l.length else 0
end Core
end Go.Proofs.Ytgoepnbajpgkhaa
