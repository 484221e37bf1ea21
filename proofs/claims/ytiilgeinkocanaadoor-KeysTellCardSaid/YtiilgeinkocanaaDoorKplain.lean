/- Plain: what keys bytes make, one by one. No program in sight. -/
import Derived.Test.YtiilgeinkocanaaDoorAplain
import Derived.Test.YtiilgeinkocanaaDoorWplain
namespace Go.Proofs.YtiilgeinkocanaaDoor

/-- A key. -/
structure Ky where
  kind : Int
  r : Int
  text : ByteArray
  deriving DecidableEq
def kOne (k : Int) : List Ky := [⟨k, 0, ⟨#[]⟩⟩]
def kLet (k r : Int) : List Ky := [⟨k, r, ⟨#[]⟩⟩]
def kBad (s : ByteArray) : List Ky := [⟨0, 0, s⟩]
def escS : ByteArray := ⟨#[27]⟩
def csiS : ByteArray := ⟨#[27, 91]⟩
def ss3S : ByteArray := ⟨#[27, 79]⟩
def endS : ByteArray := ⟨#[27, 91, 50, 48, 49, 126]⟩
def beginS : ByteArray := ⟨#[50, 48, 48, 126]⟩
/-- A byte at the beginning: what waits then, and its keys. -/
def firstK (x : Int) : ByteArray × List Ky :=
  if x = 27 ∨ begB (strOfNums [x]) = true then (strOfNums [x], [])
  else if x = 13 ∨ x = 10 then (⟨#[]⟩, kOne 2)
  else if x = 9 then (⟨#[]⟩, kOne 3)
  else if x = 8 ∨ x = 127 then (⟨#[]⟩, kOne 4)
  else if x = 0 ∨ (28 ≤ x ∧ x < 32) then (⟨#[]⟩, kLet 6 (x + 64))
  else if x < 32 then (⟨#[]⟩, kLet 6 (x + 96))
  else if x < 128 then (⟨#[]⟩, kLet 1 x)
  else (⟨#[]⟩, kBad (strOfNums [x]))
/-- Keys, and those of a byte anew. -/
def thenK (l : List Ky) (x : Int) : ByteArray × List Ky := ((firstK x).1, l ++ (firstK x).2)
def codeK (alt : Bool) (w t : ByteArray) (x : Int) : ByteArray × List Ky :=
  if wholeB (t ++ strOfNums [x]) = true then (⟨#[]⟩, kLet (if alt = true then 7 else 1) (Utf8.decode (t ++ strOfNums [x]) 0).1)
  else if begB (t ++ strOfNums [x]) = true then (w ++ strOfNums [x], [])
  else thenK (kBad w) x
def escK (x : Int) : ByteArray × List Ky :=
  if x = 91 ∨ x = 79 ∨ begB (strOfNums [x]) = true then (escS ++ strOfNums [x], [])
  else if 32 ≤ x ∧ x < 127 then (⟨#[]⟩, kLet 7 x)
  else thenK (kOne 5) x
def arrowK (x : Int) : Int := if x = 65 then 8 else if x = 66 then 9 else if x = 67 then 11 else if x = 68 then 10 else if x = 72 then 12 else if x = 70 then 13 else 0
def thirdK (x : Int) : ByteArray × List Ky :=
  if 0 < arrowK x then (⟨#[]⟩, kOne (arrowK x))
  else if 32 ≤ x ∧ x < 127 then (⟨#[]⟩, kBad (ss3S ++ strOfNums [x]))
  else thenK (kBad ss3S) x
/-- What a sequence that has ended makes: nothing: a paste begins. -/
def seqEnd (t : ByteArray) (x : Int) : Option (List Ky) :=
  if t.extract 2 t.size = beginS then none
  else if t.size = 3 ∧ 0 < arrowK x then some (kOne (arrowK x))
  else if t.extract 2 t.size = ⟨#[49, 126]⟩ ∨ t.extract 2 t.size = ⟨#[55, 126]⟩ then some (kOne 12)
  else if t.extract 2 t.size = ⟨#[52, 126]⟩ ∨ t.extract 2 t.size = ⟨#[56, 126]⟩ then some (kOne 13)
  else if t.extract 2 t.size = ⟨#[51, 126]⟩ then some (kOne 14)
  else some (kBad t)
/-- What waits: false and bytes, or true and the bytes of a paste. -/
abbrev KS := Bool × ByteArray
def stays (p : ByteArray × List Ky) : KS × List Ky := ((false, p.1), p.2)
def seqK (w : ByteArray) (x : Int) : KS × List Ky :=
  if x < 32 ∨ 127 ≤ x then stays (thenK (kBad w) x)
  else if x < 64 then ((false, w ++ strOfNums [x]), [])
  else match seqEnd (w ++ strOfNums [x]) x with
    | none => ((true, ⟨#[]⟩), [])
    | some l => ((false, ⟨#[]⟩), l)
/-- What is kept of a rune that is pasted. -/
def cleanR (r : Int) : ByteArray := if r = 13 then ⟨#[10]⟩ else if r = 10 ∨ r = 9 ∨ 0 < cells r then putS r else ⟨#[]⟩
def cleanFrom (s : ByteArray) : Nat → Nat → ByteArray
  | 0, _ => ⟨#[]⟩
  | f + 1, pos => if pos < s.size then (if (dec3 s pos).2.2 = true then cleanR (Utf8.decode s pos).1 else ⟨#[]⟩) ++ cleanFrom s f (pos + (Utf8.decode s pos).2) else ⟨#[]⟩
def cleanK (s : ByteArray) : ByteArray := cleanFrom s s.size 0
/-- A byte of a paste. -/
def pasteK (p : ByteArray) (x : Int) : KS × List Ky :=
  if 6 ≤ (p ++ strOfNums [x]).size ∧ (p ++ strOfNums [x]).extract ((p ++ strOfNums [x]).size - 6) (p ++ strOfNums [x]).size = endS then ((false, ⟨#[]⟩), [⟨15, 0, cleanK ((p ++ strOfNums [x]).extract 0 ((p ++ strOfNums [x]).size - 6))⟩])
  else ((true, p ++ strOfNums [x]), [])
def waitK (s : ByteArray) (x : Int) : KS × List Ky :=
  if s.size = 0 then stays (firstK x)
  else if s = escS then stays (escK x)
  else if s = ss3S then stays (thirdK x)
  else if 2 ≤ s.size ∧ s.extract 0 2 = csiS then seqK s x
  else if s.get! 0 = 27 then stays (codeK true s (s.extract 1 s.size) x)
  else stays (codeK false s s x)
def feedK (p : KS) (x : Int) : KS × List Ky := if p.1 = true then pasteK p.2 x else waitK p.2 x
def tickK (p : KS) : KS × List Ky :=
  if p.1 = true then (p, [])
  else if p.2.size = 0 then (p, [])
  else if p.2 = escS then ((false, ⟨#[]⟩), kOne 5)
  else ((false, ⟨#[]⟩), kBad p.2)
def startK : KS := (false, ⟨#[]⟩)
def waitsK (p : KS) : Bool := p.1 || decide (0 < p.2.size)
/-- Bytes, one by one. -/
def runK : KS → List UInt8 → KS × List Ky
  | p, [] => (p, [])
  | p, c :: l => ((runK (feedK p c.toNat).1 l).1, (feedK p c.toNat).2 ++ (runK (feedK p c.toNat).1 l).2)
theorem runK_app (p : KS) (l m : List UInt8) : runK p (l ++ m) = ((runK (runK p l).1 m).1, (runK p l).2 ++ (runK (runK p l).1 m).2) := by
  induction l generalizing p with
  | nil => simp [runK]
  | cons c l ih => simp only [List.cons_append, runK]; rw [ih]; simp
def toldK (s : ByteArray) (tick : Bool) : List Ky := (runK startK s.data.toList).2 ++ if tick = true then (tickK (runK startK s.data.toList).1).2 else []
theorem runK_begin : runK startK [27, 91, 50, 48, 48, 126] = ((true, ⟨#[]⟩), []) := by decide +kernel
/-- The chapter's examples. -/
theorem told_ex : toldK ⟨#[97, 195, 169, 13, 1, 0]⟩ false = [⟨1, 97, ⟨#[]⟩⟩, ⟨1, 233, ⟨#[]⟩⟩, ⟨2, 0, ⟨#[]⟩⟩, ⟨6, 97, ⟨#[]⟩⟩, ⟨6, 64, ⟨#[]⟩⟩]
    ∧ toldK ⟨#[27]⟩ true = kOne 5 ∧ toldK ⟨#[27, 120]⟩ false = kLet 7 120 ∧ toldK ⟨#[27, 27]⟩ true = kOne 5 ++ kOne 5 ∧ toldK ⟨#[27, 91, 65]⟩ false = kOne 8 ∧ toldK ⟨#[27, 79, 72]⟩ false = kOne 12
    ∧ toldK ⟨#[27, 91, 51, 126]⟩ false = kOne 14 ∧ toldK ⟨#[27, 91, 57, 122]⟩ false = kBad ⟨#[27, 91, 57, 122]⟩
    ∧ toldK ⟨#[27, 91, 50, 48, 48, 126, 97, 13, 1, 255, 27, 91, 50, 48, 49, 126]⟩ false = [⟨15, 0, ⟨#[97, 10]⟩⟩] ∧ toldK ⟨#[195, 97]⟩ false = kBad ⟨#[195]⟩ ++ kLet 1 97 ∧ toldK ⟨#[195]⟩ true = kBad ⟨#[195]⟩ := by decide +kernel
end Go.Proofs.YtiilgeinkocanaaDoor
