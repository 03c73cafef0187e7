/- Plain: what package lexer's functions compute. No program in it. -/
import Derived.Test.YtceoldiblphahaaGreatDoorMqQ
set_option linter.unusedVariables false
namespace Go.Mq

/-- How many bytes at the beginning of a text are runes of which p is true. -/
def spanL (p : Int → Bool) : Nat → ByteArray → Nat → Nat
  | 0, s, _ => s.size
  | k + 1, s, i => if i < s.size then (if p (Utf8.decode s i).1 = true then spanL p k s (i + (Utf8.decode s i).2) else i) else s.size
def spanF (p : Int → Bool) (s : ByteArray) : Nat := spanL p s.size s 0
theorem spanL_in {p : Int → Bool} {k : Nat} {s : ByteArray} {i : Nat} (h : i < s.size) : spanL p (k + 1) s i = if p (Utf8.decode s i).1 = true then spanL p k s (i + (Utf8.decode s i).2) else i := by rw [spanL, if_pos h]
theorem spanL_out {p : Int → Bool} {k : Nat} {s : ByteArray} {i : Nat} (h : ¬ i < s.size) : spanL p k s i = s.size := by cases k <;> simp [spanL, h]
theorem spanL_le (p : Int → Bool) (s : ByteArray) : ∀ k i, spanL p k s i ≤ s.size
  | 0, i => Nat.le_refl _
  | k + 1, i => by
    rw [spanL]; split
    · split
      · exact spanL_le p s k _
      · omega
    · exact Nat.le_refl _
theorem spanF_le (p : Int → Bool) (s : ByteArray) : spanF p s ≤ s.size := spanL_le p s _ _

def innerF (r : Int) : Bool := if classF r = 1 then true else if classF r = 2 then true else decide (r = 39)
def blankF (r : Int) : Bool := decide (classF r = 3)
def digitF (r : Int) : Bool := decide (classF r = 2)
/-- Does a text begin with another one? -/
def prefF (s x : ByteArray) : Bool := decide (x.size ≤ s.size ∧ s.extract 0 x.size = x)
theorem prefF_le {s x : ByteArray} (h : prefF s x = true) : x.size ≤ s.size := (of_decide_eq_true h).1
abbrev b_po : ByteArray := ⟨#[40, 42]⟩
abbrev b_pc : ByteArray := ⟨#[42, 41]⟩
def byteAt (s : ByteArray) (i : Nat) : Int := ((s.data.toList.getD i 0).toNat : Int)

/-- How many bytes a comment has. -/
def commentL : Nat → ByteArray → Nat → Int → Nat
  | 0, _, _, _ => 0
  | k + 1, s, i, deep =>
    if i < s.size then
      (if prefF (s.extract i s.size) b_po = true then commentL k s (i + 2) (deep + 1)
      else if prefF (s.extract i s.size) b_pc = true then (if deep - 1 = 0 then i + 2 else commentL k s (i + 2) (deep - 1))
      else commentL k s (i + 1) deep)
    else 0
def commentF (s : ByteArray) : Nat := commentL s.size s 0 0

/-- The part behind a dot. -/
def partF (s : ByteArray) (n : Nat) : ByteArray := (s.extract (n + 1) s.size).extract 0 (spanF innerF (s.extract (n + 1) s.size))
def longL : Nat → ByteArray → Nat → Bool → Nat × Bool
  | 0, _, n, ok => (n, ok)
  | k + 1, s, n, ok => if (ok = true ∧ n < s.size) ∧ byteAt s n = 46 then longL k s (n + (1 + spanF innerF (s.extract (n + 1) s.size))) (checkF (partF s n)) else (n, ok)
/-- A name, a word at the beginning of a text. -/
def longT (s : ByteArray) : Tok × Int × Bool :=
  if wordF (s.extract 0 (spanF innerF s)) = true ∧ (s.size = spanF innerF s ∨ byteAt s (spanF innerF s) ≠ 46) then (⟨3, s.extract 0 (spanF innerF s), 0, 0⟩, spanF innerF s, true)
  else (⟨1, s.extract 0 (longL s.size s (spanF innerF s) (checkF (s.extract 0 (spanF innerF s)))).1, 0, 0⟩, (longL s.size s (spanF innerF s) (checkF (s.extract 0 (spanF innerF s)))).1,
    (longL s.size s (spanF innerF s) (checkF (s.extract 0 (spanF innerF s)))).2 && decide ((longL s.size s (spanF innerF s) (checkF (s.extract 0 (spanF innerF s)))).1 ≤ 128))

def firstF (s : ByteArray) : Int := if 0 < s.size then (Utf8.decode s 0).1 else 0
def signsF : List ByteArray := [⟨#[58, 62]⟩, ⟨#[61, 62]⟩, ⟨#[45, 62]⟩, ⟨#[35, 49]⟩, ⟨#[35, 50]⟩, ⟨#[40]⟩, ⟨#[41]⟩, ⟨#[123]⟩, ⟨#[125]⟩, ⟨#[44]⟩, ⟨#[58]⟩, ⟨#[61]⟩, ⟨#[42]⟩, ⟨#[43]⟩, ⟨#[45]⟩, ⟨#[60]⟩, ⟨#[124]⟩]
def signL (s : ByteArray) : List ByteArray → Tok × Int × Bool
  | [] => (⟨0, ⟨#[]⟩, 0, 0⟩, 0, false)
  | x :: l => if prefF s x = true then (⟨3, x, 0, 0⟩, x.size, true) else signL s l
/-- A text's first token; num: what a number's is. -/
def tokenF (num : ByteArray → Tok × Int × Bool) (s : ByteArray) : Tok × Int × Bool :=
  if classF (firstF s) = 1 then longT s else if classF (firstF s) = 2 ∨ byteAt s 0 = 126 then num s else signL s signsF

/-- May a text be read: where not, and the error. -/
def badRune (r : Int) : Bool := decide (r = 65533 ∨ (r < 32 ∧ classF r ≠ 3) ∨ r = 127)
def runesL : Nat → ByteArray → Nat → Nat × Int
  | 0, _, _ => (0, 0)
  | k + 1, s, i => if i < s.size then (if badRune (Utf8.decode s i).1 = true then (i, 4) else runesL k s (i + (Utf8.decode s i).2)) else (0, 0)
def runesF (s : ByteArray) : Nat × Int := if s.size > 16384 then (0, 3) else runesL s.size s 0
theorem runesL_in {k : Nat} {s : ByteArray} {i : Nat} (h : i < s.size) : runesL (k + 1) s i = if badRune (Utf8.decode s i).1 = true then (i, 4) else runesL k s (i + (Utf8.decode s i).2) := by rw [runesL, if_pos h]
theorem runesL_out {k : Nat} {s : ByteArray} {i : Nat} (h : ¬ i < s.size) : runesL k s i = (0, 0) := by cases k <;> simp [runesL, h]

/-- A text's tokens from a byte on, behind those that were found. -/
def lexL (num : ByteArray → Tok × Int × Bool) : Nat → ByteArray → Nat → List Tok → List Tok × Nat × Int
  | 0, _, a, _ => ([], a, 5)
  | k + 1, s, a, l =>
    if a < s.size then
      (if 0 < spanF blankF (s.extract a s.size) then lexL num k s (a + spanF blankF (s.extract a s.size)) l
      else if prefF (s.extract a s.size) b_po = true then
        (if commentF (s.extract a s.size) = 0 then ([], a, 5) else lexL num k s (a + commentF (s.extract a s.size)) l)
      else if (tokenF num (s.extract a s.size)).2.2 = true then lexL num k s (a + (tokenF num (s.extract a s.size)).2.1.toNat) (l ++ [⟨(tokenF num (s.extract a s.size)).1.kind, (tokenF num (s.extract a s.size)).1.text, (tokenF num (s.extract a s.size)).1.n, a⟩])
      else ([], a, 5))
    else (l, 0, 0)
def lexF (num : ByteArray → Tok × Int × Bool) (s : ByteArray) : List Tok × Nat × Int :=
  if (runesF s).2 ≠ 0 then ([], (runesF s).1, (runesF s).2) else lexL num (s.size + 1) s 0 []
end Go.Mq
