/- Plain: what the program's functions on runes, names, tokens compute. No program in it. -/
import Derived.Test.YtceoldiblphahaaGreatDoorMqP
import Derived.Lib.ValidU
import Derived.Lib.Split
import Derived.Lib.RuneCount
import Derived.Shelf.Strings.Split
set_option linter.unusedVariables false
namespace Go.Mq

/-- A rune's class. -/
def classF (r : Int) : Int :=
  if (r ≥ 65 ∧ r ≤ 90) ∨ (r ≥ 97 ∧ r ≤ 122) ∨ r = 95 then 1
  else if r ≥ 48 ∧ r ≤ 57 then 2
  else if r = 32 ∨ r = 9 ∨ r = 10 then 3
  else if r ≥ 128 ∧ r ≤ 1114111 ∧ r ≠ 65533 ∧ (r < 55296 ∨ r > 57343) then 1
  else 0

/-- May a rune lie in a name at a byte? -/
def nameRune (i : Nat) (r : Int) : Bool := if classF r = 1 then true else if classF r = 2 then decide (i ≠ 0) else decide (i ≠ 0 ∧ r = 39)
def nameLoop : Nat → ByteArray → Nat → Bool
  | 0, _, _ => true
  | k + 1, s, i => if i < s.size then nameRune i (Utf8.decode s i).1 && nameLoop k s (i + (Utf8.decode s i).2) else true
theorem nameLoop_in {k : Nat} {s : ByteArray} {i : Nat} (h : i < s.size) : nameLoop (k + 1) s i = (nameRune i (Utf8.decode s i).1 && nameLoop k s (i + (Utf8.decode s i).2)) := by rw [nameLoop, if_pos h]
theorem nameLoop_out {k : Nat} {s : ByteArray} {i : Nat} (h : ¬ i < s.size) : nameLoop k s i = true := by cases k <;> simp [nameLoop, h]
/-- Is it a name? -/
def nameF (s : ByteArray) : Bool := if (s = ⟨#[]⟩ ∨ (s.size : Int) > 32) ∨ (!Lib.validD s.data.toList) = true then false else nameLoop s.size s 0
def wordsF : List ByteArray := [⟨#[118, 97, 108]⟩, ⟨#[116, 121, 112, 101]⟩, ⟨#[100, 97, 116, 97, 116, 121, 112, 101]⟩, ⟨#[115, 116, 114, 117, 99, 116, 117, 114, 101]⟩, ⟨#[115, 105, 103, 110, 97, 116, 117, 114, 101]⟩, ⟨#[102, 117, 110, 99, 116, 111, 114]⟩, ⟨#[111, 112, 101, 110]⟩, ⟨#[105, 110, 99, 108, 117, 100, 101]⟩, ⟨#[115, 116, 114, 117, 99, 116]⟩, ⟨#[101, 110, 100]⟩, ⟨#[115, 105, 103]⟩, ⟨#[119, 104, 101, 114, 101]⟩, ⟨#[115, 104, 97, 114, 105, 110, 103]⟩, ⟨#[102, 110]⟩, ⟨#[108, 101, 116]⟩, ⟨#[105, 110]⟩, ⟨#[105, 102]⟩, ⟨#[116, 104, 101, 110]⟩, ⟨#[101, 108, 115, 101]⟩, ⟨#[99, 97, 115, 101]⟩, ⟨#[102, 111, 108, 100]⟩, ⟨#[111, 102]⟩, ⟨#[116, 111]⟩, ⟨#[105, 110, 116]⟩, ⟨#[98, 111, 111, 108]⟩, ⟨#[117, 110, 105, 116]⟩, ⟨#[116, 114, 117, 101]⟩, ⟨#[102, 97, 108, 115, 101]⟩, ⟨#[109, 117]⟩]
def wordF (s : ByteArray) : Bool := wordsF.any (fun y => decide (s = y))
def checkF (s : ByteArray) : Bool := nameF s && !wordF s
def dot : ByteArray := ⟨#[46]⟩
def splitF (s : ByteArray) : List ByteArray := Lib.splitB dot 0 (Lib.countB s dot) s
def longF (x : ByteArray) : Bool := decide ((x.size : Int) ≤ 128 ∧ (!(splitF x).any fun y => !checkF y) = true)
theorem splitB_sizes (sep : ByteArray) : ∀ (k : Nat) (s : ByteArray), ∀ y ∈ Lib.splitB sep 0 k s, y.size ≤ s.size
  | 0, s, y, h => by
    simp only [Lib.splitB, List.mem_singleton] at h
    subst h; exact Nat.le_refl _
  | k + 1, s, y, h => by
    unfold Lib.splitB at h
    split at h
    · simp only [List.mem_singleton] at h; subst h; exact Nat.le_refl _
    · rcases List.mem_cons.1 h with rfl | h
      · simp only [ByteArray.size_extract]; omega
      · have := splitB_sizes sep k _ y h
        simp only [ByteArray.size_extract] at this; omega
theorem splitF_size (x : ByteArray) : (splitF x).length ≤ x.size + 1 ∧ ∀ y ∈ splitF x, y.size ≤ x.size := by
  refine ⟨?_, splitB_sizes _ _ _⟩
  have h1 := Lib.splitB_length_le dot 0 (Lib.countB x dot) x
  have h2 := Lib.countB_le dot (by decide) x.size x (Nat.le_refl _)
  unfold splitF; omega
/-- The first place of a thing of which p is true; -1: there is none. -/
def idxF {α : Type} (p : α → Bool) : List α → Int → Int
  | [], _ => -1
  | x :: l, k => if p x = true then k else idxF p l (k + 1)
theorem idxF_iff {α : Type} (p : α → Bool) (l : List α) : ∀ k : Int, 0 ≤ k → (0 ≤ idxF p l k ↔ l.any p = true) := by
  induction l with
  | nil => intro k hk; simp [idxF]
  | cons x l ih =>
    intro k hk
    simp only [idxF, List.any_cons]
    by_cases h : p x = true
    · simp [h, hk]
    · rw [if_neg h, ih _ (by omega)]; simp [h]
theorem idxF_any {α : Type} (p : α → Bool) (l : List α) (k : Int) (hk : 0 ≤ k) : decide (idxF p l k ≥ 0) = l.any p := by
  rw [Bool.eq_iff_iff, decide_eq_true_iff]; exact idxF_iff p l k hk
theorem idxF_drop {α : Type} [Inhabited α] (p : α → Bool) (l : List α) (k : Nat) (h : k < l.length) (j : Int) : idxF p (l.drop k) j = if p l[k]! = true then j else idxF p (l.drop (k + 1)) (j + 1) := by
  rw [List.drop_eq_getElem_cons h, idxF, getElem!_pos l k h]
theorem not_any_not {α : Type} (p : α → Bool) (l : List α) : (!l.any (fun x => !p x)) = l.all p := by
  induction l with
  | nil => rfl
  | cons x l ih => simp [← ih]
end Go.Mq
