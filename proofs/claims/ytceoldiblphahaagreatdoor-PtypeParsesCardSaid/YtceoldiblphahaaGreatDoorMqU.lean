/- Plain: what package ptype's parser computes. No program in it. -/
import Derived.Test.YtceoldiblphahaaGreatDoorMqQ
set_option linter.unusedVariables false
namespace Go.Mq

/-- Is the token at a place a word, a sign? -/
def keyF (l : List Tok) (i : Int) (x : ByteArray) : Bool := decide (((i ≥ 0 ∧ i < l.length) ∧ l[i.toNat]!.kind = 3) ∧ l[i.toNat]!.text = x)
/-- Is it a name, a long one? -/
def nameAt (l : List Tok) (i : Int) : Bool := decide (((i ≥ 0 ∧ i < l.length) ∧ l[i.toNat]!.kind = 1) ∧ checkF l[i.toNat]!.text = true)
def longAt (l : List Tok) (i : Int) : Bool := decide (((i ≥ 0 ∧ i < l.length) ∧ l[i.toNat]!.kind = 1) ∧ longF l[i.toNat]!.text = true)
def textAt (l : List Tok) (i : Int) : ByteArray := l[i.toNat]!.text

/-- A node of a type. -/
abbrev nod (k : Int) (s : ByteArray) (ks : List Tree) : Tree := .node k 0 s ⟨#[]⟩ ks
abbrev b_int : ByteArray := ⟨#[105, 110, 116]⟩
abbrev b_bool : ByteArray := ⟨#[98, 111, 111, 108]⟩
abbrev b_unit : ByteArray := ⟨#[117, 110, 105, 116]⟩
abbrev b_open : ByteArray := ⟨#[40]⟩
abbrev b_close : ByteArray := ⟨#[41]⟩
abbrev b_mu : ByteArray := ⟨#[109, 117]⟩
abbrev b_lb : ByteArray := ⟨#[123]⟩
abbrev b_rb : ByteArray := ⟨#[125]⟩
abbrev b_of : ByteArray := ⟨#[111, 102]⟩
abbrev b_bar : ByteArray := ⟨#[124]⟩
abbrev b_arrow : ByteArray := ⟨#[45, 62]⟩
abbrev b_star : ByteArray := ⟨#[42]⟩

mutual
def typF : Nat → List Tok → Int → Tree × Int × Int
  | 0, _, i => (default, i, 6)
  | n + 1, l, i => match productF n l i with
    | (a, i1, e1) => if e1 = 0 ∧ keyF l i1 b_arrow = true then (match typF n l (i1 + 1) with | (b, i2, e2) => (nod 5 ⟨#[]⟩ [a, b], i2, e2)) else (a, i1, e1)
def productF : Nat → List Tok → Int → Tree × Int × Int
  | 0, _, i => (default, i, 6)
  | n + 1, l, i => match atomF n l i with
    | (a, i1, e1) => if e1 = 0 ∧ keyF l i1 b_star = true then (match productF n l (i1 + 1) with | (b, i2, e2) => (nod 6 ⟨#[]⟩ [a, b], i2, e2)) else (a, i1, e1)
def atomF : Nat → List Tok → Int → Tree × Int × Int
  | 0, _, i => (default, i, 6)
  | n + 1, l, i =>
    if longAt l i = true then (nod 4 (textAt l i) [], i + 1, 0)
    else if keyF l i b_int = true then (nod 1 ⟨#[]⟩ [], i + 1, 0)
    else if keyF l i b_bool = true then (nod 2 ⟨#[]⟩ [], i + 1, 0)
    else if keyF l i b_unit = true then (nod 3 ⟨#[]⟩ [], i + 1, 0)
    else if keyF l i b_open = true then (match typF n l (i + 1) with
      | (t, i1, e1) => if e1 ≠ 0 then (t, i1, e1) else if keyF l i1 b_close = true then (t, i1 + 1, 0) else (t, i1, 6))
    else if keyF l i b_mu = true then
      (if nameAt l (i + 1) = true then
        (if keyF l (i + 2) b_lb = true then (match consF n l (i + 3) [] with
          | (c, i1, e1) => if e1 ≠ 0 then (default, i1, e1) else if keyF l i1 b_rb = true then (nod 7 (textAt l (i + 1)) c, i1 + 1, 0) else (default, i1, 6))
        else (default, i + 2, 6))
      else (default, i + 1, 6))
    else (default, i, 6)
def consF : Nat → List Tok → Int → List Tree → List Tree × Int × Int
  | 0, _, i, _ => ([], i, 6)
  | n + 1, l, i, out =>
    if nameAt l i = true then
      (if (out.any fun t => decide (textAt l i = t.nm)) = true then ([], i, 9)
      else if keyF l (i + 1) b_of = true then (match typF n l (i + 2) with
        | (t, i1, e1) => if e1 ≠ 0 then ([], i1, e1)
          else if keyF l i1 b_bar = true then consF n l (i1 + 1) (out ++ [nod 8 (textAt l i) [t]]) else (out ++ [nod 8 (textAt l i) [t]], i1, 0))
      else ([], i + 1, 6))
    else ([], i, 6)
end
theorem keyF_in {l : List Tok} {i : Int} {x : ByteArray} (h : keyF l i x = true) : 0 ≤ i ∧ i < l.length := by
  have := of_decide_eq_true h; exact this.1.1
theorem longAt_in {l : List Tok} {i : Int} (h : longAt l i = true) : 0 ≤ i ∧ i < l.length := by
  have := of_decide_eq_true h; exact this.1.1
theorem nameAt_in {l : List Tok} {i : Int} (h : nameAt l i = true) : 0 ≤ i ∧ i < l.length := by
  have := of_decide_eq_true h; exact this.1.1
theorem parse_in (l : List Tok) : ∀ n : Nat, (∀ i : Int, i ≤ l.length → i ≤ (typF n l i).2.1 ∧ (typF n l i).2.1 ≤ l.length) ∧ (∀ i : Int, i ≤ l.length → i ≤ (productF n l i).2.1 ∧ (productF n l i).2.1 ≤ l.length) ∧
    (∀ i : Int, i ≤ l.length → i ≤ (atomF n l i).2.1 ∧ (atomF n l i).2.1 ≤ l.length) ∧ (∀ (i : Int) (out : List Tree), i ≤ l.length → i ≤ (consF n l i out).2.1 ∧ (consF n l i out).2.1 ≤ l.length) := by
  intro n
  induction n with
  | zero => refine ⟨fun i h => ?_, fun i h => ?_, fun i h => ?_, fun i out h => ?_⟩ <;> simp only [typF, productF, atomF, consF] <;> omega
  | succ n ih =>
    obtain ⟨it, ip, ia, ic⟩ := ih
    refine ⟨fun i h => ?_, fun i h => ?_, fun i h => ?_, fun i out h => ?_⟩
    · have h1 := ip i h
      simp only [typF]
      rcases hR : productF n l i with ⟨a, i1, e1⟩
      rw [hR] at h1
      simp only at h1 ⊢
      split
      · rename_i hk
        have h2 := keyF_in hk.2
        have h3 := it (i1 + 1) (by omega)
        rcases hR2 : typF n l (i1 + 1) with ⟨b, i2, e2⟩
        rw [hR2] at h3
        simp only at h3 ⊢; omega
      · simp only; omega
    · have h1 := ia i h
      simp only [productF]
      rcases hR : atomF n l i with ⟨a, i1, e1⟩
      rw [hR] at h1
      simp only at h1 ⊢
      split
      · rename_i hk
        have h2 := keyF_in hk.2
        have h3 := ip (i1 + 1) (by omega)
        rcases hR2 : productF n l (i1 + 1) with ⟨b, i2, e2⟩
        rw [hR2] at h3
        simp only at h3 ⊢; omega
      · simp only; omega
    · simp only [atomF]
      split
      · rename_i hk; have := longAt_in hk; simp only; omega
      split
      · rename_i hk; have := keyF_in hk; simp only; omega
      split
      · rename_i hk; have := keyF_in hk; simp only; omega
      split
      · rename_i hk; have := keyF_in hk; simp only; omega
      split
      · rename_i hk
        have h0 := keyF_in hk
        have h1 := it (i + 1) (by omega)
        rcases hR : typF n l (i + 1) with ⟨a, i1, e1⟩
        rw [hR] at h1
        simp only at h1 ⊢
        split
        · simp only; omega
        split
        · rename_i hk2; have := keyF_in hk2; simp only; omega
        · simp only; omega
      split
      · rename_i hk
        have h0 := keyF_in hk
        split
        · rename_i hn
          have h1 := nameAt_in hn
          split
          · rename_i hb
            have h2 := keyF_in hb
            have h3 := ic (i + 3) [] (by omega)
            rcases hR : consF n l (i + 3) [] with ⟨a, i1, e1⟩
            rw [hR] at h3
            simp only at h3 ⊢
            split
            · simp only; omega
            split
            · rename_i hk2; have := keyF_in hk2; simp only; omega
            · simp only; omega
          · simp only; omega
        · simp only; omega
      · simp only; omega
    · simp only [consF]
      split
      · rename_i hn
        have h0 := nameAt_in hn
        split
        · simp only; omega
        split
        · rename_i hk
          have h1 := keyF_in hk
          have h2 := it (i + 2) (by omega)
          rcases hR : typF n l (i + 2) with ⟨a, i1, e1⟩
          rw [hR] at h2
          simp only at h2 ⊢
          split
          · simp only; omega
          split
          · rename_i hk2
            have h3 := keyF_in hk2
            have h4 := ic (i1 + 1) (out ++ [nod 8 (textAt l i) [a]]) (by omega)
            omega
          · simp only; omega
        · simp only; omega
      · simp only; omega
/-- What a rule of the grammar hands back: a tree, or anything behind an error. -/
def resT (R : Tree × Int × Int) : PV := if R.2.2 = 0 then R.1.pv else .any1
end Go.Mq
