/- Plain: what is parsed is no larger than twice its tokens. No program in it. -/
import Derived.Test.YtceoldiblphahaaGreatDoorMqU
set_option linter.unusedVariables false
namespace Go.Mq
theorem parse_size (l : List Tok) : ∀ n : Nat, (∀ i : Int, (typF n l i).2.2 = 0 → ((typF n l i).1.size : Int) ≤ 2 * ((typF n l i).2.1 - i)) ∧ (∀ i : Int, (productF n l i).2.2 = 0 → ((productF n l i).1.size : Int) ≤ 2 * ((productF n l i).2.1 - i)) ∧
    (∀ i : Int, (atomF n l i).2.2 = 0 → ((atomF n l i).1.size : Int) ≤ 2 * ((atomF n l i).2.1 - i)) ∧ (∀ (i : Int) (out : List Tree), (consF n l i out).2.2 = 0 → (sizes (consF n l i out).1 : Int) ≤ sizes out + 2 * ((consF n l i out).2.1 - i)) := by
  intro n
  induction n with
  | zero => refine ⟨fun i h => ?_, fun i h => ?_, fun i h => ?_, fun i out h => ?_⟩ <;> (simp only [typF, productF, atomF, consF] at h; exact absurd h (by decide))
  | succ n ih =>
    obtain ⟨it, ip, ia, ic⟩ := ih
    refine ⟨fun i => ?_, fun i => ?_, fun i => ?_, fun i out => ?_⟩
    · have h1 := ip i
      simp only [typF]
      rcases hR : productF n l i with ⟨a, i1, e1⟩
      rw [hR] at h1
      simp only at h1 ⊢
      split
      · rename_i hk
        have h3 := it (i1 + 1)
        rcases hR2 : typF n l (i1 + 1) with ⟨b, i2, e2⟩
        rw [hR2] at h3
        simp only at h3 ⊢
        intro he
        have := h1 hk.1
        have := h3 he
        simp only [Tree.size, sizes]; omega
      · exact h1
    · have h1 := ia i
      simp only [productF]
      rcases hR : atomF n l i with ⟨a, i1, e1⟩
      rw [hR] at h1
      simp only at h1 ⊢
      split
      · rename_i hk
        have h3 := ip (i1 + 1)
        rcases hR2 : productF n l (i1 + 1) with ⟨b, i2, e2⟩
        rw [hR2] at h3
        simp only at h3 ⊢
        intro he
        have := h1 hk.1
        have := h3 he
        simp only [Tree.size, sizes]; omega
      · exact h1
    · simp only [atomF]
      split
      · intro _; simp only [Tree.size, sizes]; omega
      split
      · intro _; simp only [Tree.size, sizes]; omega
      split
      · intro _; simp only [Tree.size, sizes]; omega
      split
      · intro _; simp only [Tree.size, sizes]; omega
      split
      · have h1 := it (i + 1)
        rcases hR : typF n l (i + 1) with ⟨a, i1, e1⟩
        rw [hR] at h1
        simp only at h1 ⊢
        split
        · intro he; exact absurd he ‹_›
        split
        · intro _
          have he : e1 = 0 := Classical.not_not.1 ‹¬ e1 ≠ 0›
          have := h1 he
          simp only; omega
        · intro he; simp at he
      split
      · split
        · split
          · have h3 := ic (i + 3) []
            rcases hR : consF n l (i + 3) [] with ⟨a, i1, e1⟩
            rw [hR] at h3
            simp only at h3 ⊢
            split
            · intro he; exact absurd he ‹_›
            split
            · intro _
              have he : e1 = 0 := Classical.not_not.1 ‹¬ e1 ≠ 0›
              have := h3 he
              simp only [Tree.size, sizes] at this ⊢; omega
            · intro he; simp at he
          · intro he; simp at he
        · intro he; simp at he
      · intro he; simp at he
    · simp only [consF]
      split
      · split
        · intro he; simp at he
        split
        · have h2 := it (i + 2)
          rcases hR : typF n l (i + 2) with ⟨a, i1, e1⟩
          rw [hR] at h2
          simp only at h2 ⊢
          split
          · intro he; exact absurd he ‹_›
          have he1 : e1 = 0 := Classical.not_not.1 ‹¬ e1 ≠ 0›
          have h5 := h2 he1
          have hsz : sizes (out ++ [nod 8 (textAt l i) [a]]) = sizes out + (1 + a.size) := by
            rw [sizes_append]; simp only [sizes, Tree.size]; omega
          split
          · intro he
            have h4 := ic (i1 + 1) (out ++ [nod 8 (textAt l i) [a]]) he
            rw [hsz] at h4; omega
          · intro _
            simp only; rw [hsz]; omega
        · intro he; simp at he
      · intro he; simp at he
end Go.Mq
