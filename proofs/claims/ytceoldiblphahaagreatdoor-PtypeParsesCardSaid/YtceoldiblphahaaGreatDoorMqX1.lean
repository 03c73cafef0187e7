/- Plain: how far tokens reach. No program in it. -/
import Derived.Test.YtceoldiblphahaaGreatDoorMqX
set_option linter.unusedVariables false
namespace Go.Mq

theorem spanL_ge (p : Int → Bool) (s : ByteArray) : ∀ k i, min i s.size ≤ spanL p k s i
  | 0, i => by rw [spanL]; omega
  | k + 1, i => by
    rw [spanL]; split
    · split
      · have := spanL_ge p s k (i + (Utf8.decode s i).2); omega
      · omega
    · omega
theorem spanF_pos {p : Int → Bool} {s : ByteArray} (h : 0 < s.size) (hp : p (Utf8.decode s 0).1 = true) : 1 ≤ spanF p s := by
  have hw := Lib.decode_width_pos s 0 h
  unfold spanF
  obtain ⟨k, hk⟩ : ∃ k, s.size = k + 1 := ⟨s.size - 1, by omega⟩
  conv => rhs; arg 2; rw [hk]
  rw [spanL_in h, if_pos hp]
  have := spanL_ge p s k (0 + (Utf8.decode s 0).2); omega
theorem commentL_le (s : ByteArray) : ∀ k i deep, i ≤ s.size → commentL k s i deep ≤ s.size
  | 0, i, deep, h => by rw [commentL]; omega
  | k + 1, i, deep, h => by
    rw [commentL]; split
    · rename_i hi
      have two : ∀ x : ByteArray, x.size = 2 → prefF (s.extract i s.size) x = true → i + 2 ≤ s.size := fun x hx hp => by
        have h1 := prefF_le hp
        rw [hx, ByteArray.size_extract] at h1; omega
      split
      · rename_i hp; exact commentL_le s k _ _ (two _ rfl hp)
      · split
        · rename_i hp
          split
          · exact two _ rfl hp
          · exact commentL_le s k _ _ (two _ rfl hp)
        · exact commentL_le s k _ _ (by omega)
    · omega
theorem commentF_le (s : ByteArray) : commentF s ≤ s.size := commentL_le s _ 0 0 (by omega)
theorem longL_range (s : ByteArray) : ∀ k n ok, n ≤ s.size → n ≤ (longL k s n ok).1 ∧ (longL k s n ok).1 ≤ s.size
  | 0, n, ok, h => by simp only [longL]; omega
  | k + 1, n, ok, h => by
    rw [longL]; split
    · rename_i hc
      have h1 := spanF_le innerF (s.extract (n + 1) s.size)
      rw [ByteArray.size_extract] at h1
      have := longL_range s k (n + (1 + spanF innerF (s.extract (n + 1) s.size))) (checkF (partF s n)) (by omega)
      omega
    · simp only; omega
theorem longT_range {s : ByteArray} (h : 0 < s.size) (hc : classF (firstF s) = 1) : 1 ≤ (longT s).2.1 ∧ (longT s).2.1 ≤ s.size := by
  have e : firstF s = (Utf8.decode s 0).1 := by unfold firstF; rw [if_pos h]
  have h1 : 1 ≤ spanF innerF s := spanF_pos h (by rw [← e]; unfold innerF; rw [if_pos hc])
  have h2 := spanF_le innerF s
  unfold longT; split
  · simp only; omega
  · have := longL_range s s.size (spanF innerF s) (checkF (s.extract 0 (spanF innerF s))) h2
    simp only; omega
theorem signL_range (s : ByteArray) : ∀ l : List ByteArray, (∀ x ∈ l, 1 ≤ x.size) → (signL s l).2.2 = true → 1 ≤ (signL s l).2.1 ∧ (signL s l).2.1 ≤ s.size
  | [], _, h => by simp [signL] at h
  | x :: l, hx, h => by
    rw [signL] at h ⊢
    split
    · rename_i hp
      have := prefF_le hp
      have := hx x List.mem_cons_self
      simp only; omega
    · rename_i hp
      rw [if_neg hp] at h
      exact signL_range s l (fun y hy => hx y (List.mem_cons_of_mem _ hy)) h
/-- Does a text begin with a number's sign? -/
def numAt (s : ByteArray) : Prop := classF (firstF s) = 2 ∨ byteAt s 0 = 126
theorem tokenF_range (num : ByteArray → Tok × Int × Bool) {s : ByteArray} (h : 0 < s.size) (hn : numAt s → (num s).2.2 = true → 1 ≤ (num s).2.1 ∧ (num s).2.1 ≤ s.size) (ht : (tokenF num s).2.2 = true) : 1 ≤ (tokenF num s).2.1 ∧ (tokenF num s).2.1 ≤ s.size := by
  unfold tokenF at ht ⊢
  by_cases c1 : classF (firstF s) = 1
  · rw [if_pos c1]; exact longT_range h c1
  · rw [if_neg c1] at ht ⊢
    by_cases c2 : classF (firstF s) = 2 ∨ byteAt s 0 = 126
    · rw [if_pos c2] at ht ⊢; exact hn c2 ht
    · rw [if_neg c2] at ht ⊢
      exact signL_range s signsF (by decide) ht
theorem tokenF_word (num : ByteArray → Tok × Int × Bool) {s : ByteArray} (h : classF (firstF s) = 1) : tokenF num s = longT s := by unfold tokenF; rw [if_pos h]
theorem tokenF_num (num : ByteArray → Tok × Int × Bool) {s : ByteArray} (h : ¬ classF (firstF s) = 1) (h2 : numAt s) : tokenF num s = num s := by unfold tokenF; unfold numAt at h2; rw [if_neg h, if_pos h2]
theorem tokenF_sign (num : ByteArray → Tok × Int × Bool) {s : ByteArray} (h : ¬ classF (firstF s) = 1) (h2 : ¬ numAt s) : tokenF num s = signL s signsF := by unfold tokenF; unfold numAt at h2; rw [if_neg h, if_neg h2]
theorem signL_drop {s : ByteArray} {l : List ByteArray} {k : Nat} (h : k < l.length) : signL s (l.drop k) = if prefF s l[k]! = true then (⟨3, l[k]!, 0, 0⟩, (l[k]!.size : Int), true) else signL s (l.drop (k + 1)) := by
  rw [List.drop_eq_getElem_cons h, signL, getElem!_pos l k h]
end Go.Mq
