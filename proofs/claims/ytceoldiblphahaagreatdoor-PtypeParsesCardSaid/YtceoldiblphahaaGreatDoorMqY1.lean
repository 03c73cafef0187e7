/- Plain: the reference's reading of one rune is the decoder's. No program in it. -/
import Derived.Test.YtceoldiblphahaaGreatDoorMqY
set_option linter.unusedVariables false
set_option linter.unusedSimpArgs false
namespace Go.Mq

def nextL : Nat → Int → Int → Int → ByteArray → Int → Option Int
  | 0, n, k, r, s, i => some r
  | m + 1, n, k, r, s, i => if k < n then (if bat s (i + k) < 128 ∨ bat s (i + k) > 191 then none else nextL m n (k + 1) (64 * r + bat s (i + k) - 128) s i) else some r
theorem nextL_in {m : Nat} {n k r : Int} {s : ByteArray} {i : Int} (h : k < n) : nextL (m + 1) n k r s i = if bat s (i + k) < 128 ∨ bat s (i + k) > 191 then none else nextL m n (k + 1) (64 * r + bat s (i + k) - 128) s i := by rw [nextL, if_pos h]
theorem nextL_out {m : Nat} {n k r : Int} {s : ByteArray} {i : Int} (h : ¬ k < n) : nextL m n k r s i = some r := by cases m <;> simp [nextL, h]
def endOf (n least : Int) : Option Int → Int × Int
  | none => (0, 0)
  | some r => if (r < least ∨ r > 1114111) ∨ (r ≥ 55296 ∧ r ≤ 57343) then (0, 0) else (r, n)
def tailOf (s : ByteArray) (i : Int) (n : Nat) (r0 least : Int) : Int × Int :=
  if s.size - i < n then (0, 0) else endOf n least (nextL n n 1 r0 s i)
def nextOf (s : ByteArray) (i : Int) : Int × Int :=
  if bat s i < 128 then (bat s i, 1)
  else if bat s i ≥ 194 ∧ bat s i < 224 then tailOf s i 2 (bat s i - 192) 128
  else if bat s i ≥ 224 ∧ bat s i < 240 then tailOf s i 3 (bat s i - 224) 2048
  else if bat s i ≥ 240 ∧ bat s i < 245 then tailOf s i 4 (bat s i - 240) 65536
  else (0, 0)

theorem bat_get (s : ByteArray) (i : Nat) : bat s i = ((s.get! i).toNat : Int) := by
  unfold bat
  congr 1
  have : s.get! i = s.data[i]! := rfl
  rw [this]
  simp [List.getD_eq_getElem?_getD, Array.getElem!_eq_getD]
  rfl
set_option maxHeartbeats 8000000 in
set_option maxRecDepth 100000 in
theorem next_plain (z b0 b1 b2 b3 : Nat) (hz : 1 ≤ z) (h0 : b0 < 256) (h1 : b1 < 256) (h2 : b2 < 256) (h3 : b3 < 256) :
    (if (b0 : Int) < 128 then ((b0 : Int), (1 : Int))
      else if (b0 : Int) ≥ 194 ∧ (b0 : Int) < 224 then (if (z : Int) < 2 then (0, 0) else if (b1 : Int) < 128 ∨ (b1 : Int) > 191 then (0, 0) else endOf 2 128 (some (64 * ((b0 : Int) - 192) + b1 - 128)))
      else if (b0 : Int) ≥ 224 ∧ (b0 : Int) < 240 then (if (z : Int) < 3 then (0, 0) else if (b1 : Int) < 128 ∨ (b1 : Int) > 191 then (0, 0) else if (b2 : Int) < 128 ∨ (b2 : Int) > 191 then (0, 0) else endOf 3 2048 (some (64 * (64 * ((b0 : Int) - 224) + b1 - 128) + b2 - 128)))
      else if (b0 : Int) ≥ 240 ∧ (b0 : Int) < 245 then (if (z : Int) < 4 then (0, 0) else if (b1 : Int) < 128 ∨ (b1 : Int) > 191 then (0, 0) else if (b2 : Int) < 128 ∨ (b2 : Int) > 191 then (0, 0) else if (b3 : Int) < 128 ∨ (b3 : Int) > 191 then (0, 0) else endOf 4 65536 (some (64 * (64 * (64 * ((b0 : Int) - 240) + b1 - 128) + b2 - 128) + b3 - 128)))
      else (0, 0)) =
    (if (Lib.decodeN z b0 b1 b2 b3).1 = 65533 ∧ (Lib.decodeN z b0 b1 b2 b3).2 = 1 then (0, 0) else (((Lib.decodeN z b0 b1 b2 b3).1 : Int), ((Lib.decodeN z b0 b1 b2 b3).2 : Int))) := by
  by_cases a1 : b0 < 128
  · have e : Lib.decodeN z b0 b1 b2 b3 = (b0, 1) := by unfold Lib.decodeN; rw [if_pos a1]
    rw [e, if_pos (by omega)]
    simp only
    rw [if_neg (by omega)]; rfl
  rw [if_neg (by omega)]
  by_cases a2 : b0 ≥ 194 ∧ b0 < 224
  · rw [if_pos (by omega)]
    unfold Lib.decodeN endOf
    simp only
    rw [if_neg a1, if_neg (c := b0 / 16 = 14 ∧ _) (by omega), if_neg (c := b0 / 8 = 30 ∧ _) (by omega)]
    repeat' split
    all_goals first | rfl | (exfalso; omega) | (simp only [Prod.mk.injEq]; omega)
  rw [if_neg (by omega)]
  by_cases a3 : b0 ≥ 224 ∧ b0 < 240
  · rw [if_pos (by omega)]
    unfold Lib.decodeN endOf
    simp only
    rw [if_neg a1, if_neg (c := b0 / 32 = 6 ∧ _) (by omega), if_neg (c := b0 / 8 = 30 ∧ _) (by omega)]
    repeat' split
    all_goals first | rfl | (exfalso; omega) | (simp only [Prod.mk.injEq]; omega)
  rw [if_neg (by omega)]
  by_cases a4 : b0 ≥ 240 ∧ b0 < 245
  · rw [if_pos (by omega)]
    unfold Lib.decodeN endOf
    simp only
    rw [if_neg a1, if_neg (c := b0 / 32 = 6 ∧ _) (by omega), if_neg (c := b0 / 16 = 14 ∧ _) (by omega)]
    repeat' split
    all_goals first | rfl | (exfalso; omega) | (simp only [Prod.mk.injEq]; omega)
  rw [if_neg (by omega)]
  unfold Lib.decodeN
  rw [if_neg a1]
  repeat' split
  all_goals first | rfl | (exfalso; omega) | (simp only [Prod.mk.injEq]; omega)
theorem bat3 (s : ByteArray) (i : Nat) (k : Nat) : bat s ((i : Int) + (k : Int)) = ((s.get! (i + k)).toNat : Int) := by
  rw [← bat_get]; rfl
theorem endOf_ite (n least : Int) (c : Prop) [Decidable c] (x : Option Int) : endOf n least (if c then none else x) = if c then (0, 0) else endOf n least x := by
  split <;> rfl
theorem nextOf_eq (s : ByteArray) (i : Nat) (hi : i < s.size) : nextOf s i = (nxR s i, (nxN s i : Int)) := by
  have hp := next_plain (s.size - i) (s.get! i).toNat (s.get! (i + 1)).toNat (s.get! (i + 2)).toNat (s.get! (i + 3)).toNat (by omega) (UInt8.toNat_lt _) (UInt8.toNat_lt _) (UInt8.toNat_lt _) (UInt8.toNat_lt _)
  rw [← Lib.decode_at] at hp
  have hR : (nxR s i, (nxN s i : Int)) = (if (Utf8.decode s i).1 = 65533 ∧ (Utf8.decode s i).2 = 1 then (0, 0) else (((Utf8.decode s i).1 : Int), ((Utf8.decode s i).2 : Int))) := by
    unfold nxR nxN; split <;> rfl
  rw [hR, ← hp]
  have hz : ((s.size - i : Nat) : Int) = (s.size : Int) - i := by omega
  have e1 : bat s ((i : Int) + 1) = _ := bat3 s i 1
  have e2 : bat s ((i : Int) + 2) = _ := bat3 s i 2
  have e3 : bat s ((i : Int) + 3) = _ := bat3 s i 3
  have e0 := bat_get s i
  have t2 : ∀ r, nextL 2 2 1 r s i = if bat s ((i : Int) + 1) < 128 ∨ bat s ((i : Int) + 1) > 191 then none else some (64 * r + bat s ((i : Int) + 1) - 128) := fun r => by
    rw [nextL_in (by decide)]; split
    · rfl
    · rw [nextL_out (by decide)]
  have t3 : ∀ r, nextL 3 3 1 r s i = if bat s ((i : Int) + 1) < 128 ∨ bat s ((i : Int) + 1) > 191 then none else if bat s ((i : Int) + 2) < 128 ∨ bat s ((i : Int) + 2) > 191 then none else some (64 * (64 * r + bat s ((i : Int) + 1) - 128) + bat s ((i : Int) + 2) - 128) := fun r => by
    rw [nextL_in (by decide)]; split
    · rfl
    · rw [nextL_in (by decide)]; simp only [Int.reduceAdd]; split
      · rfl
      · rw [nextL_out (by decide)]
  have t4 : ∀ r, nextL 4 4 1 r s i = if bat s ((i : Int) + 1) < 128 ∨ bat s ((i : Int) + 1) > 191 then none else if bat s ((i : Int) + 2) < 128 ∨ bat s ((i : Int) + 2) > 191 then none else if bat s ((i : Int) + 3) < 128 ∨ bat s ((i : Int) + 3) > 191 then none else some (64 * (64 * (64 * r + bat s ((i : Int) + 1) - 128) + bat s ((i : Int) + 2) - 128) + bat s ((i : Int) + 3) - 128) := fun r => by
    rw [nextL_in (by decide)]; split
    · rfl
    · rw [nextL_in (by decide)]; simp only [Int.reduceAdd]; split
      · rfl
      · rw [nextL_in (by decide)]; simp only [Int.reduceAdd]; split
        · rfl
        · rw [nextL_out (by decide)]
  unfold nextOf tailOf
  simp only [Int.cast_ofNat_Int]
  rw [t2, t3, t4]
  simp only [endOf_ite]
  rw [e0, e1, e2, e3, ← hz]
end Go.Mq
