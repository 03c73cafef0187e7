/- Plain: what the references' functions on names compute, and that they answer as the program's. No program in it. -/
import Derived.Test.YtceoldiblphahaaGreatDoorMqX
import Derived.Lib.ValidLaws
set_option linter.unusedVariables false
namespace Go.Mq

/-- The rune that begins at a byte; no bytes: none begins there. -/
def nxR (s : ByteArray) (i : Nat) : Int := if (Utf8.decode s i).1 = 65533 ∧ (Utf8.decode s i).2 = 1 then 0 else (Utf8.decode s i).1
def nxN (s : ByteArray) (i : Nat) : Nat := if (Utf8.decode s i).1 = 65533 ∧ (Utf8.decode s i).2 = 1 then 0 else (Utf8.decode s i).2
/-- A text's runes behind those that were found. -/
def decG : Nat → ByteArray → Nat → List Int → Option (List Int)
  | 0, _, _, out => some out
  | k + 1, s, i, out => if i < s.size then (if nxN s i = 0 then none else decG k s (i + nxN s i) (out ++ [nxR s i])) else some out
def runesG (s : ByteArray) : Option (List Int) := decG s.size s 0 []
def allG : List Int → Nat → Bool
  | [], _ => true
  | r :: l, i => if classF r ≠ 1 ∧ (i = 0 ∨ (classF r ≠ 2 ∧ r ≠ 39)) then false else allG l (i + 1)
def nameG (s : ByteArray) : Bool := match runesG s with
  | none => false
  | some l => if s.size < 1 ∨ s.size > 32 then false else allG l 0

/-- Valid from a byte on. -/
def validAt (s : ByteArray) (i : Nat) : Bool := Lib.validD (s.data.toList.drop i)
theorem validAt_out {s : ByteArray} {i : Nat} (h : ¬ i < s.size) : validAt s i = true := by
  unfold validAt
  rw [List.drop_eq_nil_of_le (by have : s.data.toList.length = s.size := by simp
                                 omega)]
  rfl
theorem validAt_in {s : ByteArray} {i : Nat} (h : i < s.size) : validAt s i = if (Utf8.decode s i).1 = 65533 ∧ (Utf8.decode s i).2 = 1 then false else validAt s (i + (Utf8.decode s i).2) := by
  have hl : s.data.toList.length = s.size := by simp
  unfold validAt
  have hne : s.data.toList.drop i ≠ [] := fun e => by
    have := congrArg List.length e
    simp only [List.length_drop, List.length_nil] at this; omega
  rw [Lib.validD_step _ hne, Lib.decodeL_drop, List.drop_drop]

theorem decG_names (s : ByteArray) : ∀ (k i j : Nat) (out : List Int), s.size ≤ i + k → (i = 0 ↔ j = 0) →
    (validAt s i = false → decG k s i out = none) ∧ (validAt s i = true → ∃ l, decG k s i out = some (out ++ l) ∧ allG l j = nameLoop k s i)
  | 0, i, j, out, h, hij => by
    have hv := validAt_out (s := s) (i := i) (by omega)
    exact ⟨fun h1 => absurd (hv.symm.trans h1) (by decide), fun _ => ⟨[], by simp [decG], rfl⟩⟩
  | k + 1, i, j, out, h, hij => by
    by_cases hi : i < s.size
    · have hw := Lib.decode_width_pos s i hi
      rw [validAt_in hi, decG, if_pos hi, nameLoop_in hi]
      by_cases hb : (Utf8.decode s i).1 = 65533 ∧ (Utf8.decode s i).2 = 1
      · simp only [nxN, if_pos hb, if_true]
        exact ⟨fun _ => trivial, fun h1 => absurd h1 (by decide)⟩
      · simp only [nxN, nxR, if_neg hb]
        rw [if_neg (by omega)]
        obtain ⟨h1, h2⟩ := decG_names s k (i + (Utf8.decode s i).2) (j + 1) (out ++ [((Utf8.decode s i).1 : Int)]) (by omega) (by omega)
        refine ⟨h1, fun hv => ?_⟩
        obtain ⟨l, e1, e2⟩ := h2 hv
        refine ⟨((Utf8.decode s i).1 : Int) :: l, by rw [e1]; simp, ?_⟩
        rw [allG, ← e2]
        unfold nameRune
        generalize ((Utf8.decode s i).1 : Int) = r
        by_cases c1 : classF r = 1
        · simp [c1]
        · by_cases c2 : classF r = 2
          · by_cases c3 : i = 0
            · have : j = 0 := hij.1 c3
              simp [c2, c3, this]
            · have : j ≠ 0 := fun e => c3 (hij.2 e)
              simp [c2, c3, this]
          · by_cases c3 : i = 0
            · have : j = 0 := hij.1 c3
              simp [c1, c2, c3, this]
            · have : j ≠ 0 := fun e => c3 (hij.2 e)
              by_cases c4 : r = 39 <;> simp [c1, c2, c3, c4, this]
    · have hv := validAt_out hi
      refine ⟨fun h1 => absurd (hv.symm.trans h1) (by decide), fun _ => ⟨[], by simp [decG, hi], ?_⟩⟩
      rw [nameLoop_out hi]; rfl
theorem nameG_eq (s : ByteArray) : nameG s = nameF s := by
  obtain ⟨h1, h2⟩ := decG_names s s.size 0 0 [] (by omega) Iff.rfl
  have hv : validAt s 0 = Lib.validD s.data.toList := by simp [validAt]
  have he : s = ⟨#[]⟩ ↔ s.size < 1 := by
    constructor
    · rintro rfl; decide
    · intro h
      have h0 : s.data.size = 0 := by have : s.data.size = s.size := rfl; omega
      have := Array.eq_empty_of_size_eq_zero h0
      cases s; simp only at this; rw [this]
  unfold nameG runesG nameF
  rw [hv] at h1 h2
  by_cases hd : Lib.validD s.data.toList = true
  · obtain ⟨l, e1, e2⟩ := h2 hd
    rw [e1]
    simp only [List.nil_append, hd, Bool.not_true, Bool.false_eq_true, or_false, e2, he]
    by_cases hs : s.size < 1 ∨ s.size > 32
    · rw [if_pos hs, if_pos (by omega)]
    · rw [if_neg hs, if_neg (by omega)]
  · have hd' : Lib.validD s.data.toList = false := by simpa using hd
    rw [h1 hd']
    simp [hd']

/-- A text cut at dots. -/
def dots : List UInt8 → List (List UInt8)
  | [] => [[]]
  | b :: l => if b = 46 then [] :: dots l else match dots l with
    | [] => [[b]]
    | p :: ps => (b :: p) :: ps
theorem dots_ne : ∀ l, dots l ≠ []
  | [] => by simp [dots]
  | b :: l => by
    unfold dots; split
    · simp
    · split <;> simp
theorem dots_app (a l : List UInt8) (h : ∀ b ∈ a, b ≠ 46) : ∀ p ps, dots l = p :: ps → dots (a ++ l) = (a ++ p) :: ps := by
  intro p ps hl
  induction a with
  | nil => exact hl
  | cons b a ih =>
    rw [List.cons_append, dots, if_neg (h b List.mem_cons_self), ih (fun b hb => h b (List.mem_cons_of_mem _ hb))]; rfl
theorem split_dots : ∀ (s : List UInt8), Lib.splitK [46] 0 (s.count 46) s = dots s
  | [] => rfl
  | b :: l => by
    have ih := split_dots l
    by_cases hb : b = 46
    · subst hb
      rw [List.count_cons_self, dots, if_pos rfl, ← ih, Lib.splitK]
      have hi : Lib.index ((46 : UInt8) :: l) [46] = 0 := by simp [Lib.index]
      rw [hi]; rfl
    · have hbf : ((46 : UInt8) == b) = false := by simpa using fun h => hb h.symm
      rw [List.count_cons_of_ne hb, dots, if_neg hb, ← ih]
      cases hk : l.count 46 with
      | zero => rfl
      | succ k =>
        have hm : Lib.index l [46] ≠ -1 := fun e => by
          have := Lib.count_miss e
          rw [Lib.count_one] at this; omega
        have hge := Lib.index_ge l [46]
        have hi : Lib.index (b :: l) [46] = Lib.index l [46] + 1 := by
          have hb' : ¬ (46 : UInt8) = b := fun h => hb h.symm
          simp [Lib.index, hb', hm]
        obtain ⟨i, hi2⟩ : ∃ i : Nat, Lib.index l [46] = i := ⟨(Lib.index l [46]).toNat, by omega⟩
        unfold Lib.splitK
        rw [hi, hi2]
        have e1 : ¬ (((i : Int) + 1 == -1) = true) := by simp; omega
        have e2 : ¬ (((i : Int) == -1) = true) := by simp
        rw [if_neg e1, if_neg e2]
        have e3 : ((i : Int) + 1).toNat = i + 1 := by omega
        simp [e3, List.take_succ_cons, List.drop_succ_cons]
theorem split_one (s : ByteArray) : (splitF s).map (·.data.toList) = dots s.data.toList := by
  unfold splitF
  rw [Lib.splitB_data]
  show Lib.splitK [46] 0 (Lib.count s.data.toList [46]) s.data.toList = _
  rw [Lib.count_one, split_dots]

/-- The reference's cut. -/
def piecesL : Nat → ByteArray → Nat → Nat → List ByteArray → List ByteArray
  | 0, s, i, from_, out => out ++ [s.extract from_ s.size]
  | k + 1, s, i, from_, out => if i < s.size then (if byteAt s i = 46 then piecesL k s (i + 1) (i + 1) (out ++ [s.extract from_ i]) else piecesL k s (i + 1) from_ out) else out ++ [s.extract from_ s.size]
def piecesG (s : ByteArray) : List ByteArray := piecesL s.size s 0 0 []
theorem extract_list (s : ByteArray) (a b : Nat) : (s.extract a b).data.toList = (s.data.toList.take b).drop a := by
  rw [Lib.extract_data]; simp [List.drop_take]
theorem byteAt_get (s : ByteArray) (i : Nat) (h : i < s.data.toList.length) : byteAt s i = ((s.data.toList[i]).toNat : Int) := by
  unfold byteAt; rw [List.getD_eq_getElem?_getD, List.getElem?_eq_getElem h]; rfl
theorem piecesL_dots (s : ByteArray) : ∀ (k i from_ : Nat) (out : List ByteArray), s.size ≤ i + k → i ≤ s.size → from_ ≤ i → (∀ b ∈ (s.data.toList.take i).drop from_, b ≠ 46) →
    (piecesL k s i from_ out).map (·.data.toList) = out.map (·.data.toList) ++ dots (s.data.toList.drop from_)
  | 0, i, from_, out, h, hi, hf, hb => by
    have hl : s.data.toList.length = s.size := by simp
    have e : s.size = i := by omega
    have h1 := dots_app ((s.data.toList.take i).drop from_) [] hb [] [] rfl
    rw [List.append_nil, List.take_of_length_le (by omega)] at h1
    rw [h1]
    simp [piecesL]
    exact List.take_of_length_le (by simp)
  | k + 1, i, from_, out, h, hi, hf, hb => by
    have hl : s.data.toList.length = s.size := by simp
    rw [piecesL]
    by_cases hlt : i < s.size
    · rw [if_pos hlt]
      have hb0 := byteAt_get s i (by omega)
      have ht : s.data.toList.take (i + 1) = s.data.toList.take i ++ [s.data.toList[i]'(by omega)] := (List.take_append_getElem (by omega)).symm
      have hd : s.data.toList.drop from_ = (s.data.toList.take i).drop from_ ++ (s.data.toList[i]'(by omega)) :: s.data.toList.drop (i + 1) := by
        conv => lhs; rw [← List.take_append_drop i s.data.toList, List.drop_append_of_le_length (by rw [List.length_take]; omega), List.drop_eq_getElem_cons (show i < s.data.toList.length by omega)]
      by_cases hc : byteAt s i = 46
      · rw [if_pos hc, piecesL_dots s k (i + 1) (i + 1) _ (by omega) (by omega) (Nat.le_refl _) (by simp)]
        have h46 : s.data.toList[i]'(by omega) = 46 := by
          rw [hb0] at hc
          have hc' : (s.data.toList[i]'(by omega)).toNat = 46 := by omega
          exact UInt8.toNat_inj.1 hc'
        rw [h46] at hd
        have h1 := dots_app ((s.data.toList.take i).drop from_) (46 :: s.data.toList.drop (i + 1)) hb [] _ (by rw [dots, if_pos rfl])
        rw [hd, h1]
        simp [List.drop_take]
      · rw [if_neg hc, piecesL_dots s k (i + 1) from_ out (by omega) (by omega) (by omega) (fun b hbm => ?_)]
        rw [ht, List.drop_append_of_le_length (by rw [List.length_take]; omega)] at hbm
        rcases List.mem_append.1 hbm with h1 | h1
        · exact hb b h1
        · simp only [List.mem_singleton] at h1
          subst h1
          intro h46
          rw [hb0, h46] at hc
          exact hc rfl
    · rw [if_neg hlt]
      have e : s.size = i := by omega
      have h1 := dots_app ((s.data.toList.take i).drop from_) [] hb [] [] rfl
      rw [List.append_nil, List.take_of_length_le (by omega)] at h1
      rw [h1]
      simp
      exact List.take_of_length_le (by simp)
theorem data_inj {a b : List ByteArray} (h : a.map (·.data.toList) = b.map (·.data.toList)) : a = b := by
  refine List.map_inj_right (fun x y hxy => ?_) |>.1 h
  cases x; cases y; simp only at hxy; exact congrArg _ (Array.ext' hxy)
theorem pieces_split (s : ByteArray) : piecesG s = splitF s := by
  apply data_inj
  rw [split_one, piecesG, piecesL_dots s s.size 0 0 [] (by omega) (by omega) (Nat.le_refl _) (by simp)]
  simp
theorem longG_eq (s : ByteArray) : longF s = decide ((s.size : Int) ≤ 128 ∧ (piecesG s).all checkF = true) := by
  unfold longF; rw [pieces_split, not_any_not]
end Go.Mq
