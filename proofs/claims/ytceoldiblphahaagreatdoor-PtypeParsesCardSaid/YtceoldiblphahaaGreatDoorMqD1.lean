/- The law PtypeParses: the row, the card. -/
import Derived.Test.YtceoldiblphahaaGreatDoorMqC1
import Derived.Test.YtceoldiblphahaaGreatDoorCards
import Derived.Test.YtceoldiblphahaaGreatDoorTie
set_option linter.unusedVariables false
set_option linter.unusedSimpArgs false
set_option maxRecDepth 100000
namespace Go.Proofs.YtceoldiblphahaaGreatDoor.ptypeParses
open Go.Mq
open Go.ChangeShapes Go.WideShapes Go.ChangeAt Go.RowKit Go.Lib Go.Deep
open Go.ChangeMaps (open_string shut_string)

theorem max_le : maxLen ≤ 9223372036854775807 := by unfold maxLen; decide
/-- The tokens, as a slice's cells. -/
theorem rep_toks {W : World} {b o len cap : Nat} {l : List Mq.Tok} (hl : l.length = len) (hc : len ≤ cap) (h : ∀ i t, l[i]? = some t → TokAt W b (o + i * 4) t) : Rep ((owns []).or fun _ _ => False) W (.slice (some ⟨b, o, none⟩) len cap) (.slc (toks l) len) := by
  have hget : ∀ (j : Nat) (x : PV), (toks l)[j]? = some x → ∃ v, W.cell? ⟨b, o + j, none⟩ = some v ∧ Rep ((owns []).or fun _ _ => False) W v x := by
    clear hc hl
    induction l generalizing o with
    | nil => intro j x hx; simp [toks] at hx
    | cons t l ih =>
      intro j x hx
      have h0 := h 0 t rfl
      simp only [toks, Tok.cells, List.cons_append, List.nil_append, Nat.zero_mul, Nat.add_zero] at hx h0
      match j, hx with
      | 0, hx => cases hx; exact ⟨_, h0.c0, .int _ _⟩
      | 1, hx => cases hx; exact ⟨_, h0.c1, .str _⟩
      | 2, hx => cases hx; exact ⟨_, h0.c2, .int _ _⟩
      | 3, hx => cases hx; exact ⟨_, h0.c3, .int _ _⟩
      | j + 4, hx =>
        have hx' : (toks l)[j]? = some x := hx
        obtain ⟨v, h1, h2⟩ := ih (o := o + 4) (fun i t ht => by
          have := h (i + 1) t (by simpa using ht)
          rw [show o + (i + 1) * 4 = o + 4 + i * 4 by omega] at this; exact this) j x hx'
        exact ⟨v, by rw [show o + (j + 4) = o + 4 + j by omega]; exact h1, h2⟩
  refine .slc (fun j => (W.cell? ⟨b, o + j, none⟩).getD default) hc (fun j hj => ?_) (fun j _ hw => ?_) (fun j x hx => ?_)
  · obtain ⟨v, h1, _⟩ := hget j _ (List.getElem?_eq_getElem hj)
    rw [h1]; rfl
  · exact hw.elim (fun h => owns_nil _ _ h) id
  · obtain ⟨v, h1, h2⟩ := hget j x hx
    rw [h1]; exact h2

theorem contract (H : Type) (enc : TypeId × Value → H) (W : World) (base : Nat) (args : Array Value) (ds gs : List (DataW H)) (before : List MemPlace)
    (hval : ∀ (j : Nat) t v, Tryz.f4.params[j]? = some t → args[j]? = some v → Value.okWide Tryz.prog W .any base t v)
    (hW : DataW.Whole enc Tryz.prog Tryz.f4.params.toList Rows.ptypeParsesSpec.vars false W args.toList ds gs before) (hL : laidMetH Tryz.prog Rows.ptypeParsesRow.laid W) (hsh : W.ShapedOpen Tryz.prog) :
    Calls Tryz.prog 4 args W fun e W' => ∃ v, e = .returned v ∧ Rows.ptypeParsesSpec.post enc Tryz.prog Tryz.f4 false true false false W args v W' := by
  have hW' := hW
  obtain ⟨p, q, hA0, hV, rfl, hfz, hnd⟩ := hW
  have hA : DataW.TrodAll enc Tryz.prog W 0 (fun _ => true) true Tryz.f4.params.toList args.toList ds p := hA0
  rw [Tryz.params4] at hA hval
  obtain ⟨v0, v1, v2, d0, d1, d2, p0, p1, p2, rfl, rfl, rfl, h0, h1, h2⟩ := trodAll_three hA
  obtain ⟨rfl, rfl⟩ := trodVars_none hV
  obtain ⟨i, rfl, rfl, rfl, wi⟩ := open_int Tryz.underlying3 (hval 1 3 v1 rfl rfl) h1
  obtain ⟨x, rfl, rfl, rfl, wx⟩ := open_string Tryz.underlying9 (hval 2 9 v2 rfl rfl) h2
  obtain ⟨a0, len, cap, rfl⟩ := okWide_slice Tryz.underlying36 (hval 0 36 v0 rfl rfl)
  clear hA0 hA
  simp only [List.append_nil] at hW'
  have hlt : ∀ x ∈ p0, x.block < W.heap.size := fun x hx => by simpa using hW'.lt x (by simpa using hx)
  have h0k := h0
  obtain ⟨fuel, hf⟩ := h0
  obtain ⟨l, hll, hcap, hcm, htx, hat⟩ := open_toks hf
  have hc := parses_ok l i x (by rw [hll]; exact Nat.le_trans hcap (Nat.le_trans hcm max_le)) (fun t ht => Nat.le_trans (htx t ht) max_le)
  have hr : RepL ((owns []).or fun _ _ => False) W [.slice a0 len cap, .int .i64 i, .string x] [.slc (toks l) l.length, .int .i64 i, .str x] := by
    refine RepL.cons ?_ (RepL.cons (.int _ _) (RepL.cons (.str _) RepL.nil))
    rw [hll]
    rcases Nat.eq_zero_or_pos len with rfl | hpos
    · have : l = [] := List.eq_nil_of_length_eq_zero hll
      subst this
      have e : toks [] = [] := by simp [toks]
      rw [e]
      exact .slc0 _ _ _ hcap
    · obtain ⟨b, o, rfl, ht⟩ := hat hpos
      exact rep_toks hll hcap ht
  refine (hc.2 (fun _ _ => False) W _ (sep_nil hL hsh) hr).mono ?_
  rintro e W2 ⟨v, r, σ', rfl, ⟨rfl, rfl⟩, hS, hR, hT⟩
  obtain rfl := rep_bool hR
  have bel : Below W.heap.size W W2 := ⟨hT.os, hT.tape, hT.output, hT.size, fun k hk => hT.block k hk (fun j => owns_nil k j)⟩
  refine ⟨_, rfl, _, _, _, [], p0, [], hW', ?_, ?_, rfl, bel.frame _, fun h => by cases h⟩
  · exact trodAll_mk1 (shut_bool Tryz.underlying4 _)
  · have e1 : Rows.ptypeParsesSpec.fn H ([d0, .lit (.int .i64 i), .lit (.string x.data.toList)] ++ []) = { results := [.lit (.bool true)], args := [d0, .lit (.int .i64 i), .lit (.string x.data.toList)] } := rfl
    rw [e1]
    have ha := trodAll_mk3 (Below.trod laidOut (by kernel_rfl) (of_decide_eq_true (by kernel_rfl)) h0k bel hlt) (shut_int (w := W2) (base := 0) (spare := fun b => decide (b < W.heap.size)) (held := true) (enc := enc) Tryz.underlying3 wi) (shut_string (w := W2) (base := 0) (sp := fun b => decide (b < W.heap.size)) (held := true) (enc := enc) Tryz.underlying9 wx)
    simpa using ha

/-- A WORLD FOR THE WITNESS: the settled one, the two tables holding what their initialisers lay. -/
noncomputable def laidWorld (os : Os) : World :=
  let w0 := World.holding Tryz.prog os ⟨#[], #[], []⟩
  let put (h : Array Obj) (g : Nat) (cs : Array Value) : Array Obj := h.modify g fun
    | .cells _ t frozen => .cells cs t frozen
    | o => o
  let h1 := put w0.heap 0 (Lib.firstTab.map fun z => Value.int .u8 z).toArray
  let h2 := put h1 1 ((List.range 16).flatMap fun i => [Value.int .u8 (Lib.accLo i), Value.int .u8 (Lib.accHi i)]).toArray
  { w0 with heap := h2 }
def wargs : Array Value := #[.slice none 0 0, .int .i64 0, .string ⟨#[]⟩]
theorem laid_met (os : Os) : laidMet Tryz.prog Rows.ptypeParsesRow.laid ((laidWorld os).forCall (fun _ _ => 0) ⟨#[], wargs, []⟩).memory :=
  (LaidIn.of_run [1, 0] 8 (by kernel_rfl) (by kernel_rfl) (by kernel_rfl) (by kernel_rfl)).met
theorem reads (os : Os) {H : Type} (enc : TypeId × Value → H) : ∃ places, DataW.whole enc Tryz.prog ((laidWorld os).forCall (fun _ _ => 0) ⟨#[], wargs, []⟩).memory Tryz.f4.params.toList Rows.ptypeParsesSpec.vars false wargs.toList 8 = some ([.nil, .lit (.int .i64 0), .lit (.string [])], [], places) :=
  ⟨[], by kernel_rfl⟩
theorem lifted (os : Os) (started : os.Started) (H : Type) (enc : TypeId × Value → H) (F : Stop.Interp) :
    ReturnsInHanded {} Tryz.checked os 4 .any ((OpenSpec.ofChange Rows.ptypeParsesSpec).preRow enc Tryz.prog Tryz.f4 Rows.ptypeParsesRow.domain false Rows.ptypeParsesRow.laid) (((OpenSpec.ofChange Rows.ptypeParsesSpec).at F).post enc Tryz.prog Tryz.f4 false true false false) := by
  obtain ⟨places, hx⟩ := reads os enc
  refine returnsInHanded_of_row (C := Tryz.checked) (s := OpenSpec.ofChange Rows.ptypeParsesSpec) own started (by kernel_rfl) Tryz.func4
    (witness_row_atRef (enc := enc) (C := Tryz.checked) false (laidWorld os) wargs rfl (by kernel_rfl) (by kernel_rfl) (by kernel_rfl)
      (OpenSpec.preRow_of_cond 8 hx (by kernel_rfl) (fun k hk => by cases hk) (by kernel_rfl) (laid_met os))) ?_
  intro W base args ds gs before hval hW _ _ _ hL hsh _
  exact contract H enc W base args ds gs before hval hW hL hsh
theorem said : Rows.PtypeParsesSaid :=
  OpenClaim.holds_of_cond 4 Tryz.f4 rfl rfl rfl rfl rfl rfl rfl ⟨rfl, rfl, rfl, rfl, rfl⟩ rfl rfl rfl rfl rfl (by kernel_rfl) Tryz.func4 (by kernel_rfl)
    (of_decide_eq_true (by kernel_rfl)) (by unfold Func.isWrapper; first | (rw [if_pos (by decide +kernel)]; kernel_rfl) | (rw [if_neg (by decide +kernel)]; exact ⟨rfl, rfl⟩))
    (fun os started H enc _ F => by rw [OpenClaim.pre_eq_preRow]; exact lifted os started H enc F)
theorem plain (f : FuncId) (fn : Func) (hf : Tryz.pinned.checked.prog.funcNamed "marquetry/marquetrylaw06.PtypeParses" = some f) (hfn : Tryz.pinned.checked.prog.funcs[f]? = some fn) :
    false = Tryz.pinned.checked.prog.looks [] ∧ ∀ (j : Nat) t, fn.params[j]? = some t → Tryz.pinned.checked.prog.wantsStandIn t = false := by
  obtain rfl : f = 4 := Option.some.inj ((show Tryz.prog.funcNamed "marquetry/marquetrylaw06.PtypeParses" = some 4 by kernel_rfl).symm.trans hf) |>.symm
  obtain rfl : fn = Tryz.f4 := (Option.some.inj (Tryz.func4.symm.trans hfn)).symm
  refine ⟨by kernel_rfl, fun j t ht => ?_⟩
  rw [Tryz.params4] at ht
  have hm : t = 36 ∨ t = 3 ∨ t = 9 := by simpa using Array.mem_of_getElem? ht
  rcases hm with rfl | rfl | rfl
  · exact (show Tryz.prog.wantsStandIn 36 = false by kernel_rfl)
  · exact (show Tryz.prog.wantsStandIn 3 = false by kernel_rfl)
  · exact (show Tryz.prog.wantsStandIn 9 = false by kernel_rfl)
/-- The card. -/
theorem card : Rows.PtypeParsesCardSaid :=
  Claim7.holds_tied_plain_at .later [] _ _ _ _ said (fun _ h => by cases h) (by kernel_rfl) (fun _ h => by cases h) ptypeParses_row_tie rfl ⟨rfl, rfl⟩ (by kernel_rfl) rfl plain (by kernel_rfl)
#print axioms card
end Go.Proofs.YtceoldiblphahaaGreatDoor.ptypeParses
