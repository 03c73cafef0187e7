/- Contracts of package lexer: a text. -/
import Derived.Test.YtceoldiblphahaaGreatDoorMqL3
set_option linter.unusedVariables false
set_option linter.unusedSimpArgs false
set_option linter.unusedSectionVars false
namespace Go.Proofs.YtceoldiblphahaaGreatDoor
open Go.Mq
attribute [local irreducible] Ex ExOps QSeq QBlock QLoop QRet OpOk Callable DEx DRd Melt Wk Tree.pv pvs toks opv strs

attribute [local irreducible] classF nameF wordF checkF Utf8.decode bat spanL spanF innerF blankF digitF prefF commentL commentF byteAt longL longT partF firstF signL tokenF badRune runesL runesF lexL lexF numAt
set_option maxHeartbeats 4000000

def lexPV (r : List Tok × Nat × Int) : PV := if r.2.2 = 0 then .tup [.slc (toks r.1) r.1.length, .int .i64 r.2.1, .int .i64 r.2.2] else .tup [.nils, .int .i64 r.2.1, .int .i64 r.2.2]
theorem lexL_in {num : ByteArray → Tok × Int × Bool} {k : Nat} {s : ByteArray} {a : Nat} {l : List Tok} (h : a < s.size) : lexL num (k + 1) s a l =
      (if 0 < spanF blankF (s.extract a s.size) then lexL num k s (a + spanF blankF (s.extract a s.size)) l
      else if prefF (s.extract a s.size) b_po = true then
        (if commentF (s.extract a s.size) = 0 then ([], a, 5) else lexL num k s (a + commentF (s.extract a s.size)) l)
      else if (tokenF num (s.extract a s.size)).2.2 = true then lexL num k s (a + (tokenF num (s.extract a s.size)).2.1.toNat) (l ++ [⟨(tokenF num (s.extract a s.size)).1.kind, (tokenF num (s.extract a s.size)).1.text, (tokenF num (s.extract a s.size)).1.n, a⟩])
      else ([], a, 5)) := by rw [lexL, if_pos h]
theorem lexL_out {num : ByteArray → Tok × Int × Bool} {k : Nat} {s : ByteArray} {a : Nat} {l : List Tok} (h : ¬ a < s.size) : lexL num (k + 1) s a l = (l, 0, 0) := by rw [lexL, if_neg h]
theorem lex_ok (num : ByteArray → Tok × Int × Bool) (s0 : ByteArray) (hn : ∀ a, a < s0.size → NumOk num (s0.extract a s0.size)) : Callable Tryz.prog 28 [.str s0] [] (Ret (lexPV (lexF num s0)) []) := by
  have hck := rcheckrunes_ok s0
  by_cases he : (runesF s0).2 = 0
  · have e : lexF num s0 = lexL num (s0.size + 1) s0 0 [] := by unfold lexF; rw [if_neg (fun h => h he)]
    have hsz : s0.size ≤ 16384 := by
      by_cases h : s0.size ≤ 16384
      · exact h
      · exfalso
        have : runesF s0 = (0, 3) := by unfold runesF; rw [if_pos (by omega)]
        rw [this] at he; exact absurd he (by decide)
    have hat : (runesF s0).1 = 0 := by
      have : ∀ k i, (runesL k s0 i).2 = 0 → (runesL k s0 i).1 = 0 := by
        intro k
        induction k with
        | zero => intro i _; unfold runesL; rfl
        | succ k ih =>
          intro i h
          unfold runesL at h ⊢
          split at h
          · split at h
            · simp at h
            · rename_i h1 h2; rw [if_pos h1, if_neg h2]; exact ih _ h
          · rename_i h1; rw [if_neg h1]
      unfold runesF at he ⊢
      split at he
      · exact absurd he (by decide)
      · rename_i h1; rw [if_neg h1]; exact this _ _ he
    rw [he, hat] at hck
    rw [e]
    refine Callable.of_ex tOk [.tmp 2, .tmp 3, .tmp 4] Tryz.func28 rfl rfl rfl (Nat.le_of_ble_eq_true rfl) ?_
    repeat' (first
      | (refine Ex.g ?_; first | refine Ex.seq ?_ | refine Ex.region ?_ | refine Ex.skip ?_ | refine Ex.ret ?_ | refine Ex.exit ?_ | refine Ex.block ?_ | (refine Ex.gCond ?_; first | refine Ex.condT rfl ?_ | refine Ex.condF rfl ?_ | refine Ex.condD rfl (fun hc => ?_) (fun hc => ?_) | refine Ex.condN rfl (fun hc => ?_) (fun hc => ?_) | refine Ex.cond rfl (fun hc => ?_) (fun hc => ?_)))
      | refine ExOps.nil ?_
      | (refine ExOps.gPC ?_; first | refine ExOps.opR (OpOk.len tOk rfl rfl rfl) rfl ?_ | refine ExOps.opR (.cp rfl rfl rfl (h := hck)) rfl ?_)
      | (refine ExOps.gP ?_; first | (refine ExOps.gB ?_; refine ExOps.calcE tOk rfl rfl (by conv => lhs; simp [pev, upd, PV.cells, argSlots]) ?_) | refine ExOps.calcE tOk rfl rfl (by conv => lhs; whnf) ?_)
      | (refine QSeq.g ?_; first | refine QSeq.norm ?_ | refine QSeq.ret ?_ | refine QSeq.exit ?_)
      | (refine QBlock.g ?_; first | refine QBlock.norm ?_ | refine QBlock.ret ?_ | refine QBlock.hit rfl ?_ | refine QBlock.miss rfl ?_)
      | (refine QLoop.g ?_; first | refine QLoop.ret ?_ | refine QLoop.exit ?_)
      | (refine QRet.g ?_; (first | ((first | refine QRet.end_ (.cons (.tmpE (by conv => lhs; whnf)) (.cons (.tmpE (by conv => lhs; whnf)) (.cons (.tmpE (by conv => lhs; whnf)) .nil))) ?_ | refine QRet.endN (.cons (.tmpE (by conv => lhs; whnf)) (.cons (.tmpE (by conv => lhs; whnf)) (.cons (.tmpE (by conv => lhs; whnf)) .nil))) ?_); try (focus first | rfl | (simp_all [packP]; done))) | ((first | refine QRet.same (.cons (.tmpE (by conv => lhs; whnf)) (.cons (.tmpE (by conv => lhs; whnf)) (.cons (.tmpE (by conv => lhs; whnf)) .nil))) ?_ ?_ | refine QRet.sameN (.cons (.tmpE (by conv => lhs; whnf)) (.cons (.tmpE (by conv => lhs; whnf)) (.cons (.tmpE (by conv => lhs; whnf)) .nil))) ?_ ?_); try (rotate_left; (focus first | rfl | (simp_all [packP]; done)); try (focus first | rfl | (simp_all [packP]; done))))))
      | fail)
    refine Ex.loop (fun m s σ => ∃ a : Nat, ∃ l : List Tok, ∃ q : PV, ∃ sp : List Ent, ∃ g : List Ent, ∃ gg : List Ent, (lexL num (s0.size + 1) s0 0 [] = lexL num m s0 a l) ∧ ((q = .nils ∧ sp = [] ∧ l = []) ∨ (∃ v, q = .own v (toks l) l.length ∧ sp = [.spare v 4])) ∧ ((s0.size + 1 ≤ a + m ∧ a ≤ s0.size) ∧ l.length ≤ a) ∧ s 0 = .str s0 ∧ s 2 = q ∧ s 3 = .int .i64 a ∧ σ = g ++ (sp ++ gg)) (s0.size + 1) ⟨0, [], .nils, [], [], [], (by first | rfl | assumption | omega | exact slot_check rfl | (simp; done) | (simp; omega) | fail), (by first | rfl | assumption | omega | exact slot_check rfl | (simp; done) | (simp; omega) | fail), (by first | rfl | assumption | omega | exact slot_check rfl | (simp; done) | (simp; omega) | fail), (by first | rfl | assumption | omega | exact slot_check rfl | (simp; done) | (simp; omega) | fail), (by first | rfl | assumption | omega | exact slot_check rfl | (simp; done) | (simp; omega) | fail), (by first | rfl | assumption | omega | exact slot_check rfl | (simp; done) | (simp; omega) | fail), rfl⟩ ?_
    rintro m s σ ⟨a, l, q, sp, g, gg, hi0, hi1, hi2, h0, h2, h3, rfl⟩
    refine (Ex.have_ (t := 0) h0 (Ex.have_ (t := 2) h2 (Ex.have_ (t := 3) h3 ?_)))
    obtain ⟨⟨g1, g2⟩, g3⟩ := hi2
    obtain ⟨m, rfl⟩ : ∃ k, m = k + 1 := ⟨m - 1, by omega⟩
    by_cases ha : a < s0.size
    · have hse : (s0.extract a s0.size).size = s0.size - a := by rw [ByteArray.size_extract]; omega
      have hna := hn a ha
      rw [lexL_in ha] at hi0
      have hsp := span_ok (s0.extract a s0.size) 49 blankF (by omega) blank_ok
      have hle := spanF_le blankF (s0.extract a s0.size)
      have hcle := commentF_le (s0.extract a s0.size)
      have hpo := sprefix_ok (s0.extract a s0.size) b_po
      have hcm := comment_ok (s0.extract a s0.size) (by omega)
      have htk := token_ok num (s0.extract a s0.size) (by omega) (by omega) hna
      have htr := tokenF_range num (s := s0.extract a s0.size) (by omega) hna.range
      by_cases c1 : 0 < spanF blankF (s0.extract a s0.size)
      · rw [if_pos c1] at hi0
        rcases hi1 with ⟨rfl, rfl, rfl⟩ | ⟨v, rfl, rfl⟩
        · repeat' (first
            | (refine Ex.g ?_; first | refine Ex.seq ?_ | refine Ex.region ?_ | refine Ex.skip ?_ | refine Ex.ret ?_ | refine Ex.exit ?_ | refine Ex.block ?_ | (refine Ex.gCond ?_; first | refine Ex.condT rfl ?_ | refine Ex.condF rfl ?_ | refine Ex.condD rfl (fun hc => ?_) (fun hc => ?_) | refine Ex.condN rfl (fun hc => ?_) (fun hc => ?_) | refine Ex.cond rfl (fun hc => ?_) (fun hc => ?_)))
            | refine ExOps.nil ?_
            | (refine ExOps.gPC ?_; first | refine ExOps.opR (OpOk.len tOk rfl rfl rfl) rfl ?_ | refine ExOps.opR (.cp rfl rfl rfl (h := hsp)) rfl ?_)
            | (refine ExOps.gP ?_; first | (refine ExOps.gBin ?_; refine ExOps.calcE tOk rfl rfl (by first | exact eqT (by omega) | exact eqF (by omega) | fail) ?_) | (refine ExOps.gBin ?_; refine ExOps.calcE tOk rfl rfl (by first | exact eqT rfl | exact eqF (fun h => h rfl) | exact beqT _ | exact wrapB _ _ | exact wrapE (by omega) (by omega) | exact wrapE32 (by omega) (by omega) | fail) ?_) | (refine ExOps.gB ?_; refine ExOps.calcE tOk rfl rfl (by conv => lhs; simp [pev, upd, PV.cells, argSlots]) ?_) | refine ExOps.calcE tOk rfl rfl (by conv => lhs; whnf) ?_ | refine ExOps.opR (OpOk.sliceSL tOk rfl rfl rfl rfl rfl (by omega)) rfl ?_)
            | (refine QSeq.g ?_; first | refine QSeq.norm ?_ | refine QSeq.ret ?_ | refine QSeq.exit ?_)
            | (refine QBlock.g ?_; first | refine QBlock.norm ?_ | refine QBlock.ret ?_ | refine QBlock.hit rfl ?_ | refine QBlock.miss rfl ?_)
            | (refine QLoop.g ?_; first | refine QLoop.ret ?_ | refine QLoop.exit ?_)
            | (refine QRet.g ?_; (first | ((first | refine QRet.end_ (.cons (.tmpE (by conv => lhs; whnf)) (.cons (.tmpE (by conv => lhs; whnf)) (.cons (.tmpE (by conv => lhs; whnf)) .nil))) ?_ | refine QRet.endN (.cons (.tmpE (by conv => lhs; whnf)) (.cons (.tmpE (by conv => lhs; whnf)) (.cons (.tmpE (by conv => lhs; whnf)) .nil))) ?_); try (focus first | rfl | (simp_all [packP]; done))) | ((first | refine QRet.same (.cons (.tmpE (by conv => lhs; whnf)) (.cons (.tmpE (by conv => lhs; whnf)) (.cons (.tmpE (by conv => lhs; whnf)) .nil))) ?_ ?_ | refine QRet.sameN (.cons (.tmpE (by conv => lhs; whnf)) (.cons (.tmpE (by conv => lhs; whnf)) (.cons (.tmpE (by conv => lhs; whnf)) .nil))) ?_ ?_); try (rotate_left; (focus first | rfl | (simp_all [packP]; done)); try (focus first | rfl | (simp_all [packP]; done))))))
            | fail)
          all_goals first | (exfalso; omega) | skip
          exact QLoop.next m (by omega) ⟨a + spanF blankF (s0.extract a s0.size), [], .nils, [], g, gg, hi0, .inl ⟨rfl, rfl, rfl⟩, ⟨⟨by omega, by omega⟩, by simp⟩, rfl, rfl, rfl, rfl⟩
        · repeat' (first
            | (refine Ex.g ?_; first | refine Ex.seq ?_ | refine Ex.region ?_ | refine Ex.skip ?_ | refine Ex.ret ?_ | refine Ex.exit ?_ | refine Ex.block ?_ | (refine Ex.gCond ?_; first | refine Ex.condT rfl ?_ | refine Ex.condF rfl ?_ | refine Ex.condD rfl (fun hc => ?_) (fun hc => ?_) | refine Ex.condN rfl (fun hc => ?_) (fun hc => ?_) | refine Ex.cond rfl (fun hc => ?_) (fun hc => ?_)))
            | refine ExOps.nil ?_
            | (refine ExOps.gPC ?_; first | refine ExOps.opR (OpOk.len tOk rfl rfl rfl) rfl ?_ | refine ExOps.opR (.cp rfl rfl rfl (h := hsp)) rfl ?_)
            | (refine ExOps.gP ?_; first | (refine ExOps.gBin ?_; refine ExOps.calcE tOk rfl rfl (by first | exact eqT (by omega) | exact eqF (by omega) | fail) ?_) | (refine ExOps.gBin ?_; refine ExOps.calcE tOk rfl rfl (by first | exact eqT rfl | exact eqF (fun h => h rfl) | exact beqT _ | exact wrapB _ _ | exact wrapE (by omega) (by omega) | exact wrapE32 (by omega) (by omega) | fail) ?_) | (refine ExOps.gB ?_; refine ExOps.calcE tOk rfl rfl (by conv => lhs; simp [pev, upd, PV.cells, argSlots]) ?_) | refine ExOps.calcE tOk rfl rfl (by conv => lhs; whnf) ?_ | refine ExOps.opR (OpOk.sliceSL tOk rfl rfl rfl rfl rfl (by omega)) rfl ?_)
            | (refine QSeq.g ?_; first | refine QSeq.norm ?_ | refine QSeq.ret ?_ | refine QSeq.exit ?_)
            | (refine QBlock.g ?_; first | refine QBlock.norm ?_ | refine QBlock.ret ?_ | refine QBlock.hit rfl ?_ | refine QBlock.miss rfl ?_)
            | (refine QLoop.g ?_; first | refine QLoop.ret ?_ | refine QLoop.exit ?_)
            | (refine QRet.g ?_; (first | ((first | refine QRet.end_ (.cons (.tmpE (by conv => lhs; whnf)) (.cons (.tmpE (by conv => lhs; whnf)) (.cons (.tmpE (by conv => lhs; whnf)) .nil))) ?_ | refine QRet.endN (.cons (.tmpE (by conv => lhs; whnf)) (.cons (.tmpE (by conv => lhs; whnf)) (.cons (.tmpE (by conv => lhs; whnf)) .nil))) ?_); try (focus first | rfl | (simp_all [packP]; done))) | ((first | refine QRet.same (.cons (.tmpE (by conv => lhs; whnf)) (.cons (.tmpE (by conv => lhs; whnf)) (.cons (.tmpE (by conv => lhs; whnf)) .nil))) ?_ ?_ | refine QRet.sameN (.cons (.tmpE (by conv => lhs; whnf)) (.cons (.tmpE (by conv => lhs; whnf)) (.cons (.tmpE (by conv => lhs; whnf)) .nil))) ?_ ?_); try (rotate_left; (focus first | rfl | (simp_all [packP]; done)); try (focus first | rfl | (simp_all [packP]; done))))))
            | fail)
          all_goals first | (exfalso; omega) | skip
          exact QLoop.next m (by omega) ⟨a + spanF blankF (s0.extract a s0.size), l, _, [.spare v 4], g, gg, hi0, .inr ⟨v, rfl, rfl⟩, ⟨⟨by omega, by omega⟩, by omega⟩, rfl, rfl, rfl, rfl⟩
      · rw [if_neg c1] at hi0
        have hs0 : spanF blankF (s0.extract a s0.size) = 0 := by omega
        rw [hs0] at hsp
        by_cases c2 : prefF (s0.extract a s0.size) b_po = true
        · rw [if_pos c2] at hi0
          rw [c2] at hpo
          by_cases c3 : commentF (s0.extract a s0.size) = 0
          · rw [if_pos c3] at hi0
            rw [c3] at hcm
            rw [hi0]
            rcases hi1 with ⟨rfl, rfl, rfl⟩ | ⟨v, rfl, rfl⟩
            all_goals
              repeat' (first
                | (refine Ex.g ?_; first | refine Ex.seq ?_ | refine Ex.region ?_ | refine Ex.skip ?_ | refine Ex.ret ?_ | refine Ex.exit ?_ | refine Ex.block ?_ | (refine Ex.gCond ?_; first | refine Ex.condT rfl ?_ | refine Ex.condF rfl ?_ | refine Ex.condD rfl (fun hc => ?_) (fun hc => ?_) | refine Ex.condN rfl (fun hc => ?_) (fun hc => ?_) | refine Ex.cond rfl (fun hc => ?_) (fun hc => ?_)))
                | refine ExOps.nil ?_
                | (refine ExOps.gPC ?_; first | refine ExOps.opR (OpOk.len tOk rfl rfl rfl) rfl ?_ | refine ExOps.opR (.cp rfl rfl rfl (h := hsp)) rfl ?_ | refine ExOps.opR (.cp rfl rfl rfl (h := hpo)) rfl ?_ | refine ExOps.opR (.cp rfl rfl rfl (h := hcm)) rfl ?_)
                | (refine ExOps.gP ?_; first | (refine ExOps.gBin ?_; refine ExOps.calcE tOk rfl rfl (by first | exact eqT (by omega) | exact eqF (by omega) | fail) ?_) | (refine ExOps.gBin ?_; refine ExOps.calcE tOk rfl rfl (by first | exact eqT rfl | exact eqF (fun h => h rfl) | exact beqT _ | exact wrapB _ _ | exact wrapE (by omega) (by omega) | exact wrapE32 (by omega) (by omega) | fail) ?_) | (refine ExOps.gB ?_; refine ExOps.calcE tOk rfl rfl (by conv => lhs; simp [pev, upd, PV.cells, argSlots]) ?_) | refine ExOps.calcE tOk rfl rfl (by conv => lhs; whnf) ?_ | refine ExOps.opR (OpOk.sliceSL tOk rfl rfl rfl rfl rfl (by omega)) rfl ?_)
                | (refine QSeq.g ?_; first | refine QSeq.norm ?_ | refine QSeq.ret ?_ | refine QSeq.exit ?_)
                | (refine QBlock.g ?_; first | refine QBlock.norm ?_ | refine QBlock.ret ?_ | refine QBlock.hit rfl ?_ | refine QBlock.miss rfl ?_)
                | (refine QLoop.g ?_; first | refine QLoop.ret ?_ | refine QLoop.exit ?_)
                | (refine QRet.g ?_; (first | ((first | refine QRet.end_ (.cons (.tmpE (by conv => lhs; whnf)) (.cons (.tmpE (by conv => lhs; whnf)) (.cons (.tmpE (by conv => lhs; whnf)) .nil))) ?_ | refine QRet.endN (.cons (.tmpE (by conv => lhs; whnf)) (.cons (.tmpE (by conv => lhs; whnf)) (.cons (.tmpE (by conv => lhs; whnf)) .nil))) ?_); try (focus first | rfl | (rfl; done))) | ((first | refine QRet.same (.cons (.tmpE (by conv => lhs; whnf)) (.cons (.tmpE (by conv => lhs; whnf)) (.cons (.tmpE (by conv => lhs; whnf)) .nil))) ?_ ?_ | refine QRet.sameN (.cons (.tmpE (by conv => lhs; whnf)) (.cons (.tmpE (by conv => lhs; whnf)) (.cons (.tmpE (by conv => lhs; whnf)) .nil))) ?_ ?_); try (rotate_left; (focus first | rfl | (rfl; done)); try (focus first | rfl | (rfl; done))))))
                | fail)
            all_goals first | (exfalso; omega) | skip
          · rw [if_neg c3] at hi0
            rcases hi1 with ⟨rfl, rfl, rfl⟩ | ⟨v, rfl, rfl⟩
            · repeat' (first
                | (refine Ex.g ?_; first | refine Ex.seq ?_ | refine Ex.region ?_ | refine Ex.skip ?_ | refine Ex.ret ?_ | refine Ex.exit ?_ | refine Ex.block ?_ | (refine Ex.gCond ?_; first | refine Ex.condT rfl ?_ | refine Ex.condF rfl ?_ | refine Ex.condD rfl (fun hc => ?_) (fun hc => ?_) | refine Ex.condN rfl (fun hc => ?_) (fun hc => ?_) | refine Ex.cond rfl (fun hc => ?_) (fun hc => ?_)))
                | refine ExOps.nil ?_
                | (refine ExOps.gPC ?_; first | refine ExOps.opR (OpOk.len tOk rfl rfl rfl) rfl ?_ | refine ExOps.opR (.cp rfl rfl rfl (h := hsp)) rfl ?_ | refine ExOps.opR (.cp rfl rfl rfl (h := hpo)) rfl ?_ | refine ExOps.opR (.cp rfl rfl rfl (h := hcm)) rfl ?_)
                | (refine ExOps.gP ?_; first | (refine ExOps.gBin ?_; refine ExOps.calcE tOk rfl rfl (by first | exact eqT (by omega) | exact eqF (by omega) | fail) ?_) | (refine ExOps.gBin ?_; refine ExOps.calcE tOk rfl rfl (by first | exact eqT rfl | exact eqF (fun h => h rfl) | exact beqT _ | exact wrapB _ _ | exact wrapE (by omega) (by omega) | exact wrapE32 (by omega) (by omega) | fail) ?_) | (refine ExOps.gB ?_; refine ExOps.calcE tOk rfl rfl (by conv => lhs; simp [pev, upd, PV.cells, argSlots]) ?_) | refine ExOps.calcE tOk rfl rfl (by conv => lhs; whnf) ?_ | refine ExOps.opR (OpOk.sliceSL tOk rfl rfl rfl rfl rfl (by omega)) rfl ?_)
                | (refine QSeq.g ?_; first | refine QSeq.norm ?_ | refine QSeq.ret ?_ | refine QSeq.exit ?_)
                | (refine QBlock.g ?_; first | refine QBlock.norm ?_ | refine QBlock.ret ?_ | refine QBlock.hit rfl ?_ | refine QBlock.miss rfl ?_)
                | (refine QLoop.g ?_; first | refine QLoop.ret ?_ | refine QLoop.exit ?_)
                | (refine QRet.g ?_; (first | ((first | refine QRet.end_ (.cons (.tmpE (by conv => lhs; whnf)) (.cons (.tmpE (by conv => lhs; whnf)) (.cons (.tmpE (by conv => lhs; whnf)) .nil))) ?_ | refine QRet.endN (.cons (.tmpE (by conv => lhs; whnf)) (.cons (.tmpE (by conv => lhs; whnf)) (.cons (.tmpE (by conv => lhs; whnf)) .nil))) ?_); try (focus first | rfl | (simp_all [packP]; done))) | ((first | refine QRet.same (.cons (.tmpE (by conv => lhs; whnf)) (.cons (.tmpE (by conv => lhs; whnf)) (.cons (.tmpE (by conv => lhs; whnf)) .nil))) ?_ ?_ | refine QRet.sameN (.cons (.tmpE (by conv => lhs; whnf)) (.cons (.tmpE (by conv => lhs; whnf)) (.cons (.tmpE (by conv => lhs; whnf)) .nil))) ?_ ?_); try (rotate_left; (focus first | rfl | (simp_all [packP]; done)); try (focus first | rfl | (simp_all [packP]; done))))))
                | fail)
              all_goals first | (exfalso; omega) | skip
              exact QLoop.next m (by omega) ⟨a + commentF (s0.extract a s0.size), [], .nils, [], g, gg, hi0, .inl ⟨rfl, rfl, rfl⟩, ⟨⟨by omega, by omega⟩, by simp⟩, rfl, rfl, rfl, rfl⟩
            · repeat' (first
                | (refine Ex.g ?_; first | refine Ex.seq ?_ | refine Ex.region ?_ | refine Ex.skip ?_ | refine Ex.ret ?_ | refine Ex.exit ?_ | refine Ex.block ?_ | (refine Ex.gCond ?_; first | refine Ex.condT rfl ?_ | refine Ex.condF rfl ?_ | refine Ex.condD rfl (fun hc => ?_) (fun hc => ?_) | refine Ex.condN rfl (fun hc => ?_) (fun hc => ?_) | refine Ex.cond rfl (fun hc => ?_) (fun hc => ?_)))
                | refine ExOps.nil ?_
                | (refine ExOps.gPC ?_; first | refine ExOps.opR (OpOk.len tOk rfl rfl rfl) rfl ?_ | refine ExOps.opR (.cp rfl rfl rfl (h := hsp)) rfl ?_ | refine ExOps.opR (.cp rfl rfl rfl (h := hpo)) rfl ?_ | refine ExOps.opR (.cp rfl rfl rfl (h := hcm)) rfl ?_)
                | (refine ExOps.gP ?_; first | (refine ExOps.gBin ?_; refine ExOps.calcE tOk rfl rfl (by first | exact eqT (by omega) | exact eqF (by omega) | fail) ?_) | (refine ExOps.gBin ?_; refine ExOps.calcE tOk rfl rfl (by first | exact eqT rfl | exact eqF (fun h => h rfl) | exact beqT _ | exact wrapB _ _ | exact wrapE (by omega) (by omega) | exact wrapE32 (by omega) (by omega) | fail) ?_) | (refine ExOps.gB ?_; refine ExOps.calcE tOk rfl rfl (by conv => lhs; simp [pev, upd, PV.cells, argSlots]) ?_) | refine ExOps.calcE tOk rfl rfl (by conv => lhs; whnf) ?_ | refine ExOps.opR (OpOk.sliceSL tOk rfl rfl rfl rfl rfl (by omega)) rfl ?_)
                | (refine QSeq.g ?_; first | refine QSeq.norm ?_ | refine QSeq.ret ?_ | refine QSeq.exit ?_)
                | (refine QBlock.g ?_; first | refine QBlock.norm ?_ | refine QBlock.ret ?_ | refine QBlock.hit rfl ?_ | refine QBlock.miss rfl ?_)
                | (refine QLoop.g ?_; first | refine QLoop.ret ?_ | refine QLoop.exit ?_)
                | (refine QRet.g ?_; (first | ((first | refine QRet.end_ (.cons (.tmpE (by conv => lhs; whnf)) (.cons (.tmpE (by conv => lhs; whnf)) (.cons (.tmpE (by conv => lhs; whnf)) .nil))) ?_ | refine QRet.endN (.cons (.tmpE (by conv => lhs; whnf)) (.cons (.tmpE (by conv => lhs; whnf)) (.cons (.tmpE (by conv => lhs; whnf)) .nil))) ?_); try (focus first | rfl | (simp_all [packP]; done))) | ((first | refine QRet.same (.cons (.tmpE (by conv => lhs; whnf)) (.cons (.tmpE (by conv => lhs; whnf)) (.cons (.tmpE (by conv => lhs; whnf)) .nil))) ?_ ?_ | refine QRet.sameN (.cons (.tmpE (by conv => lhs; whnf)) (.cons (.tmpE (by conv => lhs; whnf)) (.cons (.tmpE (by conv => lhs; whnf)) .nil))) ?_ ?_); try (rotate_left; (focus first | rfl | (simp_all [packP]; done)); try (focus first | rfl | (simp_all [packP]; done))))))
                | fail)
              all_goals first | (exfalso; omega) | skip
              exact QLoop.next m (by omega) ⟨a + commentF (s0.extract a s0.size), l, _, [.spare v 4], g, gg, hi0, .inr ⟨v, rfl, rfl⟩, ⟨⟨by omega, by omega⟩, by omega⟩, rfl, rfl, rfl, rfl⟩
        · rw [if_neg c2] at hi0
          rw [Bool.eq_false_iff.2 c2] at hpo
          unfold tokPV at htk
          rcases hT : tokenF num (s0.extract a s0.size) with ⟨t, tn, tok⟩
          rw [hT] at hi0 htk htr
          simp only at hi0 htk htr
          rcases tok with _ | _
          · rw [if_neg (by decide)] at hi0
            rw [hi0]
            rcases hi1 with ⟨rfl, rfl, rfl⟩ | ⟨v, rfl, rfl⟩
            all_goals
              repeat' (first
                | (refine Ex.g ?_; first | refine Ex.seq ?_ | refine Ex.region ?_ | refine Ex.skip ?_ | refine Ex.ret ?_ | refine Ex.exit ?_ | refine Ex.block ?_ | (refine Ex.gCond ?_; first | refine Ex.condT rfl ?_ | refine Ex.condF rfl ?_ | refine Ex.condD rfl (fun hc => ?_) (fun hc => ?_) | refine Ex.condN rfl (fun hc => ?_) (fun hc => ?_) | refine Ex.cond rfl (fun hc => ?_) (fun hc => ?_)))
                | refine ExOps.nil ?_
                | (refine ExOps.gPC ?_; first | refine ExOps.opR (OpOk.len tOk rfl rfl rfl) rfl ?_ | refine ExOps.opR (.cp rfl rfl rfl (h := hsp)) rfl ?_ | refine ExOps.opR (.cp rfl rfl rfl (h := hpo)) rfl ?_ | refine ExOps.opR (.cp rfl rfl rfl (h := htk)) rfl ?_)
                | (refine ExOps.gP ?_; first | (refine ExOps.gBin ?_; refine ExOps.calcE tOk rfl rfl (by first | exact eqT (by omega) | exact eqF (by omega) | fail) ?_) | (refine ExOps.gBin ?_; refine ExOps.calcE tOk rfl rfl (by first | exact eqT rfl | exact eqF (fun h => h rfl) | exact beqT _ | exact wrapB _ _ | exact wrapE (by omega) (by omega) | exact wrapE32 (by omega) (by omega) | fail) ?_) | (refine ExOps.gB ?_; refine ExOps.calcE tOk rfl rfl (by conv => lhs; simp [pev, upd, PV.cells, argSlots]) ?_) | refine ExOps.calcE tOk rfl rfl (by conv => lhs; whnf) ?_ | refine ExOps.opR (OpOk.sliceSL tOk rfl rfl rfl rfl rfl (by omega)) rfl ?_ | (refine ExOps.op (OpOk.alloc tOk rfl rfl) rfl ?_; rintro _ _ ⟨b, rfl, rfl⟩) | refine ExOps.opR0 (OpOk.storeAll tOk rfl rfl rfl [] _ rfl rfl rfl rfl rfl rfl) ?_)
                | (refine QSeq.g ?_; first | refine QSeq.norm ?_ | refine QSeq.ret ?_ | refine QSeq.exit ?_)
                | (refine QBlock.g ?_; first | refine QBlock.norm ?_ | refine QBlock.ret ?_ | refine QBlock.hit rfl ?_ | refine QBlock.miss rfl ?_)
                | (refine QLoop.g ?_; first | refine QLoop.ret ?_ | refine QLoop.exit ?_)
                | (refine QRet.g ?_; (first | ((first | refine QRet.end_ (.cons (.tmpE (by conv => lhs; whnf)) (.cons (.tmpE (by conv => lhs; whnf)) (.cons (.tmpE (by conv => lhs; whnf)) .nil))) ?_ | refine QRet.endN (.cons (.tmpE (by conv => lhs; whnf)) (.cons (.tmpE (by conv => lhs; whnf)) (.cons (.tmpE (by conv => lhs; whnf)) .nil))) ?_); try (focus first | rfl | (rfl; done))) | ((first | refine QRet.same (.cons (.tmpE (by conv => lhs; whnf)) (.cons (.tmpE (by conv => lhs; whnf)) (.cons (.tmpE (by conv => lhs; whnf)) .nil))) ?_ ?_ | refine QRet.sameN (.cons (.tmpE (by conv => lhs; whnf)) (.cons (.tmpE (by conv => lhs; whnf)) (.cons (.tmpE (by conv => lhs; whnf)) .nil))) ?_ ?_); try (rotate_left; (focus first | rfl | (rfl; done)); try (focus first | rfl | (rfl; done))))))
                | fail)
            all_goals first | (exfalso; omega) | skip
          · rw [if_pos rfl] at hi0
            have htr2 := htr rfl
            rcases hi1 with ⟨rfl, rfl, rfl⟩ | ⟨v, rfl, rfl⟩
            · repeat' (first
                | (refine Ex.g ?_; first | refine Ex.seq ?_ | refine Ex.region ?_ | refine Ex.skip ?_ | refine Ex.ret ?_ | refine Ex.exit ?_ | refine Ex.block ?_ | (refine Ex.gCond ?_; first | refine Ex.condT rfl ?_ | refine Ex.condF rfl ?_ | refine Ex.condD rfl (fun hc => ?_) (fun hc => ?_) | refine Ex.condN rfl (fun hc => ?_) (fun hc => ?_) | refine Ex.cond rfl (fun hc => ?_) (fun hc => ?_)))
                | refine ExOps.nil ?_
                | (refine ExOps.gPC ?_; first | refine ExOps.opR (OpOk.len tOk rfl rfl rfl) rfl ?_ | refine ExOps.opR (.cp rfl rfl rfl (h := hsp)) rfl ?_ | refine ExOps.opR (.cp rfl rfl rfl (h := hpo)) rfl ?_ | refine ExOps.opR (.cp rfl rfl rfl (h := htk)) rfl ?_ | (refine ExOps.op (OpOk.appN tOk rfl rfl rfl rfl rfl (by decide) (by decide) rfl rfl rfl rfl rfl rfl) rfl ?_; rintro _ _ ⟨b, rfl, rfl⟩))
                | (refine ExOps.gP ?_; first | (refine ExOps.gLoad ?_; refine ExOps.opR (OpOk.loadR tOk rfl rfl rfl (.head _) rfl (r := .agg [_, _, _, _]) rfl) rfl ?_) | (refine ExOps.gBin ?_; refine ExOps.calcE tOk rfl rfl (by first | exact eqT (by omega) | exact eqF (by omega) | fail) ?_) | (refine ExOps.gBin ?_; refine ExOps.calcE tOk rfl rfl (by first | exact eqT rfl | exact eqF (fun h => h rfl) | exact beqT _ | exact wrapB _ _ | exact wrapE (by omega) (by omega) | exact wrapE32 (by omega) (by omega) | fail) ?_) | (refine ExOps.gB ?_; refine ExOps.calcE tOk rfl rfl (by conv => lhs; simp [pev, upd, PV.cells, argSlots]) ?_) | refine ExOps.calcE tOk rfl rfl (by conv => lhs; whnf) ?_ | refine ExOps.opR (OpOk.sliceSL tOk rfl rfl rfl rfl rfl (by omega)) rfl ?_ | (refine ExOps.op (OpOk.alloc tOk rfl rfl) rfl ?_; rintro _ _ ⟨b, rfl, rfl⟩) | refine ExOps.opR0 (OpOk.storeAll tOk rfl rfl rfl [] _ rfl rfl rfl rfl rfl rfl) ?_ | refine ExOps.opR (OpOk.loadR tOk rfl rfl rfl (.head _) rfl (by conv => lhs; whnf)) rfl ?_ | refine ExOps.opR (OpOk.loadR tOk rfl rfl rfl (.tail _ (.head _)) rfl (by conv => lhs; whnf)) rfl ?_ | refine ExOps.opR (OpOk.loadR tOk rfl rfl rfl (.tail _ (.tail _ (.head _))) rfl (by conv => lhs; whnf)) rfl ?_ | refine ExOps.opR (OpOk.loadR tOk rfl rfl rfl (.tail _ (.tail _ (.tail _ (.head _)))) rfl (by conv => lhs; whnf)) rfl ?_ | refine ExOps.opR0 (OpOk.store1 tOk rfl rfl rfl rfl [] _ rfl rfl (by conv => lhs; whnf) rfl rfl (by simp only [List.set, Nat.reduceAdd]; rfl)) ?_ | refine ExOps.opR0 (OpOk.store1 tOk rfl rfl rfl rfl [_] _ rfl rfl (by conv => lhs; whnf) rfl rfl (by simp only [List.set, Nat.reduceAdd]; rfl)) ?_ | refine ExOps.opR0 (OpOk.store1 tOk rfl rfl rfl rfl [_, _] _ rfl rfl (by conv => lhs; whnf) rfl rfl (by simp only [List.set, Nat.reduceAdd]; rfl)) ?_ | refine ExOps.opR0 (OpOk.store1 tOk rfl rfl rfl rfl [_, _, _] _ rfl rfl (by conv => lhs; whnf) rfl rfl (by simp only [List.set, Nat.reduceAdd]; rfl)) ?_ | refine ExOps.opR (OpOk.bsM tOk rfl rfl rfl rfl rfl (by decide) (by decide) rfl rfl) rfl ?_)
                | (refine QSeq.g ?_; first | refine QSeq.norm ?_ | refine QSeq.ret ?_ | refine QSeq.exit ?_)
                | (refine QBlock.g ?_; first | refine QBlock.norm ?_ | refine QBlock.ret ?_ | refine QBlock.hit rfl ?_ | refine QBlock.miss rfl ?_)
                | (refine QLoop.g ?_; first | refine QLoop.ret ?_ | refine QLoop.exit ?_)
                | (refine QRet.g ?_; (first | ((first | refine QRet.end_ (.cons (.tmpE (by conv => lhs; whnf)) (.cons (.tmpE (by conv => lhs; whnf)) (.cons (.tmpE (by conv => lhs; whnf)) .nil))) ?_ | refine QRet.endN (.cons (.tmpE (by conv => lhs; whnf)) (.cons (.tmpE (by conv => lhs; whnf)) (.cons (.tmpE (by conv => lhs; whnf)) .nil))) ?_); try (focus first | rfl | (simp_all [packP]; done))) | ((first | refine QRet.same (.cons (.tmpE (by conv => lhs; whnf)) (.cons (.tmpE (by conv => lhs; whnf)) (.cons (.tmpE (by conv => lhs; whnf)) .nil))) ?_ ?_ | refine QRet.sameN (.cons (.tmpE (by conv => lhs; whnf)) (.cons (.tmpE (by conv => lhs; whnf)) (.cons (.tmpE (by conv => lhs; whnf)) .nil))) ?_ ?_); try (rotate_left; (focus first | rfl | (simp_all [packP]; done)); try (focus first | rfl | (simp_all [packP]; done))))))
                | fail)
              all_goals first | (exfalso; omega) | skip
              refine QLoop.next m (by omega) ⟨a + tn.toNat, [] ++ [Tok.mk t.kind t.text t.n a], .own b (toks ([] ++ [Tok.mk t.kind t.text t.n a])) 1, [.spare b 4], [], _, hi0, .inr ⟨b, rfl, rfl⟩, ⟨⟨by omega, by omega⟩, by simp; omega⟩, rfl, ?_, congrArg (PV.int .i64) (by omega), rfl⟩
              show PV.own b (Tok.cells (Tok.mk t.kind t.text t.n a)) 1 = _
              simp [toks]
            · repeat' (first
                | (refine Ex.g ?_; first | refine Ex.seq ?_ | refine Ex.region ?_ | refine Ex.skip ?_ | refine Ex.ret ?_ | refine Ex.exit ?_ | refine Ex.block ?_ | (refine Ex.gCond ?_; first | refine Ex.condT rfl ?_ | refine Ex.condF rfl ?_ | refine Ex.condD rfl (fun hc => ?_) (fun hc => ?_) | refine Ex.condN rfl (fun hc => ?_) (fun hc => ?_) | refine Ex.cond rfl (fun hc => ?_) (fun hc => ?_)))
                | refine ExOps.nil ?_
                | (refine ExOps.gPC ?_; first | refine ExOps.opR (OpOk.len tOk rfl rfl rfl) rfl ?_ | refine ExOps.opR (.cp rfl rfl rfl (h := hsp)) rfl ?_ | refine ExOps.opR (.cp rfl rfl rfl (h := hpo)) rfl ?_ | refine ExOps.opR (.cp rfl rfl rfl (h := htk)) rfl ?_ | (refine ExOps.op (OpOk.app tOk rfl rfl rfl rfl rfl (by decide) (by decide) rfl rfl rfl (_ :: g) rfl (by rw [toks_length]; rfl) rfl rfl rfl (by omega)) rfl ?_; rintro _ _ ⟨b, rfl, rfl⟩))
                | (refine ExOps.gP ?_; first | (refine ExOps.gLoad ?_; refine ExOps.opR (OpOk.loadR tOk rfl rfl rfl (.head _) rfl (r := .agg [_, _, _, _]) rfl) rfl ?_) | (refine ExOps.gBin ?_; refine ExOps.calcE tOk rfl rfl (by first | exact eqT (by omega) | exact eqF (by omega) | fail) ?_) | (refine ExOps.gBin ?_; refine ExOps.calcE tOk rfl rfl (by first | exact eqT rfl | exact eqF (fun h => h rfl) | exact beqT _ | exact wrapB _ _ | exact wrapE (by omega) (by omega) | exact wrapE32 (by omega) (by omega) | fail) ?_) | (refine ExOps.gB ?_; refine ExOps.calcE tOk rfl rfl (by conv => lhs; simp [pev, upd, PV.cells, argSlots]) ?_) | refine ExOps.calcE tOk rfl rfl (by conv => lhs; whnf) ?_ | refine ExOps.opR (OpOk.sliceSL tOk rfl rfl rfl rfl rfl (by omega)) rfl ?_ | (refine ExOps.op (OpOk.alloc tOk rfl rfl) rfl ?_; rintro _ _ ⟨b, rfl, rfl⟩) | refine ExOps.opR0 (OpOk.storeAll tOk rfl rfl rfl [] _ rfl rfl rfl rfl rfl rfl) ?_ | refine ExOps.opR (OpOk.loadR tOk rfl rfl rfl (.head _) rfl (by conv => lhs; whnf)) rfl ?_ | refine ExOps.opR (OpOk.loadR tOk rfl rfl rfl (.tail _ (.head _)) rfl (by conv => lhs; whnf)) rfl ?_ | refine ExOps.opR (OpOk.loadR tOk rfl rfl rfl (.tail _ (.tail _ (.head _))) rfl (by conv => lhs; whnf)) rfl ?_ | refine ExOps.opR (OpOk.loadR tOk rfl rfl rfl (.tail _ (.tail _ (.tail _ (.head _)))) rfl (by conv => lhs; whnf)) rfl ?_ | refine ExOps.opR0 (OpOk.store1 tOk rfl rfl rfl rfl [] _ rfl rfl (by conv => lhs; whnf) rfl rfl (by simp only [List.set, Nat.reduceAdd]; rfl)) ?_ | refine ExOps.opR0 (OpOk.store1 tOk rfl rfl rfl rfl [_] _ rfl rfl (by conv => lhs; whnf) rfl rfl (by simp only [List.set, Nat.reduceAdd]; rfl)) ?_ | refine ExOps.opR0 (OpOk.store1 tOk rfl rfl rfl rfl [_, _] _ rfl rfl (by conv => lhs; whnf) rfl rfl (by simp only [List.set, Nat.reduceAdd]; rfl)) ?_ | refine ExOps.opR0 (OpOk.store1 tOk rfl rfl rfl rfl [_, _, _] _ rfl rfl (by conv => lhs; whnf) rfl rfl (by simp only [List.set, Nat.reduceAdd]; rfl)) ?_ | refine ExOps.opR (OpOk.bsM tOk rfl rfl rfl rfl rfl (by decide) (by decide) rfl rfl) rfl ?_)
                | (refine QSeq.g ?_; first | refine QSeq.norm ?_ | refine QSeq.ret ?_ | refine QSeq.exit ?_)
                | (refine QBlock.g ?_; first | refine QBlock.norm ?_ | refine QBlock.ret ?_ | refine QBlock.hit rfl ?_ | refine QBlock.miss rfl ?_)
                | (refine QLoop.g ?_; first | refine QLoop.ret ?_ | refine QLoop.exit ?_)
                | (refine QRet.g ?_; (first | ((first | refine QRet.end_ (.cons (.tmpE (by conv => lhs; whnf)) (.cons (.tmpE (by conv => lhs; whnf)) (.cons (.tmpE (by conv => lhs; whnf)) .nil))) ?_ | refine QRet.endN (.cons (.tmpE (by conv => lhs; whnf)) (.cons (.tmpE (by conv => lhs; whnf)) (.cons (.tmpE (by conv => lhs; whnf)) .nil))) ?_); try (focus first | rfl | (simp_all [packP]; done))) | ((first | refine QRet.same (.cons (.tmpE (by conv => lhs; whnf)) (.cons (.tmpE (by conv => lhs; whnf)) (.cons (.tmpE (by conv => lhs; whnf)) .nil))) ?_ ?_ | refine QRet.sameN (.cons (.tmpE (by conv => lhs; whnf)) (.cons (.tmpE (by conv => lhs; whnf)) (.cons (.tmpE (by conv => lhs; whnf)) .nil))) ?_ ?_); try (rotate_left; (focus first | rfl | (simp_all [packP]; done)); try (focus first | rfl | (simp_all [packP]; done))))))
                | fail)
              all_goals first | (exfalso; omega) | skip
              refine QLoop.next m (by omega) ⟨a + tn.toNat, l ++ [Tok.mk t.kind t.text t.n a], .own b (toks (l ++ [Tok.mk t.kind t.text t.n a])) (l ++ [Tok.mk t.kind t.text t.n a]).length, [.spare b 4], _ :: g, gg, hi0, .inr ⟨b, rfl, rfl⟩, ⟨⟨by omega, by omega⟩, by simp; omega⟩, rfl, ?_, congrArg (PV.int .i64) (by omega), rfl⟩
              show PV.own b (toks l ++ (Tok.cells (Tok.mk t.kind t.text t.n a))) (l.length + 1) = _
              rw [toks_snoc, List.length_append]; rfl
    · rw [lexL_out ha] at hi0
      rw [hi0]
      rcases hi1 with ⟨rfl, rfl, rfl⟩ | ⟨v, rfl, rfl⟩
      · repeat' (first
          | (refine Ex.g ?_; first | refine Ex.seq ?_ | refine Ex.region ?_ | refine Ex.skip ?_ | refine Ex.ret ?_ | refine Ex.exit ?_ | refine Ex.block ?_ | (refine Ex.gCond ?_; first | refine Ex.condT rfl ?_ | refine Ex.condF rfl ?_ | refine Ex.condD rfl (fun hc => ?_) (fun hc => ?_) | refine Ex.condN rfl (fun hc => ?_) (fun hc => ?_) | refine Ex.cond rfl (fun hc => ?_) (fun hc => ?_)))
          | refine ExOps.nil ?_
          | (refine ExOps.gPC ?_; first | refine ExOps.opR (OpOk.len tOk rfl rfl rfl) rfl ?_)
          | (refine ExOps.gP ?_; first | (refine ExOps.gBin ?_; refine ExOps.calcE tOk rfl rfl (by first | exact eqT (by omega) | exact eqF (by omega) | fail) ?_) | (refine ExOps.gB ?_; refine ExOps.calcE tOk rfl rfl (by conv => lhs; simp [pev, upd, PV.cells, argSlots]) ?_) | refine ExOps.calcE tOk rfl rfl (by conv => lhs; whnf) ?_)
          | (refine QSeq.g ?_; first | refine QSeq.norm ?_ | refine QSeq.ret ?_ | refine QSeq.exit ?_)
          | (refine QBlock.g ?_; first | refine QBlock.norm ?_ | refine QBlock.ret ?_ | refine QBlock.hit rfl ?_ | refine QBlock.miss rfl ?_)
          | (refine QLoop.g ?_; first | refine QLoop.ret ?_ | refine QLoop.exit ?_)
          | (refine QRet.g ?_; (refine QRet.meltAll (.cons (.tmpE (by conv => lhs; whnf)) (.cons (.tmpE (by conv => lhs; whnf)) (.cons (.tmpE (by conv => lhs; whnf)) .nil))) ?_; try (focus first | rfl | (simp_all [packP]; done))))
          | fail)
        all_goals first | (exfalso; omega) | skip
        have e2 : toks [] = [] := by simp [toks]
        show Melt _ _ (.tup [.nils, .int .i64 0, .int .i64 0]) (.tup [.slc (toks []) 0, .int .i64 0, .int .i64 0])
        rw [e2]
        exact Melt.tup (MeltL.cons (Melt.wk Wk.nils) (MeltL.same _))
      · repeat' (first
          | (refine Ex.g ?_; first | refine Ex.seq ?_ | refine Ex.region ?_ | refine Ex.skip ?_ | refine Ex.ret ?_ | refine Ex.exit ?_ | refine Ex.block ?_ | (refine Ex.gCond ?_; first | refine Ex.condT rfl ?_ | refine Ex.condF rfl ?_ | refine Ex.condD rfl (fun hc => ?_) (fun hc => ?_) | refine Ex.condN rfl (fun hc => ?_) (fun hc => ?_) | refine Ex.cond rfl (fun hc => ?_) (fun hc => ?_)))
          | refine ExOps.nil ?_
          | (refine ExOps.gPC ?_; first | refine ExOps.opR (OpOk.len tOk rfl rfl rfl) rfl ?_)
          | (refine ExOps.gP ?_; first | (refine ExOps.gBin ?_; refine ExOps.calcE tOk rfl rfl (by first | exact eqT (by omega) | exact eqF (by omega) | fail) ?_) | (refine ExOps.gB ?_; refine ExOps.calcE tOk rfl rfl (by conv => lhs; simp [pev, upd, PV.cells, argSlots]) ?_) | refine ExOps.calcE tOk rfl rfl (by conv => lhs; whnf) ?_)
          | (refine QSeq.g ?_; first | refine QSeq.norm ?_ | refine QSeq.ret ?_ | refine QSeq.exit ?_)
          | (refine QBlock.g ?_; first | refine QBlock.norm ?_ | refine QBlock.ret ?_ | refine QBlock.hit rfl ?_ | refine QBlock.miss rfl ?_)
          | (refine QLoop.g ?_; first | refine QLoop.ret ?_ | refine QLoop.exit ?_)
          | (refine QRet.g ?_; (refine QRet.meltAll (.cons (.tmpE (by conv => lhs; whnf)) (.cons (.tmpE (by conv => lhs; whnf)) (.cons (.tmpE (by conv => lhs; whnf)) .nil))) ?_; try (focus first | rfl | (simp_all [packP]; done))))
          | fail)
        all_goals first | (exfalso; omega) | skip
        exact Melt.tup (MeltL.cons (Melt.own (MeltL.same _)) (MeltL.same _))
  · have e : lexF num s0 = ([], (runesF s0).1, (runesF s0).2) := by unfold lexF; rw [if_pos he]
    have e2 : lexPV ([], (runesF s0).1, (runesF s0).2) = .tup [.nils, .int .i64 (runesF s0).1, .int .i64 (runesF s0).2] := if_neg he
    rw [e, e2]
    refine Callable.of_ex tOk [.tmp 2, .tmp 3, .tmp 4] Tryz.func28 rfl rfl rfl (Nat.le_of_ble_eq_true rfl) ?_
    repeat' (first
      | (refine Ex.g ?_; first | refine Ex.seq ?_ | refine Ex.region ?_ | refine Ex.skip ?_ | refine Ex.ret ?_ | refine Ex.exit ?_ | refine Ex.block ?_ | (refine Ex.gCond ?_; first | refine Ex.condT rfl ?_ | refine Ex.condF rfl ?_ | refine Ex.condD rfl (fun hc => ?_) (fun hc => ?_) | refine Ex.condN rfl (fun hc => ?_) (fun hc => ?_) | refine Ex.cond rfl (fun hc => ?_) (fun hc => ?_)))
      | refine ExOps.nil ?_
      | (refine ExOps.gPC ?_; first | refine ExOps.opR (OpOk.len tOk rfl rfl rfl) rfl ?_ | refine ExOps.opR (.cp rfl rfl rfl (h := hck)) rfl ?_)
      | (refine ExOps.gP ?_; first | (refine ExOps.gBin ?_; refine ExOps.calcE tOk rfl rfl (by first | exact eqT rfl | exact eqF (fun h => h rfl) | exact beqT _ | exact wrapB _ _ | exact wrapE (by omega) (by omega) | exact wrapE32 (by omega) (by omega) | fail) ?_) | (refine ExOps.gB ?_; refine ExOps.calcE tOk rfl rfl (by conv => lhs; simp [pev, upd, PV.cells, argSlots]) ?_) | refine ExOps.calcE tOk rfl rfl (by conv => lhs; whnf) ?_)
      | (refine QSeq.g ?_; first | refine QSeq.norm ?_ | refine QSeq.ret ?_ | refine QSeq.exit ?_)
      | (refine QBlock.g ?_; first | refine QBlock.norm ?_ | refine QBlock.ret ?_ | refine QBlock.hit rfl ?_ | refine QBlock.miss rfl ?_)
      | (refine QLoop.g ?_; first | refine QLoop.ret ?_ | refine QLoop.exit ?_)
      | (refine QRet.g ?_; (first | ((first | refine QRet.end_ (.cons (.tmpE (by conv => lhs; whnf)) (.cons (.tmpE (by conv => lhs; whnf)) (.cons (.tmpE (by conv => lhs; whnf)) .nil))) ?_ | refine QRet.endN (.cons (.tmpE (by conv => lhs; whnf)) (.cons (.tmpE (by conv => lhs; whnf)) (.cons (.tmpE (by conv => lhs; whnf)) .nil))) ?_); try (focus first | rfl | (rfl; done))) | ((first | refine QRet.same (.cons (.tmpE (by conv => lhs; whnf)) (.cons (.tmpE (by conv => lhs; whnf)) (.cons (.tmpE (by conv => lhs; whnf)) .nil))) ?_ ?_ | refine QRet.sameN (.cons (.tmpE (by conv => lhs; whnf)) (.cons (.tmpE (by conv => lhs; whnf)) (.cons (.tmpE (by conv => lhs; whnf)) .nil))) ?_ ?_); try (rotate_left; (focus first | rfl | (rfl; done)); try (focus first | rfl | (rfl; done))))))
      | fail)
    all_goals exact absurd ‹¬ _ ≠ _› (fun h => h he)
end Go.Proofs.YtceoldiblphahaaGreatDoor
