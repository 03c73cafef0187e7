/- Contracts of the reference's parser of types: constructors, all rules, the exported functions. -/
import Derived.Test.YtceoldiblphahaaGreatDoorMqR7
set_option linter.unusedVariables false
set_option linter.unusedSimpArgs false
set_option linter.unusedSectionVars false
namespace Go.Proofs.YtceoldiblphahaaGreatDoor
open Go.Mq
attribute [local irreducible] Ex ExOps QSeq QBlock QLoop QRet OpOk Callable DEx DRd Melt Wk Tree.pv pvs toks opv strs

attribute [local irreducible] nameF wordF checkF longF keyF nameAt longAt typF productF atomF consF
set_option maxHeartbeats 4000000

abbrev RTyp (l : List Tok) (n : Nat) (i : Int) : Prop := Callable Tryz.prog 31 [.slc (toks l) l.length, .int .i64 (i)] [] (Ret (.tup [resT (typF n l i), .int .i64 ((typF n l i).2.1), .int .i64 ((typF n l i).2.2)]) [])
abbrev RProduct (l : List Tok) (n : Nat) (i : Int) : Prop := Callable Tryz.prog 56 [.slc (toks l) l.length, .int .i64 (i)] [] (Ret (.tup [resT (productF n l i), .int .i64 ((productF n l i).2.1), .int .i64 ((productF n l i).2.2)]) [])
abbrev RAtom (l : List Tok) (n : Nat) (i : Int) : Prop := Callable Tryz.prog 92 [.slc (toks l) l.length, .int .i64 (i)] [] (Ret (.tup [resT (atomF n l i), .int .i64 ((atomF n l i).2.1), .int .i64 ((atomF n l i).2.2)]) [])
abbrev RCons (l : List Tok) (n : Nat) (i : Int) : Prop := Callable Tryz.prog 33 [.slc (toks l) l.length, .int .i64 (i)] [] (Ret (.tup [consPV (consF n l i []).2.2 (consF n l i []).1, .int .i64 ((consF n l i []).2.1), .int .i64 ((consF n l i []).2.2)]) [])
theorem rnode_tree (k : Int) (s : ByteArray) (t : Tree) : Callable Tryz.prog 57 [.int .i64 k, .str s, .ful [t.pv] 1] [] (Ret (nod k s [t]).pv []) :=
  Callable.wkRet (rnode_ok k s _ (.inr (.inl ⟨_, _, rfl⟩))) (wk_node k 0 _ _ [t] (by simp only [pvs]; exact Wk.ful _ _))
theorem any_take_succ (p : Tree → Bool) {l : List Tree} {k : Nat} (h : k < l.length) : (l.take (k + 1)).any p = ((l.take k).any p || p l[k]!) := by
  rw [← List.take_append_getElem h, List.any_append, getElem!_pos l k h]; simp

theorem rcons_ok (l : List Tok) (hl : Sane l) (N : Nat) (i : Int) (hi : Room l 1 N i) (ih : ∀ n j, n < N → Room l 3 n j → RTyp l n j) : RCons l N i := by
  refine Callable.of_ex tOk [.tmp 4, .tmp 5, .tmp 6] Tryz.func33 rfl rfl rfl (Nat.le_of_ble_eq_true rfl) ?_
  repeat' (first
    | (refine Ex.g ?_; first | refine Ex.seq ?_ | refine Ex.region ?_ | refine Ex.skip ?_ | refine Ex.ret ?_ | refine Ex.exit ?_ | refine Ex.block ?_ | (refine Ex.gCond ?_; first | refine Ex.condT rfl ?_ | refine Ex.condF rfl ?_ | refine Ex.condD rfl (fun hc => ?_) (fun hc => ?_) | refine Ex.condN rfl (fun hc => ?_) (fun hc => ?_) | refine Ex.cond rfl (fun hc => ?_) (fun hc => ?_)))
    | refine ExOps.nil ?_
    | (refine ExOps.gPC ?_; first | refine ExOps.opR (OpOk.len tOk rfl rfl rfl) rfl ?_)
    | (refine ExOps.gP ?_; first | (refine ExOps.gB ?_; refine ExOps.calcE tOk rfl rfl (by conv => lhs; simp [pev, upd, PV.cells, argSlots]) ?_) | refine ExOps.calcE tOk rfl rfl (by conv => lhs; whnf) ?_)
    | (refine QSeq.g ?_; first | refine QSeq.norm ?_ | refine QSeq.ret ?_ | refine QSeq.exit ?_)
    | (refine QBlock.g ?_; first | refine QBlock.norm ?_ | refine QBlock.ret ?_ | refine QBlock.hit rfl ?_ | refine QBlock.miss rfl ?_)
    | (refine QLoop.g ?_; first | refine QLoop.ret ?_ | refine QLoop.exit ?_)
    | (refine QRet.g ?_; (first | ((first | refine QRet.end_ (.cons (.tmpE (by conv => lhs; whnf)) (.cons (.tmpE (by conv => lhs; whnf)) (.cons (.tmpE (by conv => lhs; whnf)) .nil))) ?_ | refine QRet.endN (.cons (.tmpE (by conv => lhs; whnf)) (.cons (.tmpE (by conv => lhs; whnf)) (.cons (.tmpE (by conv => lhs; whnf)) .nil))) ?_); try (focus first | rfl | (simp_all [packP]; done))) | ((first | refine QRet.same (.cons (.tmpE (by conv => lhs; whnf)) (.cons (.tmpE (by conv => lhs; whnf)) (.cons (.tmpE (by conv => lhs; whnf)) .nil))) ?_ ?_ | refine QRet.sameN (.cons (.tmpE (by conv => lhs; whnf)) (.cons (.tmpE (by conv => lhs; whnf)) (.cons (.tmpE (by conv => lhs; whnf)) .nil))) ?_ ?_); try (rotate_left; (focus first | rfl | (simp_all [packP]; done)); try (focus first | rfl | (simp_all [packP]; done))))))
    | fail)
  refine Ex.loop (fun m s σ => ∃ out : List Tree, ∃ j : Int, ∃ q : PV, ∃ sp : List Ent, (consF N l i [] = consF m l j out) ∧ ((q = .nils ∧ sp = [] ∧ out = []) ∨ (∃ v, q = .own v (pvs out) out.length ∧ sp = [.spare v 1])) ∧ ((Room l 1 m j ∧ m ≤ N) ∧ out.length ≤ j) ∧ s 0 = .slc (toks l) l.length ∧ s 1 = .int .i64 j ∧ s 7 = q ∧ σ = sp ++ []) (N) ⟨[], i, .nils, [], (by first | rfl | assumption | omega | exact slot_check rfl | (simp; done) | (simp; omega) | fail), (by first | rfl | assumption | omega | exact slot_check rfl | (simp; done) | (simp; omega) | fail), (by first | rfl | assumption | omega | exact slot_check rfl | (simp; done) | (simp; omega) | fail), (by first | rfl | assumption | omega | exact slot_check rfl | (simp; done) | (simp; omega) | fail), (by first | rfl | assumption | omega | exact slot_check rfl | (simp; done) | (simp; omega) | fail), (by first | rfl | assumption | omega | exact slot_check rfl | (simp; done) | (simp; omega) | fail), rfl⟩ ?_
  rintro m s σ ⟨out, j, q, sp, hi0, hi1, hi2, h0, h1, h7, rfl⟩
  refine (Ex.have_ (t := 0) h0 (Ex.have_ (t := 1) h1 (Ex.have_ (t := 7) h7 ?_)))
  obtain ⟨⟨⟨⟨g0, g1⟩, g2⟩, g4⟩, g3⟩ := hi2
  obtain ⟨M, rfl⟩ : ∃ k, m = k + 1 := ⟨m - 1, by omega⟩
  have hroom := hl.room g1
  have o0 := hi0
  have o1 := hi1
  clear hi0 hi1
  by_cases hn : nameAt l j = true
  · have hnin := nameAt_in hn
    repeat' (first
      | (refine Ex.g ?_; first | refine Ex.seq ?_ | refine Ex.region ?_ | refine Ex.skip ?_ | refine Ex.ret ?_ | refine Ex.exit ?_ | refine Ex.block ?_ | (refine Ex.gCond ?_; first | refine Ex.condT rfl ?_ | refine Ex.condF rfl ?_ | refine Ex.condD rfl (fun hc => ?_) (fun hc => ?_) | refine Ex.condN rfl (fun hc => ?_) (fun hc => ?_) | refine Ex.cond rfl (fun hc => ?_) (fun hc => ?_)))
      | refine ExOps.nil ?_
      | (refine ExOps.gPC ?_; first | refine ExOps.opR (OpOk.len tOk rfl rfl rfl) rfl ?_ | refine ExOps.opR (.cp rfl rfl rfl (h := rname_yes l j hl hn)) rfl ?_)
      | (refine ExOps.gP ?_; first | (refine ExOps.gBin ?_; refine ExOps.calcE tOk rfl rfl (by first | exact eqT rfl | exact eqF (fun h => h rfl) | exact beqT _ | exact wrapB _ _ | exact wrapE (by omega) (by omega) | exact wrapE32 (by omega) (by omega) | fail) ?_) | (refine ExOps.gB ?_; refine ExOps.calcE tOk rfl rfl (by conv => lhs; simp [pev, upd, PV.cells, argSlots]) ?_) | refine ExOps.calcE tOk rfl rfl (by conv => lhs; whnf) ?_)
      | (refine QSeq.g ?_; first | refine QSeq.norm ?_ | refine QSeq.ret ?_ | refine QSeq.exit ?_)
      | (refine QBlock.g ?_; first | refine QBlock.norm ?_ | refine QBlock.ret ?_ | refine QBlock.hit rfl ?_ | refine QBlock.miss rfl ?_)
      | (refine QLoop.g ?_; first | refine QLoop.ret ?_ | refine QLoop.exit ?_)
      | (refine QRet.g ?_; (first | ((first | refine QRet.end_ (.cons (.tmpE (by conv => lhs; whnf)) (.cons (.tmpE (by conv => lhs; whnf)) (.cons (.tmpE (by conv => lhs; whnf)) .nil))) ?_ | refine QRet.endN (.cons (.tmpE (by conv => lhs; whnf)) (.cons (.tmpE (by conv => lhs; whnf)) (.cons (.tmpE (by conv => lhs; whnf)) .nil))) ?_); try (focus first | rfl | (simp_all [packP]; done))) | ((first | refine QRet.same (.cons (.tmpE (by conv => lhs; whnf)) (.cons (.tmpE (by conv => lhs; whnf)) (.cons (.tmpE (by conv => lhs; whnf)) .nil))) ?_ ?_ | refine QRet.sameN (.cons (.tmpE (by conv => lhs; whnf)) (.cons (.tmpE (by conv => lhs; whnf)) (.cons (.tmpE (by conv => lhs; whnf)) .nil))) ?_ ?_); try (rotate_left; (focus first | rfl | (simp_all [packP]; done)); try (focus first | rfl | (simp_all [packP]; done))))))
      | fail)
    refine Ex.loop (fun m s σ => ∃ k : Nat, (m + k = out.length) ∧ ((out.take k).any (fun t => decide (textAt l j = t.nm)) = false) ∧ s 0 = .slc (toks l) l.length ∧ s 1 = .int .i64 j ∧ s 7 = q ∧ s 8 = .str (textAt l j) ∧ s 10 = .int .i64 k ∧ σ = sp ++ []) (out.length) ⟨0, (by first | rfl | assumption | omega | exact slot_check rfl | (simp; done) | (simp; omega) | fail), (by first | rfl | assumption | omega | exact slot_check rfl | (simp; done) | (simp; omega) | fail), (by first | rfl | assumption | omega | exact slot_check rfl | (simp; done) | (simp; omega) | fail), (by first | rfl | assumption | omega | exact slot_check rfl | (simp; done) | (simp; omega) | fail), (by first | rfl | assumption | omega | exact slot_check rfl | (simp; done) | (simp; omega) | fail), (by first | rfl | assumption | omega | exact slot_check rfl | (simp; done) | (simp; omega) | fail), (by first | rfl | assumption | omega | exact slot_check rfl | (simp; done) | (simp; omega) | fail), rfl⟩ ?_
    rintro m s σ ⟨k, hi0, hi1, h0, h1, h7, h8, h10, rfl⟩
    refine (Ex.have_ (t := 0) h0 (Ex.have_ (t := 1) h1 (Ex.have_ (t := 7) h7 (Ex.have_ (t := 8) h8 (Ex.have_ (t := 10) h10 ?_)))))
    by_cases hk : k < out.length
    · have hlen : out.length ≤ 1048576 := by omega
      by_cases hd : textAt l j = out[k]!.nm
      · have htw : (out.any fun t => decide (textAt l j = t.nm)) = true := List.any_eq_true.2 ⟨out[k]!, get!_mem hk, decide_eq_true hd⟩
        rw [consF_twice hn htw] at o0
        rw [o0]
        rcases o1 with ⟨rfl, rfl, rfl⟩ | ⟨v, rfl, rfl⟩
        · exact absurd hk (by simp)
        · repeat' (first
            | (refine Ex.g ?_; first | refine Ex.seq ?_ | refine Ex.region ?_ | refine Ex.skip ?_ | refine Ex.ret ?_ | refine Ex.exit ?_ | refine Ex.block ?_ | (refine Ex.gCond ?_; first | refine Ex.condT rfl ?_ | refine Ex.condF rfl ?_ | refine Ex.condD rfl (fun hc => ?_) (fun hc => ?_) | refine Ex.condN rfl (fun hc => ?_) (fun hc => ?_) | refine Ex.cond rfl (fun hc => ?_) (fun hc => ?_)))
            | refine ExOps.nil ?_
            | (refine ExOps.gPC ?_; first | refine ExOps.opR (OpOk.len tOk rfl rfl rfl) rfl ?_)
            | (refine ExOps.gP ?_; first | (refine ExOps.gBin ?_; refine ExOps.calcE tOk rfl rfl (by first | exact eqT rfl | exact eqF (fun h => h rfl) | exact beqT _ | exact wrapB _ _ | exact wrapE (by omega) (by omega) | exact wrapE32 (by omega) (by omega) | fail) ?_) | (refine ExOps.opR (OpOk.loadPv tOk rfl rfl rfl rfl) rfl ?_) | (refine ExOps.gB ?_; refine ExOps.calcE tOk rfl rfl (by conv => lhs; simp [pev, upd, PV.cells, argSlots]) ?_) | refine ExOps.calcE tOk rfl rfl (by conv => lhs; whnf) ?_ | refine ExOps.opR (OpOk.indexKid tOk rfl rfl rfl rfl rfl rfl rfl (by omega) (by omega) (by omega)) rfl ?_)
            | (refine QSeq.g ?_; first | refine QSeq.norm ?_ | refine QSeq.ret ?_ | refine QSeq.exit ?_)
            | (refine QBlock.g ?_; first | refine QBlock.norm ?_ | refine QBlock.ret ?_ | refine QBlock.hit rfl ?_ | refine QBlock.miss rfl ?_)
            | (refine QLoop.g ?_; first | refine QLoop.ret ?_ | refine QLoop.exit ?_)
            | (refine QRet.g ?_; (first | ((first | refine QRet.end_ (.cons (.tmpE (by conv => lhs; whnf)) (.cons (.tmpE (by conv => lhs; whnf)) (.cons (.tmpE (by conv => lhs; whnf)) .nil))) ?_ | refine QRet.endN (.cons (.tmpE (by conv => lhs; whnf)) (.cons (.tmpE (by conv => lhs; whnf)) (.cons (.tmpE (by conv => lhs; whnf)) .nil))) ?_); try (focus first | rfl | (rfl; done))) | ((first | refine QRet.same (.cons (.tmpE (by conv => lhs; whnf)) (.cons (.tmpE (by conv => lhs; whnf)) (.cons (.tmpE (by conv => lhs; whnf)) .nil))) ?_ ?_ | refine QRet.sameN (.cons (.tmpE (by conv => lhs; whnf)) (.cons (.tmpE (by conv => lhs; whnf)) (.cons (.tmpE (by conv => lhs; whnf)) .nil))) ?_ ?_); try (rotate_left; (focus first | rfl | (rfl; done)); try (focus first | rfl | (rfl; done))))))
            | fail)
          all_goals first | (exfalso; omega) | exact absurd hd.symm ‹_›
      · rcases o1 with ⟨rfl, rfl, rfl⟩ | ⟨v, rfl, rfl⟩
        · exact absurd hk (by simp)
        · repeat' (first
            | (refine Ex.g ?_; first | refine Ex.seq ?_ | refine Ex.region ?_ | refine Ex.skip ?_ | refine Ex.ret ?_ | refine Ex.exit ?_ | refine Ex.block ?_ | (refine Ex.gCond ?_; first | refine Ex.condT rfl ?_ | refine Ex.condF rfl ?_ | refine Ex.condD rfl (fun hc => ?_) (fun hc => ?_) | refine Ex.condN rfl (fun hc => ?_) (fun hc => ?_) | refine Ex.cond rfl (fun hc => ?_) (fun hc => ?_)))
            | refine ExOps.nil ?_
            | (refine ExOps.gPC ?_; first | refine ExOps.opR (OpOk.len tOk rfl rfl rfl) rfl ?_)
            | (refine ExOps.gP ?_; first | (refine ExOps.gBin ?_; refine ExOps.calcE tOk rfl rfl (by first | exact eqT rfl | exact eqF (fun h => h rfl) | exact beqT _ | exact wrapB _ _ | exact wrapE (by omega) (by omega) | exact wrapE32 (by omega) (by omega) | fail) ?_) | (refine ExOps.opR (OpOk.loadPv tOk rfl rfl rfl rfl) rfl ?_) | (refine ExOps.gB ?_; refine ExOps.calcE tOk rfl rfl (by conv => lhs; simp [pev, upd, PV.cells, argSlots]) ?_) | refine ExOps.calcE tOk rfl rfl (by conv => lhs; whnf) ?_ | refine ExOps.opR (OpOk.indexKid tOk rfl rfl rfl rfl rfl rfl rfl (by omega) (by omega) (by omega)) rfl ?_)
            | (refine QSeq.g ?_; first | refine QSeq.norm ?_ | refine QSeq.ret ?_ | refine QSeq.exit ?_)
            | (refine QBlock.g ?_; first | refine QBlock.norm ?_ | refine QBlock.ret ?_ | refine QBlock.hit rfl ?_ | refine QBlock.miss rfl ?_)
            | (refine QLoop.g ?_; first | refine QLoop.ret ?_ | refine QLoop.exit ?_)
            | (refine QRet.g ?_; (first | ((first | refine QRet.end_ (.cons (.tmpE (by conv => lhs; whnf)) (.cons (.tmpE (by conv => lhs; whnf)) (.cons (.tmpE (by conv => lhs; whnf)) .nil))) ?_ | refine QRet.endN (.cons (.tmpE (by conv => lhs; whnf)) (.cons (.tmpE (by conv => lhs; whnf)) (.cons (.tmpE (by conv => lhs; whnf)) .nil))) ?_); try (focus first | rfl | (simp_all [packP]; done))) | ((first | refine QRet.same (.cons (.tmpE (by conv => lhs; whnf)) (.cons (.tmpE (by conv => lhs; whnf)) (.cons (.tmpE (by conv => lhs; whnf)) .nil))) ?_ ?_ | refine QRet.sameN (.cons (.tmpE (by conv => lhs; whnf)) (.cons (.tmpE (by conv => lhs; whnf)) (.cons (.tmpE (by conv => lhs; whnf)) .nil))) ?_ ?_); try (rotate_left; (focus first | rfl | (simp_all [packP]; done)); try (focus first | rfl | (simp_all [packP]; done))))))
            | fail)
          all_goals first | (exfalso; omega) | exact absurd (Eq.symm ‹_ = textAt l j›) hd | skip
          refine QLoop.next (m - 1) (by omega) ⟨k + 1, by omega, ?_, rfl, rfl, rfl, rfl, rfl, rfl⟩
          rw [any_take_succ _ hk, hi1, Bool.false_or]; exact decide_eq_false hd
    · have hd : ¬ (out.any fun t => decide (textAt l j = t.nm)) = true := by
        rw [List.take_of_length_le (by omega)] at hi1
        rw [hi1]; decide
      by_cases hof : keyF l (j + 1) b_of = true
      · have hofin := keyF_in hof
        rw [consF_of hn hd hof] at o0
        have ht := ih M (j + 2) (by omega) ⟨⟨by omega, by omega⟩, by omega⟩
        have hpi := (parse_in l M).1 (j + 2) (by omega)
        rcases hR : typF M l (j + 2) with ⟨t, i1, e1⟩
        rw [hR] at o0 hpi
        simp only [RTyp, hR] at ht
        simp only at o0 hpi
        have hr1 := hl.room hpi.2
        by_cases he : e1 = 0
        · subst he
          rw [if_neg (by decide)] at o0
          have htt : resT (t, i1, 0) = t.pv := rfl
          rw [htt] at ht
          by_cases hb : keyF l i1 b_bar = true
          · have hbin := keyF_in hb
            rw [if_pos hb] at o0
            rcases o1 with ⟨rfl, rfl, rfl⟩ | ⟨v, rfl, rfl⟩
            · repeat' (first
                | (refine Ex.g ?_; first | refine Ex.seq ?_ | refine Ex.region ?_ | refine Ex.skip ?_ | refine Ex.ret ?_ | refine Ex.exit ?_ | refine Ex.block ?_ | (refine Ex.gCond ?_; first | refine Ex.condT rfl ?_ | refine Ex.condF rfl ?_ | refine Ex.condD rfl (fun hc => ?_) (fun hc => ?_) | refine Ex.condN rfl (fun hc => ?_) (fun hc => ?_) | refine Ex.cond rfl (fun hc => ?_) (fun hc => ?_)))
                | refine ExOps.nil ?_
                | (refine ExOps.gPC ?_; first | refine ExOps.opR (OpOk.len tOk rfl rfl rfl) rfl ?_ | refine ExOps.opR (.cp rfl rfl rfl (h := rkey_yes l (j + 1) b_of hof)) rfl ?_ | refine ExOps.opR (.cp rfl rfl rfl (h := ht)) rfl ?_ | refine ExOps.opR (.cp rfl rfl rfl (h := rnode_tree 8 _ t)) rfl ?_ | (refine ExOps.op (OpOk.appN tOk rfl rfl rfl rfl rfl (by decide) (by decide) rfl rfl rfl rfl rfl (by first | rfl | exact one_all (pv_one _) | fail)) rfl ?_; rintro _ _ ⟨b, rfl, rfl⟩) | refine ExOps.opR (.cp rfl rfl rfl (h := rkey_yes l i1 b_bar hb)) rfl ?_)
                | (refine ExOps.gP ?_; first | (refine ExOps.gBin ?_; refine ExOps.calcE tOk rfl rfl (by first | exact eqT rfl | exact eqF (fun h => h rfl) | exact beqT _ | exact wrapB _ _ | exact wrapE (by omega) (by omega) | exact wrapE32 (by omega) (by omega) | fail) ?_) | (refine ExOps.gB ?_; refine ExOps.calcE tOk rfl rfl (by conv => lhs; simp [pev, upd, PV.cells, argSlots]) ?_) | refine ExOps.calcE tOk rfl rfl (by conv => lhs; whnf) ?_ | refine ExOps.opR (OpOk.bs1 tOk (by first | rfl | exact pv_one _ | fail) rfl rfl rfl rfl rfl rfl rfl) rfl ?_)
                | (refine QSeq.g ?_; first | refine QSeq.norm ?_ | refine QSeq.ret ?_ | refine QSeq.exit ?_)
                | (refine QBlock.g ?_; first | refine QBlock.norm ?_ | refine QBlock.ret ?_ | refine QBlock.hit rfl ?_ | refine QBlock.miss rfl ?_)
                | (refine QLoop.g ?_; first | refine QLoop.ret ?_ | refine QLoop.exit ?_)
                | (refine QRet.g ?_; (first | ((first | refine QRet.end_ (.cons (.tmpE (by conv => lhs; whnf)) (.cons (.tmpE (by conv => lhs; whnf)) (.cons (.tmpE (by conv => lhs; whnf)) .nil))) ?_ | refine QRet.endN (.cons (.tmpE (by conv => lhs; whnf)) (.cons (.tmpE (by conv => lhs; whnf)) (.cons (.tmpE (by conv => lhs; whnf)) .nil))) ?_); try (focus first | rfl | (simp_all [packP]; done))) | ((first | refine QRet.same (.cons (.tmpE (by conv => lhs; whnf)) (.cons (.tmpE (by conv => lhs; whnf)) (.cons (.tmpE (by conv => lhs; whnf)) .nil))) ?_ ?_ | refine QRet.sameN (.cons (.tmpE (by conv => lhs; whnf)) (.cons (.tmpE (by conv => lhs; whnf)) (.cons (.tmpE (by conv => lhs; whnf)) .nil))) ?_ ?_); try (rotate_left; (focus first | rfl | (simp_all [packP]; done)); try (focus first | rfl | (simp_all [packP]; done))))))
                | fail)
              all_goals first | (exfalso; omega) | skip
              exact QLoop.next M (by omega) ⟨[] ++ [nod 8 (textAt l j) [t]], i1 + 1, .own b (pvs ([] ++ [nod 8 (textAt l j) [t]])) ([] ++ [nod 8 (textAt l j) [t]]).length, [.spare b 1], o0, .inr ⟨b, rfl, rfl⟩, ⟨⟨⟨⟨by omega, by omega⟩, by omega⟩, by omega⟩, by simp; omega⟩, rfl, rfl, by (show PV.own b [(nod 8 (textAt l j) [t]).pv] 1 = _; simp [pvs]), rfl⟩
            · repeat' (first
                | (refine Ex.g ?_; first | refine Ex.seq ?_ | refine Ex.region ?_ | refine Ex.skip ?_ | refine Ex.ret ?_ | refine Ex.exit ?_ | refine Ex.block ?_ | (refine Ex.gCond ?_; first | refine Ex.condT rfl ?_ | refine Ex.condF rfl ?_ | refine Ex.condD rfl (fun hc => ?_) (fun hc => ?_) | refine Ex.condN rfl (fun hc => ?_) (fun hc => ?_) | refine Ex.cond rfl (fun hc => ?_) (fun hc => ?_)))
                | refine ExOps.nil ?_
                | (refine ExOps.gPC ?_; first | refine ExOps.opR (OpOk.len tOk rfl rfl rfl) rfl ?_ | refine ExOps.opR (.cp rfl rfl rfl (h := rkey_yes l (j + 1) b_of hof)) rfl ?_ | refine ExOps.opR (.cp rfl rfl rfl (h := ht)) rfl ?_ | refine ExOps.opR (.cp rfl rfl rfl (h := rnode_tree 8 _ t)) rfl ?_ | (refine ExOps.op (OpOk.app tOk rfl rfl rfl rfl rfl (by decide) (by decide) rfl rfl rfl [] rfl (by rw [pvs_length]; exact (Nat.mul_one _).symm) rfl rfl (by first | rfl | exact one_all (pv_one _) | fail) (by omega)) rfl ?_; rintro _ _ ⟨b, rfl, rfl⟩) | refine ExOps.opR (.cp rfl rfl rfl (h := rkey_yes l i1 b_bar hb)) rfl ?_)
                | (refine ExOps.gP ?_; first | (refine ExOps.gBin ?_; refine ExOps.calcE tOk rfl rfl (by first | exact eqT rfl | exact eqF (fun h => h rfl) | exact beqT _ | exact wrapB _ _ | exact wrapE (by omega) (by omega) | exact wrapE32 (by omega) (by omega) | fail) ?_) | (refine ExOps.gB ?_; refine ExOps.calcE tOk rfl rfl (by conv => lhs; simp [pev, upd, PV.cells, argSlots]) ?_) | refine ExOps.calcE tOk rfl rfl (by conv => lhs; whnf) ?_ | refine ExOps.opR (OpOk.bs1 tOk (by first | rfl | exact pv_one _ | fail) rfl rfl rfl rfl rfl rfl rfl) rfl ?_)
                | (refine QSeq.g ?_; first | refine QSeq.norm ?_ | refine QSeq.ret ?_ | refine QSeq.exit ?_)
                | (refine QBlock.g ?_; first | refine QBlock.norm ?_ | refine QBlock.ret ?_ | refine QBlock.hit rfl ?_ | refine QBlock.miss rfl ?_)
                | (refine QLoop.g ?_; first | refine QLoop.ret ?_ | refine QLoop.exit ?_)
                | (refine QRet.g ?_; (first | ((first | refine QRet.end_ (.cons (.tmpE (by conv => lhs; whnf)) (.cons (.tmpE (by conv => lhs; whnf)) (.cons (.tmpE (by conv => lhs; whnf)) .nil))) ?_ | refine QRet.endN (.cons (.tmpE (by conv => lhs; whnf)) (.cons (.tmpE (by conv => lhs; whnf)) (.cons (.tmpE (by conv => lhs; whnf)) .nil))) ?_); try (focus first | rfl | (simp_all [packP]; done))) | ((first | refine QRet.same (.cons (.tmpE (by conv => lhs; whnf)) (.cons (.tmpE (by conv => lhs; whnf)) (.cons (.tmpE (by conv => lhs; whnf)) .nil))) ?_ ?_ | refine QRet.sameN (.cons (.tmpE (by conv => lhs; whnf)) (.cons (.tmpE (by conv => lhs; whnf)) (.cons (.tmpE (by conv => lhs; whnf)) .nil))) ?_ ?_); try (rotate_left; (focus first | rfl | (simp_all [packP]; done)); try (focus first | rfl | (simp_all [packP]; done))))))
                | fail)
              all_goals first | (exfalso; omega) | skip
              exact QLoop.next M (by omega) ⟨out ++ [nod 8 (textAt l j) [t]], i1 + 1, .own b (pvs (out ++ [nod 8 (textAt l j) [t]])) (out ++ [nod 8 (textAt l j) [t]]).length, [.spare b 1], o0, .inr ⟨b, rfl, rfl⟩, ⟨⟨⟨⟨by omega, by omega⟩, by omega⟩, by omega⟩, by simp; omega⟩, rfl, rfl, by (show PV.own b (pvs out ++ [(nod 8 (textAt l j) [t]).pv]) (out.length + 1) = _; rw [pvs_snoc, List.length_append]; rfl), rfl⟩
          · rw [if_neg hb] at o0
            rw [o0]
            rcases o1 with ⟨rfl, rfl, rfl⟩ | ⟨v, rfl, rfl⟩
            · repeat' (first
                | (refine Ex.g ?_; first | refine Ex.seq ?_ | refine Ex.region ?_ | refine Ex.skip ?_ | refine Ex.ret ?_ | refine Ex.exit ?_ | refine Ex.block ?_ | (refine Ex.gCond ?_; first | refine Ex.condT rfl ?_ | refine Ex.condF rfl ?_ | refine Ex.condD rfl (fun hc => ?_) (fun hc => ?_) | refine Ex.condN rfl (fun hc => ?_) (fun hc => ?_) | refine Ex.cond rfl (fun hc => ?_) (fun hc => ?_)))
                | refine ExOps.nil ?_
                | (refine ExOps.gPC ?_; first | refine ExOps.opR (OpOk.len tOk rfl rfl rfl) rfl ?_ | refine ExOps.opR (.cp rfl rfl rfl (h := rkey_yes l (j + 1) b_of hof)) rfl ?_ | refine ExOps.opR (.cp rfl rfl rfl (h := ht)) rfl ?_ | refine ExOps.opR (.cp rfl rfl rfl (h := rnode_tree 8 _ t)) rfl ?_ | (refine ExOps.op (OpOk.appN tOk rfl rfl rfl rfl rfl (by decide) (by decide) rfl rfl rfl rfl rfl (by first | rfl | exact one_all (pv_one _) | fail)) rfl ?_; rintro _ _ ⟨b, rfl, rfl⟩) | refine ExOps.opR (.cp rfl rfl rfl (h := rkey_no l i1 b_bar hb)) rfl ?_)
                | (refine ExOps.gP ?_; first | (refine ExOps.gBin ?_; refine ExOps.calcE tOk rfl rfl (by first | exact eqT rfl | exact eqF (fun h => h rfl) | exact beqT _ | exact wrapB _ _ | exact wrapE (by omega) (by omega) | exact wrapE32 (by omega) (by omega) | fail) ?_) | (refine ExOps.gB ?_; refine ExOps.calcE tOk rfl rfl (by conv => lhs; simp [pev, upd, PV.cells, argSlots]) ?_) | refine ExOps.calcE tOk rfl rfl (by conv => lhs; whnf) ?_ | refine ExOps.opR (OpOk.bs1 tOk (by first | rfl | exact pv_one _ | fail) rfl rfl rfl rfl rfl rfl rfl) rfl ?_)
                | (refine QSeq.g ?_; first | refine QSeq.norm ?_ | refine QSeq.ret ?_ | refine QSeq.exit ?_)
                | (refine QBlock.g ?_; first | refine QBlock.norm ?_ | refine QBlock.ret ?_ | refine QBlock.hit rfl ?_ | refine QBlock.miss rfl ?_)
                | (refine QLoop.g ?_; first | refine QLoop.ret ?_ | refine QLoop.exit ?_)
                | (refine QRet.g ?_; (refine QRet.melt [_] (.cons (.tmpE (by conv => lhs; whnf)) (.cons (.tmpE (by conv => lhs; whnf)) (.cons (.tmpE (by conv => lhs; whnf)) .nil))) rfl ?_; try (focus first | rfl | (simp_all [packP]; done))))
                | fail)
              all_goals first | (exfalso; omega) | skip
              have e2 : pvs ([] ++ [nod 8 (textAt l j) [t]]) = [(nod 8 (textAt l j) [t]).pv] := by simp [pvs]
              show Melt _ _ (.tup [.own b [(nod 8 (textAt l j) [t]).pv] 1, _, _]) (.tup [.slc (pvs ([] ++ [nod 8 (textAt l j) [t]])) 1, _, _])
              rw [e2]; exact Melt.tup (MeltL.cons (Melt.own (MeltL.same _)) (MeltL.same _))
            · repeat' (first
                | (refine Ex.g ?_; first | refine Ex.seq ?_ | refine Ex.region ?_ | refine Ex.skip ?_ | refine Ex.ret ?_ | refine Ex.exit ?_ | refine Ex.block ?_ | (refine Ex.gCond ?_; first | refine Ex.condT rfl ?_ | refine Ex.condF rfl ?_ | refine Ex.condD rfl (fun hc => ?_) (fun hc => ?_) | refine Ex.condN rfl (fun hc => ?_) (fun hc => ?_) | refine Ex.cond rfl (fun hc => ?_) (fun hc => ?_)))
                | refine ExOps.nil ?_
                | (refine ExOps.gPC ?_; first | refine ExOps.opR (OpOk.len tOk rfl rfl rfl) rfl ?_ | refine ExOps.opR (.cp rfl rfl rfl (h := rkey_yes l (j + 1) b_of hof)) rfl ?_ | refine ExOps.opR (.cp rfl rfl rfl (h := ht)) rfl ?_ | refine ExOps.opR (.cp rfl rfl rfl (h := rnode_tree 8 _ t)) rfl ?_ | (refine ExOps.op (OpOk.app tOk rfl rfl rfl rfl rfl (by decide) (by decide) rfl rfl rfl [] rfl (by rw [pvs_length]; exact (Nat.mul_one _).symm) rfl rfl (by first | rfl | exact one_all (pv_one _) | fail) (by omega)) rfl ?_; rintro _ _ ⟨b, rfl, rfl⟩) | refine ExOps.opR (.cp rfl rfl rfl (h := rkey_no l i1 b_bar hb)) rfl ?_)
                | (refine ExOps.gP ?_; first | (refine ExOps.gBin ?_; refine ExOps.calcE tOk rfl rfl (by first | exact eqT rfl | exact eqF (fun h => h rfl) | exact beqT _ | exact wrapB _ _ | exact wrapE (by omega) (by omega) | exact wrapE32 (by omega) (by omega) | fail) ?_) | (refine ExOps.gB ?_; refine ExOps.calcE tOk rfl rfl (by conv => lhs; simp [pev, upd, PV.cells, argSlots]) ?_) | refine ExOps.calcE tOk rfl rfl (by conv => lhs; whnf) ?_ | refine ExOps.opR (OpOk.bs1 tOk (by first | rfl | exact pv_one _ | fail) rfl rfl rfl rfl rfl rfl rfl) rfl ?_)
                | (refine QSeq.g ?_; first | refine QSeq.norm ?_ | refine QSeq.ret ?_ | refine QSeq.exit ?_)
                | (refine QBlock.g ?_; first | refine QBlock.norm ?_ | refine QBlock.ret ?_ | refine QBlock.hit rfl ?_ | refine QBlock.miss rfl ?_)
                | (refine QLoop.g ?_; first | refine QLoop.ret ?_ | refine QLoop.exit ?_)
                | (refine QRet.g ?_; (refine QRet.melt [_] (.cons (.tmpE (by conv => lhs; whnf)) (.cons (.tmpE (by conv => lhs; whnf)) (.cons (.tmpE (by conv => lhs; whnf)) .nil))) rfl ?_; try (focus first | rfl | (simp_all [packP]; done))))
                | fail)
              all_goals first | (exfalso; omega) | skip
              have e2 : consPV 0 (out ++ [nod 8 (textAt l j) [t]]) = .slc (pvs out ++ [(nod 8 (textAt l j) [t]).pv]) (out.length + 1) := by rw [pvs_snoc, consPV, if_pos rfl, List.length_append]; rfl
              simp only [e2]
              show Melt _ _ (.tup [.own b (pvs out ++ [(nod 8 (textAt l j) [t]).pv]) (out.length + 1), _, _]) _
              exact Melt.tup (MeltL.cons (Melt.own (MeltL.same _)) (MeltL.same _))
        · rw [if_pos he] at o0
          rw [o0]
          have hrr : consPV e1 [] = .nils := if_neg he
          rw [hrr]
          rcases o1 with ⟨rfl, rfl, rfl⟩ | ⟨v, rfl, rfl⟩
          all_goals
            repeat' (first
              | (refine Ex.g ?_; first | refine Ex.seq ?_ | refine Ex.region ?_ | refine Ex.skip ?_ | refine Ex.ret ?_ | refine Ex.exit ?_ | refine Ex.block ?_ | (refine Ex.gCond ?_; first | refine Ex.condT rfl ?_ | refine Ex.condF rfl ?_ | refine Ex.condD rfl (fun hc => ?_) (fun hc => ?_) | refine Ex.condN rfl (fun hc => ?_) (fun hc => ?_) | refine Ex.cond rfl (fun hc => ?_) (fun hc => ?_)))
              | refine ExOps.nil ?_
              | (refine ExOps.gPC ?_; first | refine ExOps.opR (OpOk.len tOk rfl rfl rfl) rfl ?_ | refine ExOps.opR (.cp rfl rfl rfl (h := rkey_yes l (j + 1) b_of hof)) rfl ?_ | refine ExOps.opR (.cp rfl rfl rfl (h := ht)) rfl ?_)
              | (refine ExOps.gP ?_; first | (refine ExOps.gBin ?_; refine ExOps.calcE tOk rfl rfl (by first | exact eqT rfl | exact eqF (fun h => h rfl) | exact beqT _ | exact wrapB _ _ | exact wrapE (by omega) (by omega) | exact wrapE32 (by omega) (by omega) | fail) ?_) | (refine ExOps.gB ?_; refine ExOps.calcE tOk rfl rfl (by conv => lhs; simp [pev, upd, PV.cells, argSlots]) ?_) | refine ExOps.calcE tOk rfl rfl (by conv => lhs; whnf) ?_)
              | (refine QSeq.g ?_; first | refine QSeq.norm ?_ | refine QSeq.ret ?_ | refine QSeq.exit ?_)
              | (refine QBlock.g ?_; first | refine QBlock.norm ?_ | refine QBlock.ret ?_ | refine QBlock.hit rfl ?_ | refine QBlock.miss rfl ?_)
              | (refine QLoop.g ?_; first | refine QLoop.ret ?_ | refine QLoop.exit ?_)
              | (refine QRet.g ?_; (first | ((first | refine QRet.end_ (.cons (.tmpE (by conv => lhs; whnf)) (.cons (.tmpE (by conv => lhs; whnf)) (.cons (.tmpE (by conv => lhs; whnf)) .nil))) ?_ | refine QRet.endN (.cons (.tmpE (by conv => lhs; whnf)) (.cons (.tmpE (by conv => lhs; whnf)) (.cons (.tmpE (by conv => lhs; whnf)) .nil))) ?_); try (focus first | rfl | (rfl; done))) | ((first | refine QRet.same (.cons (.tmpE (by conv => lhs; whnf)) (.cons (.tmpE (by conv => lhs; whnf)) (.cons (.tmpE (by conv => lhs; whnf)) .nil))) ?_ ?_ | refine QRet.sameN (.cons (.tmpE (by conv => lhs; whnf)) (.cons (.tmpE (by conv => lhs; whnf)) (.cons (.tmpE (by conv => lhs; whnf)) .nil))) ?_ ?_); try (rotate_left; (focus first | rfl | (rfl; done)); try (focus first | rfl | (rfl; done))))))
              | fail)
          all_goals first | (exfalso; omega) | exact absurd he ‹¬ e1 ≠ 0›
      · rw [consF_noof hn hd hof] at o0
        rw [o0]
        rcases o1 with ⟨rfl, rfl, rfl⟩ | ⟨v, rfl, rfl⟩
        all_goals
          repeat' (first
            | (refine Ex.g ?_; first | refine Ex.seq ?_ | refine Ex.region ?_ | refine Ex.skip ?_ | refine Ex.ret ?_ | refine Ex.exit ?_ | refine Ex.block ?_ | (refine Ex.gCond ?_; first | refine Ex.condT rfl ?_ | refine Ex.condF rfl ?_ | refine Ex.condD rfl (fun hc => ?_) (fun hc => ?_) | refine Ex.condN rfl (fun hc => ?_) (fun hc => ?_) | refine Ex.cond rfl (fun hc => ?_) (fun hc => ?_)))
            | refine ExOps.nil ?_
            | (refine ExOps.gPC ?_; first | refine ExOps.opR (OpOk.len tOk rfl rfl rfl) rfl ?_ | refine ExOps.opR (.cp rfl rfl rfl (h := rkey_no l (j + 1) b_of hof)) rfl ?_)
            | (refine ExOps.gP ?_; first | (refine ExOps.gBin ?_; refine ExOps.calcE tOk rfl rfl (by first | exact eqT rfl | exact eqF (fun h => h rfl) | exact beqT _ | exact wrapB _ _ | exact wrapE (by omega) (by omega) | exact wrapE32 (by omega) (by omega) | fail) ?_) | (refine ExOps.gB ?_; refine ExOps.calcE tOk rfl rfl (by conv => lhs; simp [pev, upd, PV.cells, argSlots]) ?_) | refine ExOps.calcE tOk rfl rfl (by conv => lhs; whnf) ?_)
            | (refine QSeq.g ?_; first | refine QSeq.norm ?_ | refine QSeq.ret ?_ | refine QSeq.exit ?_)
            | (refine QBlock.g ?_; first | refine QBlock.norm ?_ | refine QBlock.ret ?_ | refine QBlock.hit rfl ?_ | refine QBlock.miss rfl ?_)
            | (refine QLoop.g ?_; first | refine QLoop.ret ?_ | refine QLoop.exit ?_)
            | (refine QRet.g ?_; (first | ((first | refine QRet.end_ (.cons (.tmpE (by conv => lhs; whnf)) (.cons (.tmpE (by conv => lhs; whnf)) (.cons (.tmpE (by conv => lhs; whnf)) .nil))) ?_ | refine QRet.endN (.cons (.tmpE (by conv => lhs; whnf)) (.cons (.tmpE (by conv => lhs; whnf)) (.cons (.tmpE (by conv => lhs; whnf)) .nil))) ?_); try (focus first | rfl | (rfl; done))) | ((first | refine QRet.same (.cons (.tmpE (by conv => lhs; whnf)) (.cons (.tmpE (by conv => lhs; whnf)) (.cons (.tmpE (by conv => lhs; whnf)) .nil))) ?_ ?_ | refine QRet.sameN (.cons (.tmpE (by conv => lhs; whnf)) (.cons (.tmpE (by conv => lhs; whnf)) (.cons (.tmpE (by conv => lhs; whnf)) .nil))) ?_ ?_); try (rotate_left; (focus first | rfl | (rfl; done)); try (focus first | rfl | (rfl; done))))))
            | fail)
        all_goals (exfalso; omega)
  · rw [consF_noname hn] at o0
    rw [o0]
    rcases o1 with ⟨rfl, rfl, rfl⟩ | ⟨v, rfl, rfl⟩
    all_goals
      repeat' (first
        | (refine Ex.g ?_; first | refine Ex.seq ?_ | refine Ex.region ?_ | refine Ex.skip ?_ | refine Ex.ret ?_ | refine Ex.exit ?_ | refine Ex.block ?_ | (refine Ex.gCond ?_; first | refine Ex.condT rfl ?_ | refine Ex.condF rfl ?_ | refine Ex.condD rfl (fun hc => ?_) (fun hc => ?_) | refine Ex.condN rfl (fun hc => ?_) (fun hc => ?_) | refine Ex.cond rfl (fun hc => ?_) (fun hc => ?_)))
        | refine ExOps.nil ?_
        | (refine ExOps.gPC ?_; first | refine ExOps.opR (OpOk.len tOk rfl rfl rfl) rfl ?_ | refine ExOps.opR (.cp rfl rfl rfl (h := rname_no l j hl hn)) rfl ?_)
        | (refine ExOps.gP ?_; first | (refine ExOps.gBin ?_; refine ExOps.calcE tOk rfl rfl (by first | exact eqT rfl | exact eqF (fun h => h rfl) | exact beqT _ | exact wrapB _ _ | exact wrapE (by omega) (by omega) | exact wrapE32 (by omega) (by omega) | fail) ?_) | (refine ExOps.gB ?_; refine ExOps.calcE tOk rfl rfl (by conv => lhs; simp [pev, upd, PV.cells, argSlots]) ?_) | refine ExOps.calcE tOk rfl rfl (by conv => lhs; whnf) ?_)
        | (refine QSeq.g ?_; first | refine QSeq.norm ?_ | refine QSeq.ret ?_ | refine QSeq.exit ?_)
        | (refine QBlock.g ?_; first | refine QBlock.norm ?_ | refine QBlock.ret ?_ | refine QBlock.hit rfl ?_ | refine QBlock.miss rfl ?_)
        | (refine QLoop.g ?_; first | refine QLoop.ret ?_ | refine QLoop.exit ?_)
        | (refine QRet.g ?_; (first | ((first | refine QRet.end_ (.cons (.tmpE (by conv => lhs; whnf)) (.cons (.tmpE (by conv => lhs; whnf)) (.cons (.tmpE (by conv => lhs; whnf)) .nil))) ?_ | refine QRet.endN (.cons (.tmpE (by conv => lhs; whnf)) (.cons (.tmpE (by conv => lhs; whnf)) (.cons (.tmpE (by conv => lhs; whnf)) .nil))) ?_); try (focus first | rfl | (rfl; done))) | ((first | refine QRet.same (.cons (.tmpE (by conv => lhs; whnf)) (.cons (.tmpE (by conv => lhs; whnf)) (.cons (.tmpE (by conv => lhs; whnf)) .nil))) ?_ ?_ | refine QRet.sameN (.cons (.tmpE (by conv => lhs; whnf)) (.cons (.tmpE (by conv => lhs; whnf)) (.cons (.tmpE (by conv => lhs; whnf)) .nil))) ?_ ?_); try (rotate_left; (focus first | rfl | (rfl; done)); try (focus first | rfl | (rfl; done))))))
        | fail)
end Go.Proofs.YtceoldiblphahaaGreatDoor
