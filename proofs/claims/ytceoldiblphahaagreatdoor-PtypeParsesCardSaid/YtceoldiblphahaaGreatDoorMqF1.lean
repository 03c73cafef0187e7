/- The law PtypeParses: its contract over pure values. -/
import Derived.Test.YtceoldiblphahaaGreatDoorMqK1
import Derived.Test.YtceoldiblphahaaGreatDoorMqQ1
import Derived.Test.YtceoldiblphahaaGreatDoorMqU2
set_option linter.unusedVariables false
set_option linter.unusedSimpArgs false
set_option linter.unusedSectionVars false
namespace Go.Proofs.YtceoldiblphahaaGreatDoor
open Go.Mq
attribute [local irreducible] Ex ExOps QSeq QBlock QLoop QRet OpOk Callable DEx DRd Melt Wk Tree.pv pvs toks opv strs

attribute [local irreducible] nameF wordF checkF longF keyF nameAt longAt typF productF atomF consF typeF consG fewF
set_option maxHeartbeats 4000000

theorem few_sane (l : List Tok) : Sane (fewF l) := by
  constructor
  · unfold fewF; simp; omega
  · intro t ht
    unfold fewF at ht
    obtain ⟨u, _, rfl⟩ := List.mem_map.1 ht
    show (u.text.extract 0 (min u.text.size 140)).size ≤ _
    rw [ByteArray.size_extract]; omega
theorem typeF_size (l : List Tok) (i : Int) (hl : Sane l) (t : Tree) (h : (typeF l i).1 = some t) : t.size ≤ 2097152 := by
  unfold typeF at h
  split at h
  · cases h
  · rename_i hi
    split at h
    · rename_i he
      cases h
      have h1 := (parse_size l (fuelAt l i)).1 i he
      have h2 := (parse_in l (fuelAt l i)).1 i (by omega)
      have h3 := hl.1
      omega
    · cases h
theorem consG_size (l : List Tok) (i : Int) (hl : Sane l) : sizes (consG l i).1 ≤ 2097152 := by
  unfold consG
  split
  · simp [sizes]
  · rename_i hi
    split
    · rename_i he
      have h1 := (parse_size l (fuelAt l i)).2.2.2 i [] he
      have h2 := (parse_in l (fuelAt l i)).2.2.2 i [] (by omega)
      have h3 := hl.1
      simp only [sizes] at h1
      simp only; omega
    · simp [sizes]
theorem parses_ok (l : List Tok) (i : Int) (x : ByteArray) (hl : l.length ≤ 9223372036854775807) (ht : ∀ t ∈ l, t.text.size ≤ 9223372036854775807) : Callable Tryz.prog 4 [.slc (toks l) l.length, .int .i64 i, .str x] [] (Ret (.bool true) []) := by
  have hs := few_sane l
  have hfew := few_ok l hl ht
  have p1 := type_ok (fewF l) i hs
  have p2 := rtype_ok (fewF l) i hs
  have p3 := pcons_ok (fewF l) i hs
  have p4 := rcons2_ok (fewF l) i hs
  have p5 := name_ok (fewF l) i hs
  have p6 := rname_at (fewF l) i hs
  have p7 := long_at_ok (fewF l) i hs
  have p8 := rlng_at (fewF l) i hs
  have p9 := key_ok (fewF l) i x
  have p10 := rkey_ok (fewF l) i x
  have hsame : Callable Tryz.prog 19 [opv (typeF (fewF l) i).1, opv (typeF (fewF l) i).1] [] (Ret (.bool true) []) := by
    have hz := typeF_size (fewF l) i hs
    rcases hq : (typeF (fewF l) i).1 with _ | t
    · simp only [opv]; exact same_nil
    · simp only [opv]; exact same_ok 2097152 t (hz t hq) (by decide)
  have hall : Callable Tryz.prog 20 [consPV (consG (fewF l) i).2.2 (consG (fewF l) i).1, consPV (consG (fewF l) i).2.2 (consG (fewF l) i).1] [] (Ret (.bool true) []) := by
    have hz := consG_size (fewF l) i hs
    unfold consPV
    split
    · exact all_ok _ (by omega)
    · exact all_nil
  generalize opv (typeF (fewF l) i).1 = X at *
  generalize consPV (consG (fewF l) i).2.2 (consG (fewF l) i).1 = Y at *
  generalize (if nameAt (fewF l) i = true then textAt (fewF l) i else ⟨#[]⟩) = s1 at *
  generalize (if longAt (fewF l) i = true then textAt (fewF l) i else ⟨#[]⟩) = s2 at *
  generalize nameAt (fewF l) i = b1 at *
  generalize longAt (fewF l) i = b2 at *
  generalize keyF (fewF l) i x = b3 at *
  generalize fewF l = l' at *
  refine Callable.of_ex tOk [.tmp 6] Tryz.func4 rfl rfl rfl (Nat.le_of_ble_eq_true rfl) ?_
  repeat' (first
    | (refine Ex.g ?_; first | refine Ex.seq ?_ | refine Ex.region ?_ | refine Ex.skip ?_ | refine Ex.ret ?_ | refine Ex.exit ?_ | (refine Ex.gCond ?_; first | refine Ex.condT rfl ?_ | refine Ex.condF rfl ?_ | refine Ex.condD rfl (fun hc => ?_) (fun hc => ?_) | refine Ex.condN rfl (fun hc => ?_) (fun hc => ?_) | refine Ex.cond rfl (fun hc => ?_) (fun hc => ?_)))
    | refine ExOps.nil ?_
    | (refine ExOps.gPC ?_; first | refine ExOps.opR (OpOk.len tOk rfl rfl rfl) rfl ?_ | refine ExOps.opR (.cp rfl rfl rfl (h := hfew)) rfl ?_ | refine ExOps.opR (.cp rfl rfl rfl (h := p1)) rfl ?_ | refine ExOps.opR (.cp rfl rfl rfl (h := p2)) rfl ?_ | refine ExOps.opR (.cp rfl rfl rfl (h := p3)) rfl ?_ | refine ExOps.opR (.cp rfl rfl rfl (h := p4)) rfl ?_ | refine ExOps.opR (.cp rfl rfl rfl (h := p5)) rfl ?_ | refine ExOps.opR (.cp rfl rfl rfl (h := p6)) rfl ?_ | refine ExOps.opR (.cp rfl rfl rfl (h := p7)) rfl ?_ | refine ExOps.opR (.cp rfl rfl rfl (h := p8)) rfl ?_ | refine ExOps.opR (.cp rfl rfl rfl (h := p9)) rfl ?_ | refine ExOps.opR (.cp rfl rfl rfl (h := p10)) rfl ?_ | refine ExOps.opR (.cp rfl rfl rfl (h := hsame)) rfl ?_ | refine ExOps.opR (.cp rfl rfl rfl (h := hall)) rfl ?_ | refine ExOps.opR (.cp rfl rfl rfl (h := works_ok)) rfl ?_)
    | (refine ExOps.gP ?_; first | (refine ExOps.gBin ?_; refine ExOps.calcE tOk rfl rfl (by first | exact eqT rfl | exact eqF (fun h => h rfl) | exact beqT _ | exact wrapB _ _ | exact wrapE (by omega) (by omega) | exact wrapE32 (by omega) (by omega) | fail) ?_) | (refine ExOps.gB ?_; refine ExOps.calcE tOk rfl rfl (by conv => lhs; simp [pev, upd, PV.cells, argSlots]) ?_) | refine ExOps.calcE tOk rfl rfl (by conv => lhs; whnf) ?_)
    | (refine ExOps.gG ?_; first | (refine ExOps.gIn rfl rfl ?_; first | (refine ExOps.gGC ?_; first | refine ExOps.opRG rfl rfl rfl (OpOk.len tOk rfl rfl rfl) rfl ?_ | refine ExOps.opRG rfl rfl rfl (.cp rfl rfl rfl (h := hfew)) rfl ?_ | refine ExOps.opRG rfl rfl rfl (.cp rfl rfl rfl (h := p1)) rfl ?_ | refine ExOps.opRG rfl rfl rfl (.cp rfl rfl rfl (h := p2)) rfl ?_ | refine ExOps.opRG rfl rfl rfl (.cp rfl rfl rfl (h := p3)) rfl ?_ | refine ExOps.opRG rfl rfl rfl (.cp rfl rfl rfl (h := p4)) rfl ?_ | refine ExOps.opRG rfl rfl rfl (.cp rfl rfl rfl (h := p5)) rfl ?_ | refine ExOps.opRG rfl rfl rfl (.cp rfl rfl rfl (h := p6)) rfl ?_ | refine ExOps.opRG rfl rfl rfl (.cp rfl rfl rfl (h := p7)) rfl ?_ | refine ExOps.opRG rfl rfl rfl (.cp rfl rfl rfl (h := p8)) rfl ?_ | refine ExOps.opRG rfl rfl rfl (.cp rfl rfl rfl (h := p9)) rfl ?_ | refine ExOps.opRG rfl rfl rfl (.cp rfl rfl rfl (h := p10)) rfl ?_ | refine ExOps.opRG rfl rfl rfl (.cp rfl rfl rfl (h := hsame)) rfl ?_ | refine ExOps.opRG rfl rfl rfl (.cp rfl rfl rfl (h := hall)) rfl ?_ | refine ExOps.opRG rfl rfl rfl (.cp rfl rfl rfl (h := works_ok)) rfl ?_) | (first | (refine ExOps.gBin ?_; refine ExOps.calcGE tOk rfl rfl rfl rfl rfl (by first | exact eqT rfl | exact eqF (fun h => h rfl) | exact beqT _ | exact wrapB _ _ | exact wrapE (by omega) (by omega) | exact wrapE32 (by omega) (by omega) | fail) ?_) | refine ExOps.calcGE tOk rfl rfl rfl rfl rfl (by conv => lhs; whnf) ?_)) | refine ExOps.skipGU rfl rfl rfl rfl ?_ | refine ExOps.skipU rfl rfl rfl ?_ | (refine ExOps.gAnd1 ?_; refine' ExOps.and1 tOk rfl rfl rfl rfl rfl rfl rfl (by first | rfl | exact isDec _) (fun hg => ?_) ?_; rotate_left 3) | (refine ExOps.gAnd3 ?_; refine' ExOps.and3 tOk rfl rfl rfl rfl rfl rfl rfl (by first | rfl | exact isDec _) (fun hg => ?_) ?_; rotate_left 3) | (refine ExOps.gAnd9 ?_; refine' ExOps.and9 tOk rfl rfl rfl rfl rfl rfl rfl (by first | rfl | exact isDec _) (fun hg => ?_) ?_; rotate_left 3) | ((fail_if_success refine ExOps.gIn rfl rfl ?_); first | refine ExOps.guardD rfl rfl rfl (fun hg => ?_) (fun hg => ?_) | refine ExOps.guard rfl rfl rfl (fun hg => ?_) (fun hg => ?_)))
    | (refine QSeq.g ?_; first | refine QSeq.norm ?_ | refine QSeq.ret ?_ | refine QSeq.exit ?_)
    | (refine QRet.g ?_; (first | ((first | refine QRet.end_ (.cons (.tmpE (by conv => lhs; whnf)) .nil) ?_ | refine QRet.endN (.cons (.tmpE (by conv => lhs; whnf)) .nil) ?_); try (focus first | rfl | (rfl; done))) | ((first | refine QRet.same (.cons (.tmpE (by conv => lhs; whnf)) .nil) ?_ ?_ | refine QRet.sameN (.cons (.tmpE (by conv => lhs; whnf)) .nil) ?_ ?_); try (rotate_left; (focus first | rfl | (rfl; done)); try (focus first | rfl | (rfl; done))))))
    | refine ⟨rfl, (by first | rfl | exact isDec _), (by (repeat' (first | exact WkS.refl _ | refine WkS.upd ?_ Wk.junk)); first | done | fail), rfl⟩
    | fail)
end Go.Proofs.YtceoldiblphahaaGreatDoor
