/- The chapter's example: works. -/
import Derived.Test.YtceoldiblphahaaGreatDoorMqP3
import Derived.Test.YtceoldiblphahaaGreatDoorMqL4
import Derived.Test.YtceoldiblphahaaGreatDoorMqW6
import Derived.KernelRfl
set_option linter.unusedVariables false
set_option linter.unusedSimpArgs false
set_option linter.unusedSectionVars false
namespace Go.Proofs.YtceoldiblphahaaGreatDoor
open Go.Mq
attribute [local irreducible] Ex ExOps QSeq QBlock QLoop QRet OpOk Callable DEx DRd Melt Wk Tree.pv pvs toks opv strs

set_option maxHeartbeats 4000000

def exText : ByteArray := ⟨#[105, 110, 116, 32, 42, 32, 98, 111, 111, 108, 32, 45, 62, 32, 116, 46, 117]⟩
def b_tu : ByteArray := ⟨#[116, 46, 117]⟩
def numNo : ByteArray → Tok × Int × Bool := fun _ => (⟨0, ⟨#[]⟩, 0, 0⟩, 0, false)
def numB (s : ByteArray) : Bool := decide (classF (firstF s) = 2) || decide (byteAt s 0 = 126)
def exToks : List Tok := [⟨3, b_int, 0, 0⟩, ⟨3, b_star, 0, 4⟩, ⟨3, b_bool, 0, 6⟩, ⟨3, b_arrow, 0, 11⟩, ⟨1, b_tu, 0, 14⟩]
theorem ex_num : ((List.range 17).all fun a => !numB (exText.extract a 17)) = true := by kernel_rfl
theorem ex_size : exText.size = 17 := rfl
theorem ex_numOk (a : Nat) (h : a < exText.size) : NumOk numNo (exText.extract a exText.size) := by
  have h1 := List.all_eq_true.1 ex_num a (List.mem_range.2 h)
  have h2 : ¬ numAt (exText.extract a exText.size) := by
    intro h3
    unfold numAt at h3
    rw [ex_size] at h3
    simp only [numB, Bool.not_eq_true', Bool.or_eq_false_iff, decide_eq_false_iff_not] at h1
    rcases h3 with h3 | h3
    · exact h1.1 h3
    · exact h1.2 h3
  exact ⟨fun h => absurd h h2, fun h => absurd h h2⟩
theorem ex_lex : lexF numNo exText = (exToks, 0, 0) := by kernel_rfl
def A1 : Tree := nod 1 ⟨#[]⟩ []
def A2 : Tree := nod 2 ⟨#[]⟩ []
def P6 : Tree := nod 6 ⟨#[]⟩ [A1, A2]
def N4 : Tree := nod 4 b_tu []
def T0 : Tree := nod 5 ⟨#[]⟩ [P6, N4]
theorem ex_type : typeF exToks 0 = (some T0, 5, 0) := by kernel_rfl
theorem ex_long : longF b_tu = true := by kernel_rfl
theorem ex_text : b_int ++ b_sstar ++ b_bool ++ b_sarrow ++ b_tu = exText := by kernel_rfl

theorem pv_leaf (k : Int) (s : ByteArray) : (nod k s []).pv = ndv k s (.slc [] 0) := by rw [Tree.pv]; simp only [pvs]; rfl
theorem pv_pair (k : Int) (s : ByteArray) (a b : Tree) : (nod k s [a, b]).pv = ndv k s (.slc [a.pv, b.pv] 2) := by rw [Tree.pv]; simp only [pvs]; rfl
abbrev T0v : PV := ndv 5 ⟨#[]⟩ (.slc [ndv 6 ⟨#[]⟩ (.slc [A1.pv, A2.pv] 2), ndv 4 b_tu (.slc [] 0)] 2)
theorem T0_pv : T0.pv = T0v := by
  show (nod 5 ⟨#[]⟩ [P6, N4]).pv = _
  rw [pv_pair]
  show ndv 5 ⟨#[]⟩ (.slc [(nod 6 ⟨#[]⟩ [A1, A2]).pv, (nod 4 b_tu []).pv] 2) = _
  rw [pv_pair, pv_leaf]
theorem ex_isType : Callable Tryz.prog 40 [T0.pv] [] (Ret (.bool true) []) := by
  have h1 : Callable Tryz.prog 40 [A1.pv] [] (Ret (.bool true) []) := by
    have h := isType_word 1 (.inl rfl); rwa [← pv_leaf] at h
  have h2 : Callable Tryz.prog 40 [A2.pv] [] (Ret (.bool true) []) := by
    have h := isType_word 2 (.inr rfl); rwa [← pv_leaf] at h
  have h3 : Callable Tryz.prog 40 [P6.pv] [] (Ret (.bool true) []) := by
    have h := isType_two 6 (.inr rfl) A1 A2 h1 h2; rwa [← pv_pair] at h
  have h4 : Callable Tryz.prog 40 [N4.pv] [] (Ret (.bool true) []) := by
    have h := isType_name b_tu (by decide) ex_long; rwa [← pv_leaf] at h
  have h := isType_two 5 (.inl rfl) P6 N4 h3 h4
  rwa [← pv_pair] at h
theorem ex_write : Callable Tryz.prog 25 [T0.pv, .int .i64 0] [] (Ret (.str exText) []) := by
  have h1 : Callable Tryz.prog 25 [A1.pv, .int .i64 2] [] (Ret (.str b_int) []) := by
    have h := write_word 1 2 (.inl rfl); rwa [← pv_leaf] at h
  have h2 : Callable Tryz.prog 25 [A2.pv, .int .i64 1] [] (Ret (.str b_bool) []) := by
    have h := write_word 2 1 (.inr rfl); rwa [← pv_leaf] at h
  have h3 : Callable Tryz.prog 25 [P6.pv, .int .i64 1] [] (Ret (.str (b_int ++ b_sstar ++ b_bool)) []) := by
    have h := write_pair A1 A2 b_int b_bool (by decide) (by decide) h1 h2; rwa [← pv_pair] at h
  have h4 : Callable Tryz.prog 25 [N4.pv, .int .i64 0] [] (Ret (.str b_tu) []) := by
    have h := write_name b_tu 0; rwa [← pv_leaf] at h
  have h := write_arrow P6 N4 (b_int ++ b_sstar ++ b_bool) b_tu (by decide) (by decide) h3 h4
  rwa [← pv_pair, ex_text] at h
theorem ex_Write : Callable Tryz.prog 7 [T0.pv] [] (Ret (.tup [.str exText, .int .i64 0]) []) := by
  have hc := check_ok2 T0 40 (by decide) (by decide) ex_isType
  have hT : Callable Tryz.prog 24 [T0.pv] [] (Ret (.int .i64 0) []) := by
    refine Callable.of_ex tOk [.tmp 2] Tryz.func24 rfl rfl rfl (Nat.le_of_ble_eq_true rfl) ?_
    repeat' (first
      | (refine Ex.g ?_; first | refine Ex.seq ?_ | refine Ex.region ?_ | refine Ex.skip ?_ | refine Ex.ret ?_ | refine Ex.exit ?_ | (refine Ex.gCond ?_; first | refine Ex.condT rfl ?_ | refine Ex.condF rfl ?_ | refine Ex.condD rfl (fun hc => ?_) (fun hc => ?_) | refine Ex.condN rfl (fun hc => ?_) (fun hc => ?_) | refine Ex.cond rfl (fun hc => ?_) (fun hc => ?_)))
      | refine ExOps.nil ?_
      | (refine ExOps.gPC ?_; first | refine ExOps.opR (OpOk.len tOk rfl rfl rfl) rfl ?_ | refine ExOps.opR (.cp rfl rfl rfl (h := hc)) rfl ?_)
      | (refine ExOps.gP ?_; first | (refine ExOps.gB ?_; refine ExOps.calcE tOk rfl rfl (by conv => lhs; simp [pev, upd, PV.cells, argSlots]) ?_) | refine ExOps.calcE tOk rfl rfl (by conv => lhs; whnf) ?_)
      | (refine QSeq.g ?_; first | refine QSeq.norm ?_ | refine QSeq.ret ?_ | refine QSeq.exit ?_)
      | (refine QRet.g ?_; (first | ((first | refine QRet.end_ (.cons (.tmpE (by conv => lhs; whnf)) .nil) ?_ | refine QRet.endN (.cons (.tmpE (by conv => lhs; whnf)) .nil) ?_); try (focus first | rfl | (rfl; done))) | ((first | refine QRet.same (.cons (.tmpE (by conv => lhs; whnf)) .nil) ?_ ?_ | refine QRet.sameN (.cons (.tmpE (by conv => lhs; whnf)) .nil) ?_ ?_); try (rotate_left; (focus first | rfl | (rfl; done)); try (focus first | rfl | (rfl; done))))))
      | fail)
  refine Callable.of_ex tOk [.tmp 2, .tmp 3] Tryz.func7 rfl rfl rfl (Nat.le_of_ble_eq_true rfl) ?_
  repeat' (first
    | (refine Ex.g ?_; first | refine Ex.seq ?_ | refine Ex.region ?_ | refine Ex.skip ?_ | refine Ex.ret ?_ | refine Ex.exit ?_ | (refine Ex.gCond ?_; first | refine Ex.condT rfl ?_ | refine Ex.condF rfl ?_ | refine Ex.condD rfl (fun hc => ?_) (fun hc => ?_) | refine Ex.condN rfl (fun hc => ?_) (fun hc => ?_) | refine Ex.cond rfl (fun hc => ?_) (fun hc => ?_)))
    | refine ExOps.nil ?_
    | (refine ExOps.gPC ?_; first | refine ExOps.opR (OpOk.len tOk rfl rfl rfl) rfl ?_ | refine ExOps.opR (.cp rfl rfl rfl (h := hT)) rfl ?_ | refine ExOps.opR (.cp rfl rfl rfl (h := ex_write)) rfl ?_)
    | (refine ExOps.gP ?_; first | (refine ExOps.gBin ?_; refine ExOps.calcE tOk rfl rfl (by first | exact eqT (by omega) | exact eqF (by omega) | fail) ?_) | (refine ExOps.gB ?_; refine ExOps.calcE tOk rfl rfl (by conv => lhs; simp [pev, upd, PV.cells, argSlots]) ?_) | refine ExOps.calcE tOk rfl rfl (by conv => lhs; whnf) ?_)
    | (refine QSeq.g ?_; first | refine QSeq.norm ?_ | refine QSeq.ret ?_ | refine QSeq.exit ?_)
    | (refine QRet.g ?_; (first | ((first | refine QRet.end_ (.cons (.tmpE (by conv => lhs; whnf)) (.cons (.tmpE (by conv => lhs; whnf)) .nil)) ?_ | refine QRet.endN (.cons (.tmpE (by conv => lhs; whnf)) (.cons (.tmpE (by conv => lhs; whnf)) .nil)) ?_); try (focus first | rfl | (rfl; done))) | ((first | refine QRet.same (.cons (.tmpE (by conv => lhs; whnf)) (.cons (.tmpE (by conv => lhs; whnf)) .nil)) ?_ ?_ | refine QRet.sameN (.cons (.tmpE (by conv => lhs; whnf)) (.cons (.tmpE (by conv => lhs; whnf)) .nil)) ?_ ?_); try (rotate_left; (focus first | rfl | (rfl; done)); try (focus first | rfl | (rfl; done))))))
    | fail)
attribute [local irreducible] lexF typeF
theorem ex_sane : Sane exToks := ⟨by decide, by decide⟩
theorem works_ok : Callable Tryz.prog 9 [] [] (Ret (.bool true) []) := by
  have hlex := lex_ok numNo exText ex_numOk
  have htyp := type_ok exToks 0 ex_sane
  have hwr := ex_Write
  rw [ex_lex] at hlex
  have hlp : lexPV (exToks, 0, 0) = .tup [.slc (toks exToks) 5, .int .i64 0, .int .i64 0] := rfl
  rw [hlp] at hlex
  rw [ex_type] at htyp
  simp only [opv] at htyp
  rw [T0_pv] at htyp hwr
  have hlen : exToks.length = 5 := rfl
  rw [hlen] at htyp
  generalize exToks = tk at *
  refine Callable.of_ex tOk [.tmp 0] Tryz.func9 rfl rfl rfl (Nat.le_of_ble_eq_true rfl) ?_
  repeat' (first
    | (refine Ex.g ?_; first | refine Ex.seq ?_ | refine Ex.region ?_ | refine Ex.skip ?_ | refine Ex.ret ?_ | refine Ex.exit ?_ | (refine Ex.gCond ?_; first | refine Ex.condT rfl ?_ | refine Ex.condF rfl ?_ | refine Ex.condD rfl (fun hc => ?_) (fun hc => ?_) | refine Ex.condN rfl (fun hc => ?_) (fun hc => ?_) | refine Ex.cond rfl (fun hc => ?_) (fun hc => ?_)))
    | refine ExOps.nil ?_
    | (refine ExOps.gPC ?_; first | refine ExOps.opR (OpOk.len tOk rfl rfl rfl) rfl ?_ | refine ExOps.opR (.cp rfl rfl rfl (h := hlex)) rfl ?_ | refine ExOps.opR (.cp rfl rfl rfl (h := htyp)) rfl ?_ | refine ExOps.opR (.cp rfl rfl rfl (h := hwr)) rfl ?_)
    | (refine ExOps.gP ?_; first | (refine ExOps.gBin ?_; refine ExOps.calcE tOk rfl rfl (by first | exact eqT (by omega) | exact eqF (by omega) | fail) ?_) | (refine ExOps.gBin ?_; refine ExOps.calcE tOk rfl rfl (by first | exact eqT rfl | exact eqF (fun h => h rfl) | exact beqT _ | exact wrapB _ _ | exact wrapE (by omega) (by omega) | exact wrapE32 (by omega) (by omega) | fail) ?_) | (refine ExOps.gB ?_; refine ExOps.calcE tOk rfl rfl (by conv => lhs; simp [pev, upd, PV.cells, argSlots]) ?_) | refine ExOps.calcE tOk rfl rfl (by conv => lhs; whnf) ?_ | refine ExOps.opR (OpOk.indexAddrE tOk rfl rfl rfl rfl rfl rfl (by omega) (by omega) rfl) rfl ?_)
    | (refine ExOps.gG ?_; first | (refine ExOps.gIn rfl rfl ?_; first | (refine ExOps.gGC ?_; first | refine ExOps.opRG rfl rfl rfl (OpOk.len tOk rfl rfl rfl) rfl ?_ | refine ExOps.opRG rfl rfl rfl (.cp rfl rfl rfl (h := hlex)) rfl ?_ | refine ExOps.opRG rfl rfl rfl (.cp rfl rfl rfl (h := htyp)) rfl ?_ | refine ExOps.opRG rfl rfl rfl (.cp rfl rfl rfl (h := hwr)) rfl ?_) | (first | (refine ExOps.gBin ?_; refine ExOps.calcGE tOk rfl rfl rfl rfl rfl (by first | exact eqT (by omega) | exact eqF (by omega) | fail) ?_) | (refine ExOps.gBin ?_; refine ExOps.calcGE tOk rfl rfl rfl rfl rfl (by first | exact eqT rfl | exact eqF (fun h => h rfl) | exact beqT _ | exact wrapB _ _ | exact wrapE (by omega) (by omega) | exact wrapE32 (by omega) (by omega) | fail) ?_) | refine ExOps.calcGE tOk rfl rfl rfl rfl rfl (by conv => lhs; whnf) ?_ | refine ExOps.opRG rfl rfl rfl (OpOk.indexAddrE tOk rfl rfl rfl rfl rfl rfl (by omega) (by omega) rfl) rfl ?_)) | refine ExOps.skipGU rfl rfl rfl rfl ?_ | refine ExOps.skipU rfl rfl rfl ?_ | (refine ExOps.gOr2 ?_; refine' ExOps.or2 tOk rfl rfl rfl rfl rfl rfl rfl (by first | rfl | exact isDec _) (fun hg => ?_) ?_; rotate_left 3) | (refine ExOps.gAnd2 ?_; refine' ExOps.and2 tOk rfl rfl rfl rfl rfl rfl rfl (by first | rfl | exact isDec _) (fun hg => ?_) ?_; rotate_left 3) | (refine ExOps.gOr5 ?_; refine' ExOps.or5 tOk rfl rfl rfl rfl rfl rfl rfl (by first | rfl | exact isDec _) (fun hg => ?_) ?_; rotate_left 3) | (refine ExOps.gOr6 ?_; refine' ExOps.or6 tOk rfl rfl rfl rfl rfl rfl rfl (by first | rfl | exact isDec _) (fun hg => ?_) ?_; rotate_left 3) | (refine ExOps.gAnd10 ?_; refine' ExOps.and10 tOk rfl rfl rfl rfl rfl rfl rfl (by first | rfl | exact isDec _) (fun hg => ?_) ?_; rotate_left 3) | ((fail_if_success refine ExOps.gIn rfl rfl ?_); first | refine ExOps.guardD rfl rfl rfl (fun hg => ?_) (fun hg => ?_) | refine ExOps.guard rfl rfl rfl (fun hg => ?_) (fun hg => ?_)))
    | (refine QSeq.g ?_; first | refine QSeq.norm ?_ | refine QSeq.ret ?_ | refine QSeq.exit ?_)
    | (refine QRet.g ?_; (first | ((first | refine QRet.end_ (.cons (.tmpE (by conv => lhs; whnf)) .nil) ?_ | refine QRet.endN (.cons (.tmpE (by conv => lhs; whnf)) .nil) ?_); try (focus first | rfl | (rfl; done))) | ((first | refine QRet.same (.cons (.tmpE (by conv => lhs; whnf)) .nil) ?_ ?_ | refine QRet.sameN (.cons (.tmpE (by conv => lhs; whnf)) .nil) ?_ ?_); try (rotate_left; (focus first | rfl | (rfl; done)); try (focus first | rfl | (rfl; done))))))
    | refine ⟨rfl, (by first | rfl | exact isDec _), (by (repeat' (first | exact WkS.refl _ | refine WkS.upd ?_ Wk.junk)); first | done | fail), rfl⟩
    | fail)
end Go.Proofs.YtceoldiblphahaaGreatDoor
