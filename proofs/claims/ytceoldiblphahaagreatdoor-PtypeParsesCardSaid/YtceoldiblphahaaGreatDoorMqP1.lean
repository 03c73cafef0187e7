/- Contracts of packages arena, shape: whole trees, packed. -/
import Derived.Test.YtceoldiblphahaaGreatDoorMqW1
import Derived.Test.YtceoldiblphahaaGreatDoorMqN1
import Derived.Test.YtceoldiblphahaaGreatDoorMqZ2
set_option linter.unusedVariables false
set_option linter.unusedSimpArgs false
set_option linter.unusedSectionVars false
namespace Go.Proofs.YtceoldiblphahaaGreatDoor
open Go.Mq
attribute [local irreducible] Ex ExOps QSeq QBlock QLoop QRet OpOk Callable DEx DRd Melt Wk Tree.pv pvs toks opv strs

attribute [local irreducible] nameF wordF checkF longF
set_option maxHeartbeats 4000000

theorem nIndex_ok (l : List Tree) (f : Nat) (hl : l.length ≤ 4611686018427387904) (hp : ∀ u ∈ l, Callable Tryz.prog f [u.pv] [] (Ret (.bool false) [])) : Callable Tryz.prog 125 [.slc (pvs l) l.length, .func f [] []] [] (Ret (.int .i64 (-1)) []) := by
  refine Callable.of_ex tOk [.tmp 4] Tryz.func125 rfl rfl rfl (Nat.le_of_ble_eq_true rfl) ?_
  repeat' (first
    | (refine Ex.g ?_; first | refine Ex.seq ?_ | refine Ex.region ?_ | refine Ex.skip ?_ | refine Ex.ret ?_ | refine Ex.exit ?_ | refine Ex.block ?_ | (refine Ex.gCond ?_; first | refine Ex.condT rfl ?_ | refine Ex.condF rfl ?_ | refine Ex.condD rfl (fun hc => ?_) (fun hc => ?_) | refine Ex.condN rfl (fun hc => ?_) (fun hc => ?_) | refine Ex.cond rfl (fun hc => ?_) (fun hc => ?_)))
    | refine ExOps.nil ?_
    | (refine ExOps.gPC ?_; first | refine ExOps.opR (OpOk.len tOk rfl rfl rfl) rfl ?_)
    | (refine ExOps.gP ?_; first | (refine ExOps.gB ?_; refine ExOps.calcE tOk rfl rfl (by conv => lhs; simp [pev, upd, PV.cells, argSlots]) ?_) | refine ExOps.calcE tOk rfl rfl (by conv => lhs; whnf) ?_)
    | (refine QSeq.g ?_; first | refine QSeq.norm ?_ | refine QSeq.ret ?_ | refine QSeq.exit ?_)
    | (refine QBlock.g ?_; first | refine QBlock.norm ?_ | refine QBlock.ret ?_ | refine QBlock.hit rfl ?_ | refine QBlock.miss rfl ?_)
    | (refine QLoop.g ?_; first | refine QLoop.ret ?_ | refine QLoop.exit ?_)
    | (refine QRet.g ?_; (first | ((first | refine QRet.end_ (.cons (.tmpE (by conv => lhs; whnf)) .nil) ?_ | refine QRet.endN (.cons (.tmpE (by conv => lhs; whnf)) .nil) ?_); try (focus first | rfl | (simp_all [packP]; done))) | ((first | refine QRet.same (.cons (.tmpE (by conv => lhs; whnf)) .nil) ?_ ?_ | refine QRet.sameN (.cons (.tmpE (by conv => lhs; whnf)) .nil) ?_ ?_); try (rotate_left; (focus first | rfl | (simp_all [packP]; done)); try (focus first | rfl | (simp_all [packP]; done))))))
    | fail)
  refine Ex.loop (fun m s σ => ∃ k : Nat, (m + k = l.length) ∧ s 0 = .slc (pvs l) l.length ∧ s 1 = .func f [] [] ∧ s 7 = .int .i64 l.length ∧ s 8 = .int .i64 k ∧ σ = []) (l.length) ⟨0, (by first | rfl | assumption | omega | exact slot_check rfl | (simp; done) | (simp; omega) | fail), (by first | rfl | assumption | omega | exact slot_check rfl | (simp; done) | (simp; omega) | fail), (by first | rfl | assumption | omega | exact slot_check rfl | (simp; done) | (simp; omega) | fail), (by first | rfl | assumption | omega | exact slot_check rfl | (simp; done) | (simp; omega) | fail), (by first | rfl | assumption | omega | exact slot_check rfl | (simp; done) | (simp; omega) | fail), rfl⟩ ?_
  rintro m s σ ⟨k, hi0, h0, h1, h7, h8, rfl⟩
  refine (Ex.have_ (t := 0) h0 (Ex.have_ (t := 1) h1 (Ex.have_ (t := 7) h7 (Ex.have_ (t := 8) h8 ?_))))
  by_cases hk : k < l.length
  · repeat' (first
      | (refine Ex.g ?_; first | refine Ex.seq ?_ | refine Ex.region ?_ | refine Ex.skip ?_ | refine Ex.ret ?_ | refine Ex.exit ?_ | refine Ex.block ?_ | (refine Ex.gCond ?_; first | refine Ex.condT rfl ?_ | refine Ex.condF rfl ?_ | refine Ex.condD rfl (fun hc => ?_) (fun hc => ?_) | refine Ex.condN rfl (fun hc => ?_) (fun hc => ?_) | refine Ex.cond rfl (fun hc => ?_) (fun hc => ?_)))
      | refine ExOps.nil ?_
      | (refine ExOps.gPC ?_; first | refine ExOps.opR (OpOk.len tOk rfl rfl rfl) rfl ?_ | refine ExOps.opR (.cp rfl rfl rfl (h := hp _ (get!_mem (by omega)))) rfl ?_)
      | (refine ExOps.gP ?_; first | (refine ExOps.gBin ?_; refine ExOps.calcE tOk rfl rfl (by first | exact eqT (by omega) | exact eqF (by omega) | fail) ?_) | (refine ExOps.gBin ?_; refine ExOps.calcE tOk rfl rfl (by first | exact eqT rfl | exact eqF (fun h => h rfl) | exact beqT _ | exact wrapB _ _ | exact wrapE (by omega) (by omega) | exact wrapE32 (by omega) (by omega) | fail) ?_) | (refine ExOps.gB ?_; refine ExOps.calcE tOk rfl rfl (by conv => lhs; simp [pev, upd, PV.cells, argSlots]) ?_) | refine ExOps.calcE tOk rfl rfl (by conv => lhs; whnf) ?_ | refine ExOps.opR (OpOk.indexKid tOk rfl rfl rfl rfl rfl rfl rfl (by omega) (by omega) (by omega)) rfl ?_)
      | (refine QSeq.g ?_; first | refine QSeq.norm ?_ | refine QSeq.ret ?_ | refine QSeq.exit ?_)
      | (refine QBlock.g ?_; first | refine QBlock.norm ?_ | refine QBlock.ret ?_ | refine QBlock.hit rfl ?_ | refine QBlock.miss rfl ?_)
      | (refine QLoop.g ?_; first | refine QLoop.ret ?_ | refine QLoop.exit ?_)
      | (refine QRet.g ?_; (first | ((first | refine QRet.end_ (.cons (.tmpE (by conv => lhs; whnf)) .nil) ?_ | refine QRet.endN (.cons (.tmpE (by conv => lhs; whnf)) .nil) ?_); try (focus first | rfl | (simp_all [packP]; done))) | ((first | refine QRet.same (.cons (.tmpE (by conv => lhs; whnf)) .nil) ?_ ?_ | refine QRet.sameN (.cons (.tmpE (by conv => lhs; whnf)) .nil) ?_ ?_); try (rotate_left; (focus first | rfl | (simp_all [packP]; done)); try (focus first | rfl | (simp_all [packP]; done))))))
      | fail)
    exact QLoop.next (m - 1) (by omega) ⟨k + 1, (by first | rfl | omega | exact (congrArg (PV.int .i64) (by (try simp only [Int.toNat_natCast]); (try rw [wrap_id (by omega) (by omega)]); (try split) <;> omega)) | assumption | (simp; done) | fail), (by first | rfl | omega | exact (congrArg (PV.int .i64) (by (try simp only [Int.toNat_natCast]); (try rw [wrap_id (by omega) (by omega)]); (try split) <;> omega)) | assumption | (simp; done) | fail), (by first | rfl | omega | exact (congrArg (PV.int .i64) (by (try simp only [Int.toNat_natCast]); (try rw [wrap_id (by omega) (by omega)]); (try split) <;> omega)) | assumption | (simp; done) | fail), (by first | rfl | omega | exact (congrArg (PV.int .i64) (by (try simp only [Int.toNat_natCast]); (try rw [wrap_id (by omega) (by omega)]); (try split) <;> omega)) | assumption | (simp; done) | fail), (by first | rfl | omega | exact (congrArg (PV.int .i64) (by (try simp only [Int.toNat_natCast]); (try rw [wrap_id (by omega) (by omega)]); (try split) <;> omega)) | assumption | (simp; done) | fail), rfl⟩
  · repeat' (first
      | (refine Ex.g ?_; first | refine Ex.seq ?_ | refine Ex.region ?_ | refine Ex.skip ?_ | refine Ex.ret ?_ | refine Ex.exit ?_ | refine Ex.block ?_ | (refine Ex.gCond ?_; first | refine Ex.condT rfl ?_ | refine Ex.condF rfl ?_ | refine Ex.condD rfl (fun hc => ?_) (fun hc => ?_) | refine Ex.condN rfl (fun hc => ?_) (fun hc => ?_) | refine Ex.cond rfl (fun hc => ?_) (fun hc => ?_)))
      | refine ExOps.nil ?_
      | (refine ExOps.gPC ?_; first | refine ExOps.opR (OpOk.len tOk rfl rfl rfl) rfl ?_)
      | (refine ExOps.gP ?_; first | (refine ExOps.gBin ?_; refine ExOps.calcE tOk rfl rfl (by first | exact eqT (by omega) | exact eqF (by omega) | fail) ?_) | (refine ExOps.gB ?_; refine ExOps.calcE tOk rfl rfl (by conv => lhs; simp [pev, upd, PV.cells, argSlots]) ?_) | refine ExOps.calcE tOk rfl rfl (by conv => lhs; whnf) ?_)
      | (refine QSeq.g ?_; first | refine QSeq.norm ?_ | refine QSeq.ret ?_ | refine QSeq.exit ?_)
      | (refine QBlock.g ?_; first | refine QBlock.norm ?_ | refine QBlock.ret ?_ | refine QBlock.hit rfl ?_ | refine QBlock.miss rfl ?_)
      | (refine QLoop.g ?_; first | refine QLoop.ret ?_ | refine QLoop.exit ?_)
      | (refine QRet.g ?_; (first | ((first | refine QRet.end_ (.cons (.tmpE (by conv => lhs; whnf)) .nil) ?_ | refine QRet.endN (.cons (.tmpE (by conv => lhs; whnf)) .nil) ?_); try (focus first | rfl | (rfl; done))) | ((first | refine QRet.same (.cons (.tmpE (by conv => lhs; whnf)) .nil) ?_ ?_ | refine QRet.sameN (.cons (.tmpE (by conv => lhs; whnf)) .nil) ?_ ?_); try (rotate_left; (focus first | rfl | (rfl; done)); try (focus first | rfl | (rfl; done))))))
      | fail)
theorem nContains_ok (l : List Tree) (f : Nat) (hl : l.length ≤ 4611686018427387904) (hp : ∀ u ∈ l, Callable Tryz.prog f [u.pv] [] (Ret (.bool false) [])) : Callable Tryz.prog 116 [.slc (pvs l) l.length, .func f [] []] [] (Ret (.bool false) []) := by
  refine Callable.of_ex tOk [.tmp 4] Tryz.func116 rfl rfl rfl (Nat.le_of_ble_eq_true rfl) ?_
  repeat' (first
    | (refine Ex.g ?_; first | refine Ex.seq ?_ | refine Ex.region ?_ | refine Ex.skip ?_ | refine Ex.ret ?_ | refine Ex.exit ?_ | (refine Ex.gCond ?_; first | refine Ex.condT rfl ?_ | refine Ex.condF rfl ?_ | refine Ex.condD rfl (fun hc => ?_) (fun hc => ?_) | refine Ex.condN rfl (fun hc => ?_) (fun hc => ?_) | refine Ex.cond rfl (fun hc => ?_) (fun hc => ?_)))
    | refine ExOps.nil ?_
    | (refine ExOps.gPC ?_; first | refine ExOps.opR (OpOk.len tOk rfl rfl rfl) rfl ?_ | refine ExOps.opR (.cp rfl rfl rfl (h := nIndex_ok l f hl hp)) rfl ?_)
    | (refine ExOps.gP ?_; first | (refine ExOps.gBin ?_; refine ExOps.calcE tOk rfl rfl (by first | exact eqT (by omega) | exact eqF (by omega) | fail) ?_) | (refine ExOps.gB ?_; refine ExOps.calcE tOk rfl rfl (by conv => lhs; simp [pev, upd, PV.cells, argSlots]) ?_) | refine ExOps.calcE tOk rfl rfl (by conv => lhs; whnf) ?_)
    | (refine QSeq.g ?_; first | refine QSeq.norm ?_ | refine QSeq.ret ?_ | refine QSeq.exit ?_)
    | (refine QRet.g ?_; (first | ((first | refine QRet.end_ (.cons (.tmpE (by conv => lhs; whnf)) .nil) ?_ | refine QRet.endN (.cons (.tmpE (by conv => lhs; whnf)) .nil) ?_); try (focus first | rfl | (rfl; done))) | ((first | refine QRet.same (.cons (.tmpE (by conv => lhs; whnf)) .nil) ?_ ?_ | refine QRet.sameN (.cons (.tmpE (by conv => lhs; whnf)) .nil) ?_ ?_); try (rotate_left; (focus first | rfl | (rfl; done)); try (focus first | rfl | (rfl; done))))))
    | fail)
theorem whole_ok : ∀ (n : Nat) (t : Tree), t.size ≤ n → n ≤ 4611686018427387904 → Callable Tryz.prog 101 [t.pv] [] (Ret (.bool true) [])
  | 0, t, h, _ => by have := size_eq t; omega
  | n + 1, t, h, hn => by
    have hsz := size_eq t
    have hll := len_le_sizes t.kids
    have ih : ∀ u ∈ t.kids, Callable Tryz.prog 117 [u.pv] [] (Ret (.bool false) []) := fun u hu => by
      have h1 := whole_ok n u (by have := kids_lt hu; omega) (by omega)
      refine Callable.of_ex tOk [.tmp 2] Tryz.func117 rfl rfl rfl (Nat.le_of_ble_eq_true rfl) ?_
      repeat' (first
        | (refine Ex.g ?_; first | refine Ex.seq ?_ | refine Ex.region ?_ | refine Ex.skip ?_ | refine Ex.ret ?_ | refine Ex.exit ?_ | (refine Ex.gCond ?_; first | refine Ex.condT rfl ?_ | refine Ex.condF rfl ?_ | refine Ex.condD rfl (fun hc => ?_) (fun hc => ?_) | refine Ex.condN rfl (fun hc => ?_) (fun hc => ?_) | refine Ex.cond rfl (fun hc => ?_) (fun hc => ?_)))
        | refine ExOps.nil ?_
        | (refine ExOps.gPC ?_; first | refine ExOps.opR (OpOk.len tOk rfl rfl rfl) rfl ?_ | refine ExOps.opR (.cp rfl rfl rfl (h := h1)) rfl ?_)
        | (refine ExOps.gP ?_; first | (refine ExOps.gB ?_; refine ExOps.calcE tOk rfl rfl (by conv => lhs; simp [pev, upd, PV.cells, argSlots]) ?_) | refine ExOps.calcE tOk rfl rfl (by conv => lhs; whnf) ?_)
        | (refine QSeq.g ?_; first | refine QSeq.norm ?_ | refine QSeq.ret ?_ | refine QSeq.exit ?_)
        | (refine QRet.g ?_; (first | ((first | refine QRet.end_ (.cons (.tmpE (by conv => lhs; whnf)) .nil) ?_ | refine QRet.endN (.cons (.tmpE (by conv => lhs; whnf)) .nil) ?_); try (focus first | rfl | (rfl; done))) | ((first | refine QRet.same (.cons (.tmpE (by conv => lhs; whnf)) .nil) ?_ ?_ | refine QRet.sameN (.cons (.tmpE (by conv => lhs; whnf)) .nil) ?_ ?_); try (rotate_left; (focus first | rfl | (rfl; done)); try (focus first | rfl | (rfl; done))))))
        | fail)
    have hc := nContains_ok t.kids 117 (by omega) ih
    rw [pv_eq]
    refine Callable.of_ex tOk [.tmp 2] Tryz.func101 rfl rfl rfl (Nat.le_of_ble_eq_true rfl) ?_
    repeat' (first
      | (refine Ex.g ?_; first | refine Ex.seq ?_ | refine Ex.region ?_ | refine Ex.skip ?_ | refine Ex.ret ?_ | refine Ex.exit ?_ | (refine Ex.gCond ?_; first | refine Ex.condT rfl ?_ | refine Ex.condF rfl ?_ | refine Ex.condD rfl (fun hc => ?_) (fun hc => ?_) | refine Ex.condN rfl (fun hc => ?_) (fun hc => ?_) | refine Ex.cond rfl (fun hc => ?_) (fun hc => ?_)))
      | refine ExOps.nil ?_
      | (refine ExOps.gPC ?_; first | refine ExOps.opR (OpOk.len tOk rfl rfl rfl) rfl ?_ | refine ExOps.opR (.cp rfl rfl rfl (h := hc)) rfl ?_)
      | (refine ExOps.gP ?_; first | (refine ExOps.gB ?_; refine ExOps.calcE tOk rfl rfl (by conv => lhs; simp [pev, upd, PV.cells, argSlots]) ?_) | refine ExOps.calcE tOk rfl rfl (by conv => lhs; whnf) ?_)
      | (refine ExOps.gG ?_; first | (refine ExOps.gIn rfl rfl ?_; first | (refine ExOps.gGC ?_; first | refine ExOps.opRG rfl rfl rfl (OpOk.len tOk rfl rfl rfl) rfl ?_ | refine ExOps.opRG rfl rfl rfl (.cp rfl rfl rfl (h := hc)) rfl ?_) | (first | refine ExOps.calcGE tOk rfl rfl rfl rfl rfl (by conv => lhs; whnf) ?_)) | refine ExOps.skipGU rfl rfl rfl rfl ?_ | refine ExOps.skipU rfl rfl rfl ?_ | (refine ExOps.gAnd6 ?_; refine' ExOps.and6 tOk rfl rfl rfl rfl rfl rfl rfl (by first | rfl | exact isDec _) (fun hg => ?_) ?_; rotate_left 3) | ((fail_if_success refine ExOps.gIn rfl rfl ?_); first | refine ExOps.guardD rfl rfl rfl (fun hg => ?_) (fun hg => ?_) | refine ExOps.guard rfl rfl rfl (fun hg => ?_) (fun hg => ?_)))
      | (refine QSeq.g ?_; first | refine QSeq.norm ?_ | refine QSeq.ret ?_ | refine QSeq.exit ?_)
      | (refine QRet.g ?_; (first | ((first | refine QRet.end_ (.cons (.tmpE (by conv => lhs; whnf)) .nil) ?_ | refine QRet.endN (.cons (.tmpE (by conv => lhs; whnf)) .nil) ?_); try (focus first | rfl | (rfl; done))) | ((first | refine QRet.same (.cons (.tmpE (by conv => lhs; whnf)) .nil) ?_ ?_ | refine QRet.sameN (.cons (.tmpE (by conv => lhs; whnf)) .nil) ?_ ?_); try (rotate_left; (focus first | rfl | (rfl; done)); try (focus first | rfl | (rfl; done))))))
      | refine ⟨rfl, (by first | rfl | exact isDec _), (by (repeat' (first | exact WkS.refl _ | refine WkS.upd ?_ Wk.junk)); first | done | fail), rfl⟩
      | fail)

/-- The growing row of cells: none yet, or k of them. -/
def Grow (q : PV) (sp : List Ent) (k : Nat) : Prop := (q = .nils ∧ sp = [] ∧ k = 0) ∨ ∃ v cs, q = .own v cs k ∧ sp = [.spare v 5] ∧ cs.length = k * 5
abbrev packFn (a c : Nat) : PV := .func 103 [] [.loc a 0, .loc c 0]
def AddC (t : Tree) : Prop := ∀ (a c k : Nat) (q : PV) (sp : List Ent), Grow q sp k → k + t.size ≤ 100000 → Callable Tryz.prog 103 [t.pv, .loc a 0, .loc c 0] (sp ++ [.cells c [q], .cells a [packFn a c]])
    fun r σ => ∃ v cs, r = .int .i64 (k + t.size - 1 : Nat) ∧ σ = [.spare v 5, .cells c [.own v cs (k + t.size)], .cells a [packFn a c]] ∧ cs.length = (k + t.size) * 5
theorem add_ok (t : Tree) (ih : ∀ u ∈ t.kids, AddC u) : AddC t := by
  intro a c k q sp hg hk
  have hsz := size_eq t
  have hll := len_le_sizes t.kids
  rw [pv_eq]
  refine Callable.of_ex tOk [.tmp 4] Tryz.func103 rfl rfl rfl (Nat.le_of_ble_eq_true rfl) ?_
  repeat' (first
    | (refine Ex.g ?_; first | refine Ex.seq ?_ | refine Ex.region ?_ | refine Ex.skip ?_ | refine Ex.ret ?_ | refine Ex.exit ?_ | refine Ex.block ?_ | (refine Ex.gCond ?_; first | refine Ex.condT rfl ?_ | refine Ex.condF rfl ?_ | refine Ex.condD rfl (fun hc => ?_) (fun hc => ?_) | refine Ex.condN rfl (fun hc => ?_) (fun hc => ?_) | refine Ex.cond rfl (fun hc => ?_) (fun hc => ?_)))
    | refine ExOps.nil ?_
    | (refine ExOps.gPC ?_; first | refine ExOps.opR (OpOk.len tOk rfl rfl rfl) rfl ?_)
    | (refine ExOps.gP ?_; first | (refine ExOps.gBin ?_; refine ExOps.calcE tOk rfl rfl (by first | exact eqT rfl | exact eqF (fun h => h rfl) | exact beqT _ | exact wrapB _ _ | exact wrapE (by omega) (by omega) | exact wrapE32 (by omega) (by omega) | fail) ?_) | (refine ExOps.gB ?_; refine ExOps.calcE tOk rfl rfl (by conv => lhs; simp [pev, upd, PV.cells, argSlots]) ?_) | refine ExOps.calcE tOk rfl rfl (by conv => lhs; whnf) ?_)
    | (refine QSeq.g ?_; first | refine QSeq.norm ?_ | refine QSeq.ret ?_ | refine QSeq.exit ?_)
    | (refine QBlock.g ?_; first | refine QBlock.norm ?_ | refine QBlock.ret ?_ | refine QBlock.hit rfl ?_ | refine QBlock.miss rfl ?_)
    | (refine QLoop.g ?_; first | refine QLoop.ret ?_ | refine QLoop.exit ?_)
    | (refine QRet.g ?_; (first | ((first | refine QRet.end_ (.cons (.tmpE (by conv => lhs; whnf)) .nil) ?_ | refine QRet.endN (.cons (.tmpE (by conv => lhs; whnf)) .nil) ?_); try (focus first | rfl | (simp_all [packP]; done))) | ((first | refine QRet.same (.cons (.tmpE (by conv => lhs; whnf)) .nil) ?_ ?_ | refine QRet.sameN (.cons (.tmpE (by conv => lhs; whnf)) .nil) ?_ ?_); try (rotate_left; (focus first | rfl | (simp_all [packP]; done)); try (focus first | rfl | (simp_all [packP]; done))))))
    | fail)
  refine Ex.draw mixed [.take 0, .take 1, .take 2, .take 3, .take 4, .take 5, .take 6, .take 7, .take 8, .take 9, .take 10, .take 11, .take 12, .take 13, .take 14, .take 15, .take 16, .seq 17, .seq 18] [] [] (by kernel_rfl) ?_
  iterate 16 (refine DEx.takeE tOk rfl rfl rfl (by conv => lhs; whnf) ?_)
  refine DEx.takeE tOk rfl (r := .agg [.int .i64 t.kind, .int .i64 t.num, .str t.nm, .str t.mk', .nils]) rfl rfl rfl ?_
  refine DEx.seqE rfl rfl (OpOk.alloc tOk rfl rfl) ?_
  rintro _ _ ⟨b, rfl, rfl⟩
  refine ⟨fun h => absurd h (by decide), ?_⟩
  refine DEx.seqE0 rfl (OpOk.storeAll tOk rfl rfl rfl [] _ rfl rfl rfl rfl rfl rfl) ?_
  rintro _ _ ⟨rfl, rfl⟩
  refine ⟨fun h => absurd h (by decide), ?_⟩
  refine DEx.nil ?_
  repeat' (first
    | (refine Ex.g ?_; first | refine Ex.seq ?_ | refine Ex.region ?_ | refine Ex.skip ?_ | refine Ex.ret ?_ | refine Ex.exit ?_ | refine Ex.block ?_ | (refine Ex.gCond ?_; first | refine Ex.condT rfl ?_ | refine Ex.condF rfl ?_ | refine Ex.condD rfl (fun hc => ?_) (fun hc => ?_) | refine Ex.condN rfl (fun hc => ?_) (fun hc => ?_) | refine Ex.cond rfl (fun hc => ?_) (fun hc => ?_)))
    | refine ExOps.nil ?_
    | (refine ExOps.gPC ?_; first | refine ExOps.opR (OpOk.len tOk rfl rfl rfl) rfl ?_)
    | (refine ExOps.gP ?_; first | (refine ExOps.gBin ?_; refine ExOps.calcE tOk rfl rfl (by first | exact eqT rfl | exact eqF (fun h => h rfl) | exact beqT _ | exact wrapB _ _ | exact wrapE (by omega) (by omega) | exact wrapE32 (by omega) (by omega) | fail) ?_) | (refine ExOps.gB ?_; refine ExOps.calcE tOk rfl rfl (by conv => lhs; simp [pev, upd, PV.cells, argSlots]) ?_) | refine ExOps.calcE tOk rfl rfl (by conv => lhs; whnf) ?_)
    | (refine QSeq.g ?_; first | refine QSeq.norm ?_ | refine QSeq.ret ?_ | refine QSeq.exit ?_)
    | (refine QBlock.g ?_; first | refine QBlock.norm ?_ | refine QBlock.ret ?_ | refine QBlock.hit rfl ?_ | refine QBlock.miss rfl ?_)
    | (refine QLoop.g ?_; first | refine QLoop.ret ?_ | refine QLoop.exit ?_)
    | (refine QRet.g ?_; (first | ((first | refine QRet.end_ (.cons (.tmpE (by conv => lhs; whnf)) .nil) ?_ | refine QRet.endN (.cons (.tmpE (by conv => lhs; whnf)) .nil) ?_); try (focus first | rfl | (simp_all [packP]; done))) | ((first | refine QRet.same (.cons (.tmpE (by conv => lhs; whnf)) .nil) ?_ ?_ | refine QRet.sameN (.cons (.tmpE (by conv => lhs; whnf)) .nil) ?_ ?_); try (rotate_left; (focus first | rfl | (simp_all [packP]; done)); try (focus first | rfl | (simp_all [packP]; done))))))
    | fail)
  have hg0 : Grow q sp (k + sizes (t.kids.take 0)) := by simpa [sizes] using hg
  refine Ex.loop (fun m s σ => ∃ i : Nat, ∃ kq : PV, ∃ kp : List Ent, ∃ q : PV, ∃ sp : List Ent, (m + i = t.kids.length) ∧ ((kq = .nils ∧ kp = [] ∧ i = 0) ∨ ∃ v cs, kq = .own v cs i ∧ kp = [.spare v 1] ∧ cs.length = i) ∧ (Grow q sp (k + sizes (t.kids.take i))) ∧ s 0 = .ptr [.int .i64 t.kind, .int .i64 t.num, .str t.nm, .str t.mk', .slc (pvs t.kids) t.kids.length] ∧ s 1 = .loc a 0 ∧ s 2 = .loc c 0 ∧ s 5 = .loc b 0 ∧ s 28 = .slc (pvs t.kids) t.kids.length ∧ s 29 = .int .i64 t.kids.length ∧ s 30 = .int .i64 i ∧ σ = (kp ++ [.cells b [.int .i64 t.kind, .int .i64 t.num, .str t.nm, .str t.mk', kq]]) ++ (sp ++ [.cells c [q], .cells a [packFn a c]])) (t.kids.length) ⟨0, .nils, [], q, sp, (by first | rfl | assumption | omega | exact slot_check rfl | (simp; done) | (simp; omega) | fail), (by first | rfl | assumption | omega | exact slot_check rfl | (simp; done) | (simp; omega) | fail), (by first | rfl | assumption | omega | exact slot_check rfl | (simp; done) | (simp; omega) | fail), (by first | rfl | assumption | omega | exact slot_check rfl | (simp; done) | (simp; omega) | fail), (by first | rfl | assumption | omega | exact slot_check rfl | (simp; done) | (simp; omega) | fail), (by first | rfl | assumption | omega | exact slot_check rfl | (simp; done) | (simp; omega) | fail), (by first | rfl | assumption | omega | exact slot_check rfl | (simp; done) | (simp; omega) | fail), (by first | rfl | assumption | omega | exact slot_check rfl | (simp; done) | (simp; omega) | fail), (by first | rfl | assumption | omega | exact slot_check rfl | (simp; done) | (simp; omega) | fail), (by first | rfl | assumption | omega | exact slot_check rfl | (simp; done) | (simp; omega) | fail), rfl⟩ ?_
  rintro m s σ ⟨i, kq, kp, q, sp, hi0, hi1, hi2, h0, h1, h2, h5, h28, h29, h30, rfl⟩
  refine (Ex.have_ (t := 0) h0 (Ex.have_ (t := 1) h1 (Ex.have_ (t := 2) h2 (Ex.have_ (t := 5) h5 (Ex.have_ (t := 28) h28 (Ex.have_ (t := 29) h29 (Ex.have_ (t := 30) h30 ?_)))))))
  by_cases hi : i < t.kids.length
  · have hts := sizes_take_succ t.kids i hi
    have htl := sizes_take_le t.kids (i + 1)
    have hih := ih _ (get!_mem hi)
    have hsz1 := size_eq t.kids[i]!
    have hi2' := hi2
    rcases hi1 with ⟨rfl, rfl, hiz⟩ | ⟨kv, kcs, rfl, rfl, hkl⟩
    · rcases hi2 with ⟨rfl, rfl, hz⟩ | ⟨gv, gcs, rfl, rfl, hcl⟩
      · repeat' (first
          | (refine Ex.g ?_; first | refine Ex.seq ?_ | refine Ex.region ?_ | refine Ex.skip ?_ | refine Ex.ret ?_ | refine Ex.exit ?_ | refine Ex.block ?_ | (refine Ex.gCond ?_; first | refine Ex.condT rfl ?_ | refine Ex.condF rfl ?_ | refine Ex.condD rfl (fun hc => ?_) (fun hc => ?_) | refine Ex.condN rfl (fun hc => ?_) (fun hc => ?_) | refine Ex.cond rfl (fun hc => ?_) (fun hc => ?_)))
          | refine ExOps.nil ?_
          | (refine ExOps.gPC ?_; first | refine ExOps.opR (OpOk.len tOk rfl rfl rfl) rfl ?_)
          | (refine ExOps.gP ?_; first | (refine ExOps.gBin ?_; refine ExOps.calcE tOk rfl rfl (by first | exact eqT (by omega) | exact eqF (by omega) | fail) ?_) | (refine ExOps.gBin ?_; refine ExOps.calcE tOk rfl rfl (by first | exact eqT rfl | exact eqF (fun h => h rfl) | exact beqT _ | exact wrapB _ _ | exact wrapE (by omega) (by omega) | exact wrapE32 (by omega) (by omega) | fail) ?_) | (refine ExOps.gB ?_; refine ExOps.calcE tOk rfl rfl (by conv => lhs; simp [pev, upd, PV.cells, argSlots]) ?_) | refine ExOps.calcE tOk rfl rfl (by conv => lhs; whnf) ?_ | refine ExOps.opR (OpOk.indexKid tOk rfl rfl rfl rfl rfl rfl rfl (by omega) (by omega) (by omega)) rfl ?_)
          | (refine QSeq.g ?_; first | refine QSeq.norm ?_ | refine QSeq.ret ?_ | refine QSeq.exit ?_)
          | (refine QBlock.g ?_; first | refine QBlock.norm ?_ | refine QBlock.ret ?_ | refine QBlock.hit rfl ?_ | refine QBlock.miss rfl ?_)
          | (refine QLoop.g ?_; first | refine QLoop.ret ?_ | refine QLoop.exit ?_)
          | (refine QRet.g ?_; (first | ((first | refine QRet.end_ (.cons (.tmpE (by conv => lhs; whnf)) .nil) ?_ | refine QRet.endN (.cons (.tmpE (by conv => lhs; whnf)) .nil) ?_); try (focus first | rfl | (simp_all [packP]; done))) | ((first | refine QRet.same (.cons (.tmpE (by conv => lhs; whnf)) .nil) ?_ ?_ | refine QRet.sameN (.cons (.tmpE (by conv => lhs; whnf)) .nil) ?_ ?_); try (rotate_left; (focus first | rfl | (simp_all [packP]; done)); try (focus first | rfl | (simp_all [packP]; done))))))
          | fail)
        refine Ex.draw mixed [.take 0, .read 1, .read 2, .take 3, .seq 4, .take 5, .seq 6, .take 7, .seq 8] [.cells b [.int .i64 t.kind, .int .i64 t.num, .str t.nm, .str t.mk', .nils], .cells a [packFn a c]] [2, 3, 4, 5, 6] (by kernel_rfl) ?_
        refine DEx.takeE tOk rfl rfl rfl (by conv => lhs; whnf) ?_
        refine DEx.readE rfl rfl (by simp) (fun σ hE => OpOk.loadR tOk rfl rfl rfl (hE _ (.head _)) rfl (r := .nils) rfl) ?_
        refine DEx.readE rfl rfl (by simp) (fun σ hE => OpOk.loadR tOk rfl rfl rfl (hE _ (.tail _ (.head _))) rfl (r := packFn a c) rfl) ?_
        refine DEx.takeE tOk rfl rfl rfl (by conv => lhs; whnf) ?_
        refine DEx.seqE rfl rfl (OpOk.call rfl rfl rfl (Callable.frameAt [_] (hih a c _ _ _ (.inl ⟨rfl, rfl, hz⟩) (by omega)))) ?_
        rintro _ _ ⟨_, rfl, v2, cs2, rfl, rfl, hcl2⟩
        refine ⟨fun _ _ e he => by simp at he ⊢; rcases he with rfl | rfl <;> simp, ?_⟩
        refine DEx.takeE tOk rfl (r := .ful [.int .i64 (k + sizes (t.kids.take i) + t.kids[i]!.size - 1 : Nat)] 1) rfl rfl rfl ?_
        refine DEx.seqE rfl rfl (OpOk.appN tOk rfl rfl rfl rfl rfl (by decide) (by decide) rfl rfl rfl rfl rfl rfl) ?_
        rintro _ _ ⟨v3, rfl, rfl⟩
        refine ⟨fun _ _ e he => by simp at he ⊢; rcases he with rfl | rfl <;> simp, ?_⟩
        refine DEx.takeE tOk rfl rfl rfl (by conv => lhs; whnf) ?_
        refine DEx.seqE0 rfl (OpOk.store1 tOk rfl rfl rfl rfl [_] _ rfl rfl rfl rfl rfl (by simp only [List.set, Nat.reduceAdd]; rfl)) ?_
        rintro _ _ ⟨rfl, rfl⟩
        refine ⟨fun h => absurd h (by decide), ?_⟩
        refine DEx.nil ?_
        repeat' (first
          | (refine Ex.g ?_; first | refine Ex.seq ?_ | refine Ex.region ?_ | refine Ex.skip ?_ | refine Ex.ret ?_ | refine Ex.exit ?_ | refine Ex.block ?_ | (refine Ex.gCond ?_; first | refine Ex.condT rfl ?_ | refine Ex.condF rfl ?_ | refine Ex.condD rfl (fun hc => ?_) (fun hc => ?_) | refine Ex.condN rfl (fun hc => ?_) (fun hc => ?_) | refine Ex.cond rfl (fun hc => ?_) (fun hc => ?_)))
          | refine ExOps.nil ?_
          | (refine ExOps.gPC ?_; first | refine ExOps.opR (OpOk.len tOk rfl rfl rfl) rfl ?_)
          | (refine ExOps.gP ?_; first | (refine ExOps.gBin ?_; refine ExOps.calcE tOk rfl rfl (by first | exact eqT rfl | exact eqF (fun h => h rfl) | exact beqT _ | exact wrapB _ _ | exact wrapE (by omega) (by omega) | exact wrapE32 (by omega) (by omega) | fail) ?_) | (refine ExOps.gB ?_; refine ExOps.calcE tOk rfl rfl (by conv => lhs; simp [pev, upd, PV.cells, argSlots]) ?_) | refine ExOps.calcE tOk rfl rfl (by conv => lhs; whnf) ?_)
          | (refine QSeq.g ?_; first | refine QSeq.norm ?_ | refine QSeq.ret ?_ | refine QSeq.exit ?_)
          | (refine QBlock.g ?_; first | refine QBlock.norm ?_ | refine QBlock.ret ?_ | refine QBlock.hit rfl ?_ | refine QBlock.miss rfl ?_)
          | (refine QLoop.g ?_; first | refine QLoop.ret ?_ | refine QLoop.exit ?_)
          | (refine QRet.g ?_; (first | ((first | refine QRet.end_ (.cons (.tmpE (by conv => lhs; whnf)) .nil) ?_ | refine QRet.endN (.cons (.tmpE (by conv => lhs; whnf)) .nil) ?_); try (focus first | rfl | (simp_all [packP]; done))) | ((first | refine QRet.same (.cons (.tmpE (by conv => lhs; whnf)) .nil) ?_ ?_ | refine QRet.sameN (.cons (.tmpE (by conv => lhs; whnf)) .nil) ?_ ?_); try (rotate_left; (focus first | rfl | (simp_all [packP]; done)); try (focus first | rfl | (simp_all [packP]; done))))))
          | fail)
        refine QLoop.next (m - 1) (by omega) ⟨i + 1, .own v3 [.int .i64 (k + sizes (t.kids.take i) + t.kids[i]!.size - 1 : Nat)] (i + 1), [.spare v3 1], .own v2 cs2 (k + sizes (t.kids.take (i + 1))), [.spare v2 5], by omega, .inr ⟨v3, _, rfl, rfl, by simp [hiz]⟩, .inr ⟨v2, cs2, rfl, rfl, by rw [hts, ← Nat.add_assoc]; exact hcl2⟩, rfl, rfl, rfl, rfl, rfl, rfl, rfl, ?_⟩
        rw [hts, ← Nat.add_assoc]
        subst hiz; rfl
      · repeat' (first
          | (refine Ex.g ?_; first | refine Ex.seq ?_ | refine Ex.region ?_ | refine Ex.skip ?_ | refine Ex.ret ?_ | refine Ex.exit ?_ | refine Ex.block ?_ | (refine Ex.gCond ?_; first | refine Ex.condT rfl ?_ | refine Ex.condF rfl ?_ | refine Ex.condD rfl (fun hc => ?_) (fun hc => ?_) | refine Ex.condN rfl (fun hc => ?_) (fun hc => ?_) | refine Ex.cond rfl (fun hc => ?_) (fun hc => ?_)))
          | refine ExOps.nil ?_
          | (refine ExOps.gPC ?_; first | refine ExOps.opR (OpOk.len tOk rfl rfl rfl) rfl ?_)
          | (refine ExOps.gP ?_; first | (refine ExOps.gBin ?_; refine ExOps.calcE tOk rfl rfl (by first | exact eqT (by omega) | exact eqF (by omega) | fail) ?_) | (refine ExOps.gBin ?_; refine ExOps.calcE tOk rfl rfl (by first | exact eqT rfl | exact eqF (fun h => h rfl) | exact beqT _ | exact wrapB _ _ | exact wrapE (by omega) (by omega) | exact wrapE32 (by omega) (by omega) | fail) ?_) | (refine ExOps.gB ?_; refine ExOps.calcE tOk rfl rfl (by conv => lhs; simp [pev, upd, PV.cells, argSlots]) ?_) | refine ExOps.calcE tOk rfl rfl (by conv => lhs; whnf) ?_ | refine ExOps.opR (OpOk.indexKid tOk rfl rfl rfl rfl rfl rfl rfl (by omega) (by omega) (by omega)) rfl ?_)
          | (refine QSeq.g ?_; first | refine QSeq.norm ?_ | refine QSeq.ret ?_ | refine QSeq.exit ?_)
          | (refine QBlock.g ?_; first | refine QBlock.norm ?_ | refine QBlock.ret ?_ | refine QBlock.hit rfl ?_ | refine QBlock.miss rfl ?_)
          | (refine QLoop.g ?_; first | refine QLoop.ret ?_ | refine QLoop.exit ?_)
          | (refine QRet.g ?_; (first | ((first | refine QRet.end_ (.cons (.tmpE (by conv => lhs; whnf)) .nil) ?_ | refine QRet.endN (.cons (.tmpE (by conv => lhs; whnf)) .nil) ?_); try (focus first | rfl | (simp_all [packP]; done))) | ((first | refine QRet.same (.cons (.tmpE (by conv => lhs; whnf)) .nil) ?_ ?_ | refine QRet.sameN (.cons (.tmpE (by conv => lhs; whnf)) .nil) ?_ ?_); try (rotate_left; (focus first | rfl | (simp_all [packP]; done)); try (focus first | rfl | (simp_all [packP]; done))))))
          | fail)
        refine Ex.draw mixed [.take 0, .read 1, .read 2, .take 3, .seq 4, .take 5, .seq 6, .take 7, .seq 8] [.cells b [.int .i64 t.kind, .int .i64 t.num, .str t.nm, .str t.mk', .nils], .cells a [packFn a c]] [2, 3, 4, 5, 6] (by kernel_rfl) ?_
        refine DEx.takeE tOk rfl rfl rfl (by conv => lhs; whnf) ?_
        refine DEx.readE rfl rfl (by simp) (fun σ hE => OpOk.loadR tOk rfl rfl rfl (hE _ (.head _)) rfl (r := .nils) rfl) ?_
        refine DEx.readE rfl rfl (by simp) (fun σ hE => OpOk.loadR tOk rfl rfl rfl (hE _ (.tail _ (.head _))) rfl (r := packFn a c) rfl) ?_
        refine DEx.takeE tOk rfl rfl rfl (by conv => lhs; whnf) ?_
        refine DEx.seqE rfl rfl (OpOk.call rfl rfl rfl (Callable.frameAt [_] (hih a c _ _ _ (.inr ⟨_, _, rfl, rfl, hcl⟩) (by omega)))) ?_
        rintro _ _ ⟨_, rfl, v2, cs2, rfl, rfl, hcl2⟩
        refine ⟨fun _ _ e he => by simp at he ⊢; rcases he with rfl | rfl <;> simp, ?_⟩
        refine DEx.takeE tOk rfl (r := .ful [.int .i64 (k + sizes (t.kids.take i) + t.kids[i]!.size - 1 : Nat)] 1) rfl rfl rfl ?_
        refine DEx.seqE rfl rfl (OpOk.appN tOk rfl rfl rfl rfl rfl (by decide) (by decide) rfl rfl rfl rfl rfl rfl) ?_
        rintro _ _ ⟨v3, rfl, rfl⟩
        refine ⟨fun _ _ e he => by simp at he ⊢; rcases he with rfl | rfl <;> simp, ?_⟩
        refine DEx.takeE tOk rfl rfl rfl (by conv => lhs; whnf) ?_
        refine DEx.seqE0 rfl (OpOk.store1 tOk rfl rfl rfl rfl [_] _ rfl rfl rfl rfl rfl (by simp only [List.set, Nat.reduceAdd]; rfl)) ?_
        rintro _ _ ⟨rfl, rfl⟩
        refine ⟨fun h => absurd h (by decide), ?_⟩
        refine DEx.nil ?_
        repeat' (first
          | (refine Ex.g ?_; first | refine Ex.seq ?_ | refine Ex.region ?_ | refine Ex.skip ?_ | refine Ex.ret ?_ | refine Ex.exit ?_ | refine Ex.block ?_ | (refine Ex.gCond ?_; first | refine Ex.condT rfl ?_ | refine Ex.condF rfl ?_ | refine Ex.condD rfl (fun hc => ?_) (fun hc => ?_) | refine Ex.condN rfl (fun hc => ?_) (fun hc => ?_) | refine Ex.cond rfl (fun hc => ?_) (fun hc => ?_)))
          | refine ExOps.nil ?_
          | (refine ExOps.gPC ?_; first | refine ExOps.opR (OpOk.len tOk rfl rfl rfl) rfl ?_)
          | (refine ExOps.gP ?_; first | (refine ExOps.gBin ?_; refine ExOps.calcE tOk rfl rfl (by first | exact eqT rfl | exact eqF (fun h => h rfl) | exact beqT _ | exact wrapB _ _ | exact wrapE (by omega) (by omega) | exact wrapE32 (by omega) (by omega) | fail) ?_) | (refine ExOps.gB ?_; refine ExOps.calcE tOk rfl rfl (by conv => lhs; simp [pev, upd, PV.cells, argSlots]) ?_) | refine ExOps.calcE tOk rfl rfl (by conv => lhs; whnf) ?_)
          | (refine QSeq.g ?_; first | refine QSeq.norm ?_ | refine QSeq.ret ?_ | refine QSeq.exit ?_)
          | (refine QBlock.g ?_; first | refine QBlock.norm ?_ | refine QBlock.ret ?_ | refine QBlock.hit rfl ?_ | refine QBlock.miss rfl ?_)
          | (refine QLoop.g ?_; first | refine QLoop.ret ?_ | refine QLoop.exit ?_)
          | (refine QRet.g ?_; (first | ((first | refine QRet.end_ (.cons (.tmpE (by conv => lhs; whnf)) .nil) ?_ | refine QRet.endN (.cons (.tmpE (by conv => lhs; whnf)) .nil) ?_); try (focus first | rfl | (simp_all [packP]; done))) | ((first | refine QRet.same (.cons (.tmpE (by conv => lhs; whnf)) .nil) ?_ ?_ | refine QRet.sameN (.cons (.tmpE (by conv => lhs; whnf)) .nil) ?_ ?_); try (rotate_left; (focus first | rfl | (simp_all [packP]; done)); try (focus first | rfl | (simp_all [packP]; done))))))
          | fail)
        refine QLoop.next (m - 1) (by omega) ⟨i + 1, .own v3 [.int .i64 (k + sizes (t.kids.take i) + t.kids[i]!.size - 1 : Nat)] (i + 1), [.spare v3 1], .own v2 cs2 (k + sizes (t.kids.take (i + 1))), [.spare v2 5], by omega, .inr ⟨v3, _, rfl, rfl, by simp [hiz]⟩, .inr ⟨v2, cs2, rfl, rfl, by rw [hts, ← Nat.add_assoc]; exact hcl2⟩, rfl, rfl, rfl, rfl, rfl, rfl, rfl, ?_⟩
        rw [hts, ← Nat.add_assoc]
        subst hiz; rfl
    · rcases hi2 with ⟨rfl, rfl, hz⟩ | ⟨gv, gcs, rfl, rfl, hcl⟩
      · repeat' (first
          | (refine Ex.g ?_; first | refine Ex.seq ?_ | refine Ex.region ?_ | refine Ex.skip ?_ | refine Ex.ret ?_ | refine Ex.exit ?_ | refine Ex.block ?_ | (refine Ex.gCond ?_; first | refine Ex.condT rfl ?_ | refine Ex.condF rfl ?_ | refine Ex.condD rfl (fun hc => ?_) (fun hc => ?_) | refine Ex.condN rfl (fun hc => ?_) (fun hc => ?_) | refine Ex.cond rfl (fun hc => ?_) (fun hc => ?_)))
          | refine ExOps.nil ?_
          | (refine ExOps.gPC ?_; first | refine ExOps.opR (OpOk.len tOk rfl rfl rfl) rfl ?_)
          | (refine ExOps.gP ?_; first | (refine ExOps.gBin ?_; refine ExOps.calcE tOk rfl rfl (by first | exact eqT (by omega) | exact eqF (by omega) | fail) ?_) | (refine ExOps.gBin ?_; refine ExOps.calcE tOk rfl rfl (by first | exact eqT rfl | exact eqF (fun h => h rfl) | exact beqT _ | exact wrapB _ _ | exact wrapE (by omega) (by omega) | exact wrapE32 (by omega) (by omega) | fail) ?_) | (refine ExOps.gB ?_; refine ExOps.calcE tOk rfl rfl (by conv => lhs; simp [pev, upd, PV.cells, argSlots]) ?_) | refine ExOps.calcE tOk rfl rfl (by conv => lhs; whnf) ?_ | refine ExOps.opR (OpOk.indexKid tOk rfl rfl rfl rfl rfl rfl rfl (by omega) (by omega) (by omega)) rfl ?_)
          | (refine QSeq.g ?_; first | refine QSeq.norm ?_ | refine QSeq.ret ?_ | refine QSeq.exit ?_)
          | (refine QBlock.g ?_; first | refine QBlock.norm ?_ | refine QBlock.ret ?_ | refine QBlock.hit rfl ?_ | refine QBlock.miss rfl ?_)
          | (refine QLoop.g ?_; first | refine QLoop.ret ?_ | refine QLoop.exit ?_)
          | (refine QRet.g ?_; (first | ((first | refine QRet.end_ (.cons (.tmpE (by conv => lhs; whnf)) .nil) ?_ | refine QRet.endN (.cons (.tmpE (by conv => lhs; whnf)) .nil) ?_); try (focus first | rfl | (simp_all [packP]; done))) | ((first | refine QRet.same (.cons (.tmpE (by conv => lhs; whnf)) .nil) ?_ ?_ | refine QRet.sameN (.cons (.tmpE (by conv => lhs; whnf)) .nil) ?_ ?_); try (rotate_left; (focus first | rfl | (simp_all [packP]; done)); try (focus first | rfl | (simp_all [packP]; done))))))
          | fail)
        refine Ex.draw mixed [.take 0, .read 1, .read 2, .take 3, .seq 4, .take 5, .seq 6, .take 7, .seq 8] [.cells b [.int .i64 t.kind, .int .i64 t.num, .str t.nm, .str t.mk', (.own kv kcs i)], .cells a [packFn a c]] [2, 3, 4, 5, 6] (by kernel_rfl) ?_
        refine DEx.takeE tOk rfl rfl rfl (by conv => lhs; whnf) ?_
        refine DEx.readE rfl rfl (by simp) (fun σ hE => OpOk.loadR tOk rfl rfl rfl (hE _ (.head _)) rfl (r := (.own kv kcs i)) rfl) ?_
        refine DEx.readE rfl rfl (by simp) (fun σ hE => OpOk.loadR tOk rfl rfl rfl (hE _ (.tail _ (.head _))) rfl (r := packFn a c) rfl) ?_
        refine DEx.takeE tOk rfl rfl rfl (by conv => lhs; whnf) ?_
        refine DEx.seqE rfl rfl (OpOk.call rfl rfl rfl (Callable.frameAt [_, _] (hih a c _ _ _ (.inl ⟨rfl, rfl, hz⟩) (by omega)))) ?_
        rintro _ _ ⟨_, rfl, v2, cs2, rfl, rfl, hcl2⟩
        refine ⟨fun _ _ e he => by simp at he ⊢; rcases he with rfl | rfl <;> simp, ?_⟩
        refine DEx.takeE tOk rfl (r := .ful [.int .i64 (k + sizes (t.kids.take i) + t.kids[i]!.size - 1 : Nat)] 1) rfl rfl rfl ?_
        refine DEx.seqE rfl rfl (OpOk.app tOk rfl rfl rfl rfl rfl (by decide) (by decide) rfl rfl rfl [] rfl (by rw [hkl]; exact (Nat.mul_one _).symm) rfl rfl rfl (by omega)) ?_
        rintro _ _ ⟨v3, rfl, rfl⟩
        refine ⟨fun _ _ e he => by simp at he ⊢; rcases he with rfl | rfl <;> simp, ?_⟩
        refine DEx.takeE tOk rfl rfl rfl (by conv => lhs; whnf) ?_
        refine DEx.seqE0 rfl (OpOk.store1 tOk rfl rfl rfl rfl [_] _ rfl rfl rfl rfl rfl (by simp only [List.set, Nat.reduceAdd]; rfl)) ?_
        rintro _ _ ⟨rfl, rfl⟩
        refine ⟨fun h => absurd h (by decide), ?_⟩
        refine DEx.nil ?_
        repeat' (first
          | (refine Ex.g ?_; first | refine Ex.seq ?_ | refine Ex.region ?_ | refine Ex.skip ?_ | refine Ex.ret ?_ | refine Ex.exit ?_ | refine Ex.block ?_ | (refine Ex.gCond ?_; first | refine Ex.condT rfl ?_ | refine Ex.condF rfl ?_ | refine Ex.condD rfl (fun hc => ?_) (fun hc => ?_) | refine Ex.condN rfl (fun hc => ?_) (fun hc => ?_) | refine Ex.cond rfl (fun hc => ?_) (fun hc => ?_)))
          | refine ExOps.nil ?_
          | (refine ExOps.gPC ?_; first | refine ExOps.opR (OpOk.len tOk rfl rfl rfl) rfl ?_)
          | (refine ExOps.gP ?_; first | (refine ExOps.gBin ?_; refine ExOps.calcE tOk rfl rfl (by first | exact eqT rfl | exact eqF (fun h => h rfl) | exact beqT _ | exact wrapB _ _ | exact wrapE (by omega) (by omega) | exact wrapE32 (by omega) (by omega) | fail) ?_) | (refine ExOps.gB ?_; refine ExOps.calcE tOk rfl rfl (by conv => lhs; simp [pev, upd, PV.cells, argSlots]) ?_) | refine ExOps.calcE tOk rfl rfl (by conv => lhs; whnf) ?_)
          | (refine QSeq.g ?_; first | refine QSeq.norm ?_ | refine QSeq.ret ?_ | refine QSeq.exit ?_)
          | (refine QBlock.g ?_; first | refine QBlock.norm ?_ | refine QBlock.ret ?_ | refine QBlock.hit rfl ?_ | refine QBlock.miss rfl ?_)
          | (refine QLoop.g ?_; first | refine QLoop.ret ?_ | refine QLoop.exit ?_)
          | (refine QRet.g ?_; (first | ((first | refine QRet.end_ (.cons (.tmpE (by conv => lhs; whnf)) .nil) ?_ | refine QRet.endN (.cons (.tmpE (by conv => lhs; whnf)) .nil) ?_); try (focus first | rfl | (simp_all [packP]; done))) | ((first | refine QRet.same (.cons (.tmpE (by conv => lhs; whnf)) .nil) ?_ ?_ | refine QRet.sameN (.cons (.tmpE (by conv => lhs; whnf)) .nil) ?_ ?_); try (rotate_left; (focus first | rfl | (simp_all [packP]; done)); try (focus first | rfl | (simp_all [packP]; done))))))
          | fail)
        refine QLoop.next (m - 1) (by omega) ⟨i + 1, .own v3 (kcs ++ [.int .i64 (k + sizes (t.kids.take i) + t.kids[i]!.size - 1 : Nat)]) (i + 1), [.spare v3 1], .own v2 cs2 (k + sizes (t.kids.take (i + 1))), [.spare v2 5], by omega, .inr ⟨v3, _, rfl, rfl, by simp [hkl]⟩, .inr ⟨v2, cs2, rfl, rfl, by rw [hts, ← Nat.add_assoc]; exact hcl2⟩, rfl, rfl, rfl, rfl, rfl, rfl, rfl, ?_⟩
        rw [hts, ← Nat.add_assoc]
        rfl
      · repeat' (first
          | (refine Ex.g ?_; first | refine Ex.seq ?_ | refine Ex.region ?_ | refine Ex.skip ?_ | refine Ex.ret ?_ | refine Ex.exit ?_ | refine Ex.block ?_ | (refine Ex.gCond ?_; first | refine Ex.condT rfl ?_ | refine Ex.condF rfl ?_ | refine Ex.condD rfl (fun hc => ?_) (fun hc => ?_) | refine Ex.condN rfl (fun hc => ?_) (fun hc => ?_) | refine Ex.cond rfl (fun hc => ?_) (fun hc => ?_)))
          | refine ExOps.nil ?_
          | (refine ExOps.gPC ?_; first | refine ExOps.opR (OpOk.len tOk rfl rfl rfl) rfl ?_)
          | (refine ExOps.gP ?_; first | (refine ExOps.gBin ?_; refine ExOps.calcE tOk rfl rfl (by first | exact eqT (by omega) | exact eqF (by omega) | fail) ?_) | (refine ExOps.gBin ?_; refine ExOps.calcE tOk rfl rfl (by first | exact eqT rfl | exact eqF (fun h => h rfl) | exact beqT _ | exact wrapB _ _ | exact wrapE (by omega) (by omega) | exact wrapE32 (by omega) (by omega) | fail) ?_) | (refine ExOps.gB ?_; refine ExOps.calcE tOk rfl rfl (by conv => lhs; simp [pev, upd, PV.cells, argSlots]) ?_) | refine ExOps.calcE tOk rfl rfl (by conv => lhs; whnf) ?_ | refine ExOps.opR (OpOk.indexKid tOk rfl rfl rfl rfl rfl rfl rfl (by omega) (by omega) (by omega)) rfl ?_)
          | (refine QSeq.g ?_; first | refine QSeq.norm ?_ | refine QSeq.ret ?_ | refine QSeq.exit ?_)
          | (refine QBlock.g ?_; first | refine QBlock.norm ?_ | refine QBlock.ret ?_ | refine QBlock.hit rfl ?_ | refine QBlock.miss rfl ?_)
          | (refine QLoop.g ?_; first | refine QLoop.ret ?_ | refine QLoop.exit ?_)
          | (refine QRet.g ?_; (first | ((first | refine QRet.end_ (.cons (.tmpE (by conv => lhs; whnf)) .nil) ?_ | refine QRet.endN (.cons (.tmpE (by conv => lhs; whnf)) .nil) ?_); try (focus first | rfl | (simp_all [packP]; done))) | ((first | refine QRet.same (.cons (.tmpE (by conv => lhs; whnf)) .nil) ?_ ?_ | refine QRet.sameN (.cons (.tmpE (by conv => lhs; whnf)) .nil) ?_ ?_); try (rotate_left; (focus first | rfl | (simp_all [packP]; done)); try (focus first | rfl | (simp_all [packP]; done))))))
          | fail)
        refine Ex.draw mixed [.take 0, .read 1, .read 2, .take 3, .seq 4, .take 5, .seq 6, .take 7, .seq 8] [.cells b [.int .i64 t.kind, .int .i64 t.num, .str t.nm, .str t.mk', (.own kv kcs i)], .cells a [packFn a c]] [2, 3, 4, 5, 6] (by kernel_rfl) ?_
        refine DEx.takeE tOk rfl rfl rfl (by conv => lhs; whnf) ?_
        refine DEx.readE rfl rfl (by simp) (fun σ hE => OpOk.loadR tOk rfl rfl rfl (hE _ (.head _)) rfl (r := (.own kv kcs i)) rfl) ?_
        refine DEx.readE rfl rfl (by simp) (fun σ hE => OpOk.loadR tOk rfl rfl rfl (hE _ (.tail _ (.head _))) rfl (r := packFn a c) rfl) ?_
        refine DEx.takeE tOk rfl rfl rfl (by conv => lhs; whnf) ?_
        refine DEx.seqE rfl rfl (OpOk.call rfl rfl rfl (Callable.frameAt [_, _] (hih a c _ _ _ (.inr ⟨_, _, rfl, rfl, hcl⟩) (by omega)))) ?_
        rintro _ _ ⟨_, rfl, v2, cs2, rfl, rfl, hcl2⟩
        refine ⟨fun _ _ e he => by simp at he ⊢; rcases he with rfl | rfl <;> simp, ?_⟩
        refine DEx.takeE tOk rfl (r := .ful [.int .i64 (k + sizes (t.kids.take i) + t.kids[i]!.size - 1 : Nat)] 1) rfl rfl rfl ?_
        refine DEx.seqE rfl rfl (OpOk.app tOk rfl rfl rfl rfl rfl (by decide) (by decide) rfl rfl rfl [] rfl (by rw [hkl]; exact (Nat.mul_one _).symm) rfl rfl rfl (by omega)) ?_
        rintro _ _ ⟨v3, rfl, rfl⟩
        refine ⟨fun _ _ e he => by simp at he ⊢; rcases he with rfl | rfl <;> simp, ?_⟩
        refine DEx.takeE tOk rfl rfl rfl (by conv => lhs; whnf) ?_
        refine DEx.seqE0 rfl (OpOk.store1 tOk rfl rfl rfl rfl [_] _ rfl rfl rfl rfl rfl (by simp only [List.set, Nat.reduceAdd]; rfl)) ?_
        rintro _ _ ⟨rfl, rfl⟩
        refine ⟨fun h => absurd h (by decide), ?_⟩
        refine DEx.nil ?_
        repeat' (first
          | (refine Ex.g ?_; first | refine Ex.seq ?_ | refine Ex.region ?_ | refine Ex.skip ?_ | refine Ex.ret ?_ | refine Ex.exit ?_ | refine Ex.block ?_ | (refine Ex.gCond ?_; first | refine Ex.condT rfl ?_ | refine Ex.condF rfl ?_ | refine Ex.condD rfl (fun hc => ?_) (fun hc => ?_) | refine Ex.condN rfl (fun hc => ?_) (fun hc => ?_) | refine Ex.cond rfl (fun hc => ?_) (fun hc => ?_)))
          | refine ExOps.nil ?_
          | (refine ExOps.gPC ?_; first | refine ExOps.opR (OpOk.len tOk rfl rfl rfl) rfl ?_)
          | (refine ExOps.gP ?_; first | (refine ExOps.gBin ?_; refine ExOps.calcE tOk rfl rfl (by first | exact eqT rfl | exact eqF (fun h => h rfl) | exact beqT _ | exact wrapB _ _ | exact wrapE (by omega) (by omega) | exact wrapE32 (by omega) (by omega) | fail) ?_) | (refine ExOps.gB ?_; refine ExOps.calcE tOk rfl rfl (by conv => lhs; simp [pev, upd, PV.cells, argSlots]) ?_) | refine ExOps.calcE tOk rfl rfl (by conv => lhs; whnf) ?_)
          | (refine QSeq.g ?_; first | refine QSeq.norm ?_ | refine QSeq.ret ?_ | refine QSeq.exit ?_)
          | (refine QBlock.g ?_; first | refine QBlock.norm ?_ | refine QBlock.ret ?_ | refine QBlock.hit rfl ?_ | refine QBlock.miss rfl ?_)
          | (refine QLoop.g ?_; first | refine QLoop.ret ?_ | refine QLoop.exit ?_)
          | (refine QRet.g ?_; (first | ((first | refine QRet.end_ (.cons (.tmpE (by conv => lhs; whnf)) .nil) ?_ | refine QRet.endN (.cons (.tmpE (by conv => lhs; whnf)) .nil) ?_); try (focus first | rfl | (simp_all [packP]; done))) | ((first | refine QRet.same (.cons (.tmpE (by conv => lhs; whnf)) .nil) ?_ ?_ | refine QRet.sameN (.cons (.tmpE (by conv => lhs; whnf)) .nil) ?_ ?_); try (rotate_left; (focus first | rfl | (simp_all [packP]; done)); try (focus first | rfl | (simp_all [packP]; done))))))
          | fail)
        refine QLoop.next (m - 1) (by omega) ⟨i + 1, .own v3 (kcs ++ [.int .i64 (k + sizes (t.kids.take i) + t.kids[i]!.size - 1 : Nat)]) (i + 1), [.spare v3 1], .own v2 cs2 (k + sizes (t.kids.take (i + 1))), [.spare v2 5], by omega, .inr ⟨v3, _, rfl, rfl, by simp [hkl]⟩, .inr ⟨v2, cs2, rfl, rfl, by rw [hts, ← Nat.add_assoc]; exact hcl2⟩, rfl, rfl, rfl, rfl, rfl, rfl, rfl, ?_⟩
        rw [hts, ← Nat.add_assoc]
        rfl
  · have htk : t.kids.take i = t.kids := List.take_of_length_le (by omega)
    rw [htk] at hi2
    rcases hi1 with ⟨rfl, rfl, hiz⟩ | ⟨kv, kcs, rfl, rfl, hkl⟩
    · rcases hi2 with ⟨rfl, rfl, hz⟩ | ⟨gv, gcs, rfl, rfl, hcl⟩
      · repeat' (first
          | (refine Ex.g ?_; first | refine Ex.seq ?_ | refine Ex.region ?_ | refine Ex.skip ?_ | refine Ex.ret ?_ | refine Ex.exit ?_ | refine Ex.block ?_ | (refine Ex.gCond ?_; first | refine Ex.condT rfl ?_ | refine Ex.condF rfl ?_ | refine Ex.condD rfl (fun hc => ?_) (fun hc => ?_) | refine Ex.condN rfl (fun hc => ?_) (fun hc => ?_) | refine Ex.cond rfl (fun hc => ?_) (fun hc => ?_)))
          | refine ExOps.nil ?_
          | (refine ExOps.gPC ?_; first | refine ExOps.opR (OpOk.len tOk rfl rfl rfl) rfl ?_ | (refine ExOps.op (OpOk.appNAt tOk rfl rfl rfl rfl rfl (by decide) (by decide) rfl rfl rfl [_] rfl rfl rfl rfl) rfl ?_; rintro _ _ ⟨b, rfl, rfl⟩))
          | (refine ExOps.gP ?_; first | (refine ExOps.calcE tOk (r := .ful [.int .i64 t.kind, .int .i64 t.num, .str t.nm, .str t.mk', .nils] 1) rfl rfl rfl ?_) | (refine ExOps.gLoad ?_; refine ExOps.opR (OpOk.loadR tOk rfl rfl rfl (.head _) rfl (r := .agg [.int .i64 t.kind, .int .i64 t.num, .str t.nm, .str t.mk', .nils]) rfl) rfl ?_) | (refine ExOps.gBin ?_; refine ExOps.calcE tOk rfl rfl (by first | exact eqT (by omega) | exact eqF (by omega) | fail) ?_) | (refine ExOps.gBin ?_; refine ExOps.calcE tOk rfl rfl (by first | exact eqT rfl | exact eqF (fun h => h rfl) | exact beqT _ | exact wrapB _ _ | exact wrapE (by omega) (by omega) | exact wrapE32 (by omega) (by omega) | fail) ?_) | (refine ExOps.gB ?_; refine ExOps.calcE tOk rfl rfl (by conv => lhs; simp [pev, upd, PV.cells, argSlots]) ?_) | refine ExOps.calcE tOk rfl rfl (by conv => lhs; whnf) ?_ | refine ExOps.opR (OpOk.loadR tOk rfl rfl rfl (.head _) rfl (by conv => lhs; whnf)) rfl ?_ | refine ExOps.opR (OpOk.loadR tOk rfl rfl rfl (.tail _ (.head _)) rfl (by conv => lhs; whnf)) rfl ?_ | refine ExOps.opR (OpOk.loadR tOk rfl rfl rfl (.tail _ (.tail _ (.head _))) rfl (by conv => lhs; whnf)) rfl ?_ | refine ExOps.opR (OpOk.loadR tOk rfl rfl rfl (.tail _ (.tail _ (.tail _ (.head _)))) rfl (by conv => lhs; whnf)) rfl ?_ | refine ExOps.opR0 (OpOk.store1 tOk rfl rfl rfl rfl [] _ rfl rfl (by conv => lhs; whnf) rfl rfl (by simp only [List.set, Nat.reduceAdd]; rfl)) ?_ | refine ExOps.opR0 (OpOk.store1 tOk rfl rfl rfl rfl [_] _ rfl rfl (by conv => lhs; whnf) rfl rfl (by simp only [List.set, Nat.reduceAdd]; rfl)) ?_ | refine ExOps.opR0 (OpOk.store1 tOk rfl rfl rfl rfl [_, _] _ rfl rfl (by conv => lhs; whnf) rfl rfl (by simp only [List.set, Nat.reduceAdd]; rfl)) ?_ | refine ExOps.opR0 (OpOk.store1 tOk rfl rfl rfl rfl [_, _, _] _ rfl rfl (by conv => lhs; whnf) rfl rfl (by simp only [List.set, Nat.reduceAdd]; rfl)) ?_)
          | (refine QSeq.g ?_; first | refine QSeq.norm ?_ | refine QSeq.ret ?_ | refine QSeq.exit ?_)
          | (refine QBlock.g ?_; first | refine QBlock.norm ?_ | refine QBlock.ret ?_ | refine QBlock.hit rfl ?_ | refine QBlock.miss rfl ?_)
          | (refine QLoop.g ?_; first | refine QLoop.ret ?_ | refine QLoop.exit ?_)
          | (refine QRet.g ?_; (first | ((first | refine QRet.end_ (.cons (.tmpE (by conv => lhs; whnf)) .nil) ?_ | refine QRet.endN (.cons (.tmpE (by conv => lhs; whnf)) .nil) ?_); try (focus first | rfl | (simp_all [packP]; done))) | ((first | refine QRet.same (.cons (.tmpE (by conv => lhs; whnf)) .nil) ?_ ?_ | refine QRet.sameN (.cons (.tmpE (by conv => lhs; whnf)) .nil) ?_ ?_); try (rotate_left; (focus first | rfl | (simp_all [packP]; done)); try (focus first | rfl | (simp_all [packP]; done))))))
          | fail)
        have hK : k + t.size = 1 := by omega
        rw [hK]
        exact QRet.fin (.inr rfl) (drop := [_]) (.cons (ResV.tmpE rfl) .nil) rfl (Melt.same _) ⟨b, _, congrArg (PV.int .i64) (by omega), rfl, by simp⟩
      · repeat' (first
          | (refine Ex.g ?_; first | refine Ex.seq ?_ | refine Ex.region ?_ | refine Ex.skip ?_ | refine Ex.ret ?_ | refine Ex.exit ?_ | refine Ex.block ?_ | (refine Ex.gCond ?_; first | refine Ex.condT rfl ?_ | refine Ex.condF rfl ?_ | refine Ex.condD rfl (fun hc => ?_) (fun hc => ?_) | refine Ex.condN rfl (fun hc => ?_) (fun hc => ?_) | refine Ex.cond rfl (fun hc => ?_) (fun hc => ?_)))
          | refine ExOps.nil ?_
          | (refine ExOps.gPC ?_; first | refine ExOps.opR (OpOk.len tOk rfl rfl rfl) rfl ?_ | (refine ExOps.op (OpOk.appB tOk rfl rfl rfl rfl rfl (by decide) (by decide) rfl rfl rfl [_] rfl hcl rfl rfl rfl (by omega)) rfl ?_; rintro _ _ ⟨b, rfl, rfl⟩))
          | (refine ExOps.gP ?_; first | (refine ExOps.calcE tOk (r := .ful [.int .i64 t.kind, .int .i64 t.num, .str t.nm, .str t.mk', .nils] 1) rfl rfl rfl ?_) | (refine ExOps.gLoad ?_; refine ExOps.opR (OpOk.loadR tOk rfl rfl rfl (.head _) rfl (r := .agg [.int .i64 t.kind, .int .i64 t.num, .str t.nm, .str t.mk', .nils]) rfl) rfl ?_) | (refine ExOps.gBin ?_; refine ExOps.calcE tOk rfl rfl (by first | exact eqT (by omega) | exact eqF (by omega) | fail) ?_) | (refine ExOps.gBin ?_; refine ExOps.calcE tOk rfl rfl (by first | exact eqT rfl | exact eqF (fun h => h rfl) | exact beqT _ | exact wrapB _ _ | exact wrapE (by omega) (by omega) | exact wrapE32 (by omega) (by omega) | fail) ?_) | (refine ExOps.gB ?_; refine ExOps.calcE tOk rfl rfl (by conv => lhs; simp [pev, upd, PV.cells, argSlots]) ?_) | refine ExOps.calcE tOk rfl rfl (by conv => lhs; whnf) ?_ | refine ExOps.opR (OpOk.loadR tOk rfl rfl rfl (.head _) rfl (by conv => lhs; whnf)) rfl ?_ | refine ExOps.opR (OpOk.loadR tOk rfl rfl rfl (.tail _ (.head _)) rfl (by conv => lhs; whnf)) rfl ?_ | refine ExOps.opR (OpOk.loadR tOk rfl rfl rfl (.tail _ (.tail _ (.head _))) rfl (by conv => lhs; whnf)) rfl ?_ | refine ExOps.opR (OpOk.loadR tOk rfl rfl rfl (.tail _ (.tail _ (.tail _ (.head _)))) rfl (by conv => lhs; whnf)) rfl ?_ | refine ExOps.opR0 (OpOk.store1 tOk rfl rfl rfl rfl [] _ rfl rfl (by conv => lhs; whnf) rfl rfl (by simp only [List.set, Nat.reduceAdd]; rfl)) ?_ | refine ExOps.opR0 (OpOk.store1 tOk rfl rfl rfl rfl [_] _ rfl rfl (by conv => lhs; whnf) rfl rfl (by simp only [List.set, Nat.reduceAdd]; rfl)) ?_ | refine ExOps.opR0 (OpOk.store1 tOk rfl rfl rfl rfl [_, _] _ rfl rfl (by conv => lhs; whnf) rfl rfl (by simp only [List.set, Nat.reduceAdd]; rfl)) ?_ | refine ExOps.opR0 (OpOk.store1 tOk rfl rfl rfl rfl [_, _, _] _ rfl rfl (by conv => lhs; whnf) rfl rfl (by simp only [List.set, Nat.reduceAdd]; rfl)) ?_)
          | (refine QSeq.g ?_; first | refine QSeq.norm ?_ | refine QSeq.ret ?_ | refine QSeq.exit ?_)
          | (refine QBlock.g ?_; first | refine QBlock.norm ?_ | refine QBlock.ret ?_ | refine QBlock.hit rfl ?_ | refine QBlock.miss rfl ?_)
          | (refine QLoop.g ?_; first | refine QLoop.ret ?_ | refine QLoop.exit ?_)
          | (refine QRet.g ?_; (first | ((first | refine QRet.end_ (.cons (.tmpE (by conv => lhs; whnf)) .nil) ?_ | refine QRet.endN (.cons (.tmpE (by conv => lhs; whnf)) .nil) ?_); try (focus first | rfl | (simp_all [packP]; done))) | ((first | refine QRet.same (.cons (.tmpE (by conv => lhs; whnf)) .nil) ?_ ?_ | refine QRet.sameN (.cons (.tmpE (by conv => lhs; whnf)) .nil) ?_ ?_); try (rotate_left; (focus first | rfl | (simp_all [packP]; done)); try (focus first | rfl | (simp_all [packP]; done))))))
          | fail)
        have hK : k + t.size = k + sizes t.kids + 1 := by omega
        rw [hK]
        exact QRet.fin (.inr rfl) (drop := [_]) (.cons (ResV.tmpE rfl) .nil) rfl (Melt.same _) ⟨b, _, congrArg (PV.int .i64) (by omega), rfl, by simp [hcl]; omega⟩
    · rcases hi2 with ⟨rfl, rfl, hz⟩ | ⟨gv, gcs, rfl, rfl, hcl⟩
      · repeat' (first
          | (refine Ex.g ?_; first | refine Ex.seq ?_ | refine Ex.region ?_ | refine Ex.skip ?_ | refine Ex.ret ?_ | refine Ex.exit ?_ | refine Ex.block ?_ | (refine Ex.gCond ?_; first | refine Ex.condT rfl ?_ | refine Ex.condF rfl ?_ | refine Ex.condD rfl (fun hc => ?_) (fun hc => ?_) | refine Ex.condN rfl (fun hc => ?_) (fun hc => ?_) | refine Ex.cond rfl (fun hc => ?_) (fun hc => ?_)))
          | refine ExOps.nil ?_
          | (refine ExOps.gPC ?_; first | refine ExOps.opR (OpOk.len tOk rfl rfl rfl) rfl ?_ | (refine ExOps.op (OpOk.appNAt tOk rfl rfl rfl rfl rfl (by decide) (by decide) rfl rfl rfl [_, _] rfl rfl rfl rfl) rfl ?_; rintro _ _ ⟨b, rfl, rfl⟩))
          | (refine ExOps.gP ?_; first | (refine ExOps.calcE tOk (r := .ful [.int .i64 t.kind, .int .i64 t.num, .str t.nm, .str t.mk', .own kv kcs i] 1) rfl rfl rfl ?_) | (refine ExOps.gLoad ?_; refine ExOps.opR (OpOk.loadR tOk rfl rfl rfl (.tail _ (.head _)) rfl (r := .agg [.int .i64 t.kind, .int .i64 t.num, .str t.nm, .str t.mk', .own kv kcs i]) rfl) rfl ?_) | (refine ExOps.gBin ?_; refine ExOps.calcE tOk rfl rfl (by first | exact eqT (by omega) | exact eqF (by omega) | fail) ?_) | (refine ExOps.gBin ?_; refine ExOps.calcE tOk rfl rfl (by first | exact eqT rfl | exact eqF (fun h => h rfl) | exact beqT _ | exact wrapB _ _ | exact wrapE (by omega) (by omega) | exact wrapE32 (by omega) (by omega) | fail) ?_) | (refine ExOps.gB ?_; refine ExOps.calcE tOk rfl rfl (by conv => lhs; simp [pev, upd, PV.cells, argSlots]) ?_) | refine ExOps.calcE tOk rfl rfl (by conv => lhs; whnf) ?_ | refine ExOps.opR (OpOk.loadR tOk rfl rfl rfl (.head _) rfl (by conv => lhs; whnf)) rfl ?_ | refine ExOps.opR (OpOk.loadR tOk rfl rfl rfl (.tail _ (.head _)) rfl (by conv => lhs; whnf)) rfl ?_ | refine ExOps.opR (OpOk.loadR tOk rfl rfl rfl (.tail _ (.tail _ (.head _))) rfl (by conv => lhs; whnf)) rfl ?_ | refine ExOps.opR (OpOk.loadR tOk rfl rfl rfl (.tail _ (.tail _ (.tail _ (.head _)))) rfl (by conv => lhs; whnf)) rfl ?_ | refine ExOps.opR0 (OpOk.store1 tOk rfl rfl rfl rfl [] _ rfl rfl (by conv => lhs; whnf) rfl rfl (by simp only [List.set, Nat.reduceAdd]; rfl)) ?_ | refine ExOps.opR0 (OpOk.store1 tOk rfl rfl rfl rfl [_] _ rfl rfl (by conv => lhs; whnf) rfl rfl (by simp only [List.set, Nat.reduceAdd]; rfl)) ?_ | refine ExOps.opR0 (OpOk.store1 tOk rfl rfl rfl rfl [_, _] _ rfl rfl (by conv => lhs; whnf) rfl rfl (by simp only [List.set, Nat.reduceAdd]; rfl)) ?_ | refine ExOps.opR0 (OpOk.store1 tOk rfl rfl rfl rfl [_, _, _] _ rfl rfl (by conv => lhs; whnf) rfl rfl (by simp only [List.set, Nat.reduceAdd]; rfl)) ?_)
          | (refine QSeq.g ?_; first | refine QSeq.norm ?_ | refine QSeq.ret ?_ | refine QSeq.exit ?_)
          | (refine QBlock.g ?_; first | refine QBlock.norm ?_ | refine QBlock.ret ?_ | refine QBlock.hit rfl ?_ | refine QBlock.miss rfl ?_)
          | (refine QLoop.g ?_; first | refine QLoop.ret ?_ | refine QLoop.exit ?_)
          | (refine QRet.g ?_; (first | ((first | refine QRet.end_ (.cons (.tmpE (by conv => lhs; whnf)) .nil) ?_ | refine QRet.endN (.cons (.tmpE (by conv => lhs; whnf)) .nil) ?_); try (focus first | rfl | (simp_all [packP]; done))) | ((first | refine QRet.same (.cons (.tmpE (by conv => lhs; whnf)) .nil) ?_ ?_ | refine QRet.sameN (.cons (.tmpE (by conv => lhs; whnf)) .nil) ?_ ?_); try (rotate_left; (focus first | rfl | (simp_all [packP]; done)); try (focus first | rfl | (simp_all [packP]; done))))))
          | fail)
        have hK : k + t.size = 1 := by omega
        rw [hK]
        exact QRet.fin (.inr rfl) (drop := [_, _]) (.cons (ResV.tmpE rfl) .nil) rfl (Melt.same _) ⟨b, _, congrArg (PV.int .i64) (by omega), rfl, by simp⟩
      · repeat' (first
          | (refine Ex.g ?_; first | refine Ex.seq ?_ | refine Ex.region ?_ | refine Ex.skip ?_ | refine Ex.ret ?_ | refine Ex.exit ?_ | refine Ex.block ?_ | (refine Ex.gCond ?_; first | refine Ex.condT rfl ?_ | refine Ex.condF rfl ?_ | refine Ex.condD rfl (fun hc => ?_) (fun hc => ?_) | refine Ex.condN rfl (fun hc => ?_) (fun hc => ?_) | refine Ex.cond rfl (fun hc => ?_) (fun hc => ?_)))
          | refine ExOps.nil ?_
          | (refine ExOps.gPC ?_; first | refine ExOps.opR (OpOk.len tOk rfl rfl rfl) rfl ?_ | (refine ExOps.op (OpOk.appB tOk rfl rfl rfl rfl rfl (by decide) (by decide) rfl rfl rfl [_, _] rfl hcl rfl rfl rfl (by omega)) rfl ?_; rintro _ _ ⟨b, rfl, rfl⟩))
          | (refine ExOps.gP ?_; first | (refine ExOps.calcE tOk (r := .ful [.int .i64 t.kind, .int .i64 t.num, .str t.nm, .str t.mk', .own kv kcs i] 1) rfl rfl rfl ?_) | (refine ExOps.gLoad ?_; refine ExOps.opR (OpOk.loadR tOk rfl rfl rfl (.tail _ (.head _)) rfl (r := .agg [.int .i64 t.kind, .int .i64 t.num, .str t.nm, .str t.mk', .own kv kcs i]) rfl) rfl ?_) | (refine ExOps.gBin ?_; refine ExOps.calcE tOk rfl rfl (by first | exact eqT (by omega) | exact eqF (by omega) | fail) ?_) | (refine ExOps.gBin ?_; refine ExOps.calcE tOk rfl rfl (by first | exact eqT rfl | exact eqF (fun h => h rfl) | exact beqT _ | exact wrapB _ _ | exact wrapE (by omega) (by omega) | exact wrapE32 (by omega) (by omega) | fail) ?_) | (refine ExOps.gB ?_; refine ExOps.calcE tOk rfl rfl (by conv => lhs; simp [pev, upd, PV.cells, argSlots]) ?_) | refine ExOps.calcE tOk rfl rfl (by conv => lhs; whnf) ?_ | refine ExOps.opR (OpOk.loadR tOk rfl rfl rfl (.head _) rfl (by conv => lhs; whnf)) rfl ?_ | refine ExOps.opR (OpOk.loadR tOk rfl rfl rfl (.tail _ (.head _)) rfl (by conv => lhs; whnf)) rfl ?_ | refine ExOps.opR (OpOk.loadR tOk rfl rfl rfl (.tail _ (.tail _ (.head _))) rfl (by conv => lhs; whnf)) rfl ?_ | refine ExOps.opR (OpOk.loadR tOk rfl rfl rfl (.tail _ (.tail _ (.tail _ (.head _)))) rfl (by conv => lhs; whnf)) rfl ?_ | refine ExOps.opR0 (OpOk.store1 tOk rfl rfl rfl rfl [] _ rfl rfl (by conv => lhs; whnf) rfl rfl (by simp only [List.set, Nat.reduceAdd]; rfl)) ?_ | refine ExOps.opR0 (OpOk.store1 tOk rfl rfl rfl rfl [_] _ rfl rfl (by conv => lhs; whnf) rfl rfl (by simp only [List.set, Nat.reduceAdd]; rfl)) ?_ | refine ExOps.opR0 (OpOk.store1 tOk rfl rfl rfl rfl [_, _] _ rfl rfl (by conv => lhs; whnf) rfl rfl (by simp only [List.set, Nat.reduceAdd]; rfl)) ?_ | refine ExOps.opR0 (OpOk.store1 tOk rfl rfl rfl rfl [_, _, _] _ rfl rfl (by conv => lhs; whnf) rfl rfl (by simp only [List.set, Nat.reduceAdd]; rfl)) ?_)
          | (refine QSeq.g ?_; first | refine QSeq.norm ?_ | refine QSeq.ret ?_ | refine QSeq.exit ?_)
          | (refine QBlock.g ?_; first | refine QBlock.norm ?_ | refine QBlock.ret ?_ | refine QBlock.hit rfl ?_ | refine QBlock.miss rfl ?_)
          | (refine QLoop.g ?_; first | refine QLoop.ret ?_ | refine QLoop.exit ?_)
          | (refine QRet.g ?_; (first | ((first | refine QRet.end_ (.cons (.tmpE (by conv => lhs; whnf)) .nil) ?_ | refine QRet.endN (.cons (.tmpE (by conv => lhs; whnf)) .nil) ?_); try (focus first | rfl | (simp_all [packP]; done))) | ((first | refine QRet.same (.cons (.tmpE (by conv => lhs; whnf)) .nil) ?_ ?_ | refine QRet.sameN (.cons (.tmpE (by conv => lhs; whnf)) .nil) ?_ ?_); try (rotate_left; (focus first | rfl | (simp_all [packP]; done)); try (focus first | rfl | (simp_all [packP]; done))))))
          | fail)
        have hK : k + t.size = k + sizes t.kids + 1 := by omega
        rw [hK]
        exact QRet.fin (.inr rfl) (drop := [_, _]) (.cons (ResV.tmpE rfl) .nil) rfl (Melt.same _) ⟨b, _, congrArg (PV.int .i64) (by omega), rfl, by simp [hcl]; omega⟩

theorem add_all : ∀ (n : Nat) (t : Tree), t.size ≤ n → AddC t
  | 0, t, h => by have := size_eq t; omega
  | n + 1, t, h => add_ok t fun u hu => add_all n u (by have := kids_lt hu; omega)
theorem pack_err (t : Tree) (hs : t.size > 8192) (h : t.size ≤ 4611686018427387904) : Callable Tryz.prog 71 [t.pv] [] (Ret (.tup [.agg [.nils], .int .i64 3]) []) := by
  have hw := whole_ok 4611686018427387904 t h (Nat.le_refl _)
  have hz := asize_ok 4611686018427387904 t h (Nat.le_refl _)
  refine Callable.of_ex tOk [.cell 2 24, .tmp 3] Tryz.func71 rfl rfl rfl (Nat.le_of_ble_eq_true rfl) ?_
  repeat' (first
    | (refine Ex.g ?_; first | refine Ex.seq ?_ | refine Ex.region ?_ | refine Ex.skip ?_ | refine Ex.ret ?_ | refine Ex.exit ?_ | refine Ex.block ?_ | (refine Ex.gCond ?_; first | refine Ex.condT rfl ?_ | refine Ex.condF rfl ?_ | refine Ex.condD rfl (fun hc => ?_) (fun hc => ?_) | refine Ex.condN rfl (fun hc => ?_) (fun hc => ?_) | refine Ex.cond rfl (fun hc => ?_) (fun hc => ?_)))
    | refine ExOps.nil ?_
    | (refine ExOps.gPC ?_; first | refine ExOps.opR (OpOk.len tOk rfl rfl rfl) rfl ?_ | refine ExOps.opR (.cp rfl rfl rfl (h := hw)) rfl ?_ | refine ExOps.opR (.cp rfl rfl rfl (h := hz)) rfl ?_)
    | (refine ExOps.gP ?_; first | (refine ExOps.gB ?_; refine ExOps.calcE tOk (r := .agg [.nils]) rfl rfl rfl ?_) | (refine ExOps.gBin ?_; refine ExOps.calcE tOk rfl rfl (by first | exact eqT (by omega) | exact eqF (by omega) | fail) ?_) | (refine ExOps.gB ?_; refine ExOps.calcE tOk rfl rfl (by conv => lhs; simp [pev, upd, PV.cells, argSlots]) ?_) | refine ExOps.calcE tOk rfl rfl (by conv => lhs; whnf) ?_ | (refine ExOps.op (OpOk.alloc tOk rfl rfl) rfl ?_; rintro _ _ ⟨b, rfl, rfl⟩) | refine ExOps.opR0 (OpOk.storeAll tOk rfl rfl rfl [] _ rfl rfl rfl rfl rfl rfl) ?_)
    | (refine QSeq.g ?_; first | refine QSeq.norm ?_ | refine QSeq.ret ?_ | refine QSeq.exit ?_)
    | (refine QBlock.g ?_; first | refine QBlock.norm ?_ | refine QBlock.ret ?_ | refine QBlock.hit rfl ?_ | refine QBlock.miss rfl ?_)
    | (refine QRet.g ?_; (first | ((first | refine QRet.end_ (.cons (ResV.cell rfl (by repeat' (first | exact .head _ | apply List.Mem.tail)) rfl (by conv => lhs; whnf)) (.cons (.tmpE (by conv => lhs; whnf)) .nil)) ?_ | refine QRet.endN (.cons (ResV.cell rfl (by repeat' (first | exact .head _ | apply List.Mem.tail)) rfl (by conv => lhs; whnf)) (.cons (.tmpE (by conv => lhs; whnf)) .nil)) ?_); try (focus first | rfl | (rfl; done))) | ((first | refine QRet.same (.cons (ResV.cell rfl (by repeat' (first | exact .head _ | apply List.Mem.tail)) rfl (by conv => lhs; whnf)) (.cons (.tmpE (by conv => lhs; whnf)) .nil)) ?_ ?_ | refine QRet.sameN (.cons (ResV.cell rfl (by repeat' (first | exact .head _ | apply List.Mem.tail)) rfl (by conv => lhs; whnf)) (.cons (.tmpE (by conv => lhs; whnf)) .nil)) ?_ ?_); try (rotate_left; (focus first | rfl | (rfl; done)); try (focus first | rfl | (rfl; done))))))
    | fail)
end Go.Proofs.YtceoldiblphahaaGreatDoor
