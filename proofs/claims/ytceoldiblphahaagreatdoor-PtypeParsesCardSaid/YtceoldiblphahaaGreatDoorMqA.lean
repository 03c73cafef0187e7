/- The abstract layer, part A: pure values, what a value of the model stands for, owned things, steps between worlds. Conditions: none; generic in the program. -/
import Derived.Orders
import Derived.Laws.World
import Derived.Deep.Draws
set_option linter.unusedSectionVars false
namespace Go.Mq

/-- Pure values. -/
inductive PV where
  | bool (b : Bool)
  | int (k : IntKind) (n : Int)
  | str (s : ByteArray)
  | nilp
  | ptr (cs : List PV)
  | loc (b off : Nat)
  | slc (cs : List PV) (n : Nat)
  | nils
  | ful (cs : List PV) (n : Nat)
  | arr (b off n : Nat)
  | own (v : Value) (cs : List PV) (n : Nat)
  | mapp (r : Nat)
  | nilm
  | func (f : FuncId) (first captured : List PV)
  | nilf
  | nili
  | iface (t : TypeId) (v : PV)
  | agg (cs : List PV)
  | tup (vs : List PV)
  | any1
  | junk
  deriving Inhabited

abbrev Own := Nat → Nat → Prop

/-- What a value stands for, in a world; W: the cells that it may not hang on. -/
inductive Rep (W : Own) (w : World) : Value → PV → Prop where
  | bool (b : Bool) : Rep W w (.bool b) (.bool b)
  | int (k : IntKind) (n : Int) : Rep W w (.int k n) (.int k n)
  | str (s : ByteArray) : Rep W w (.string s) (.str s)
  | nilp : Rep W w (.pointer none) .nilp
  | ptr {b off : Nat} {cs : List PV} (c : Nat → Value) (hc : ∀ j, j < cs.length → w.cell? ⟨b, off + j, none⟩ = some (c j))
      (hW : ∀ j, j < cs.length → ¬ W b (off + j)) (hr : ∀ (j : Nat) (x : PV), cs[j]? = some x → Rep W w (c j) x) : Rep W w (.pointer (some ⟨b, off, none⟩)) (.ptr cs)
  | loc (b off : Nat) : Rep W w (.pointer (some ⟨b, off, none⟩)) (.loc b off)
  | slc0 (a : Option Addr) (n cap : Nat) (hn : n ≤ cap) : Rep W w (.slice a n cap) (.slc [] n)
  | slc {b off n cap : Nat} {cs : List PV} (c : Nat → Value) (hn : n ≤ cap) (hc : ∀ j, j < cs.length → w.cell? ⟨b, off + j, none⟩ = some (c j))
      (hW : ∀ j, j < cs.length → ¬ W b (off + j)) (hr : ∀ (j : Nat) (x : PV), cs[j]? = some x → Rep W w (c j) x) : Rep W w (.slice (some ⟨b, off, none⟩) n cap) (.slc cs n)
  | nils : Rep W w (.slice none 0 0) .nils
  | ful {a : Option Addr} {cs : List PV} {n : Nat} (h : Rep W w (.slice a n n) (.slc cs n)) : Rep W w (.slice a n n) (.ful cs n)
  | arr (b off n cap : Nat) (hn : n ≤ cap) : Rep W w (.slice (some ⟨b, off, none⟩) n cap) (.arr b off n)
  | own {v : Value} {cs : List PV} {n : Nat} (h : Rep W w v (.slc cs n)) : Rep W w v (.own v cs n)
  | mapp (r : Nat) : Rep W w (.map (some r)) (.mapp r)
  | nilm : Rep W w (.map none) .nilm
  | func {f : FuncId} {vf vc : Array Value} {first captured : List PV} (h1 : vf.size = first.length) (h2 : vc.size = captured.length)
      (r1 : ∀ (j : Nat) (u : Value) (x : PV), vf[j]? = some u → first[j]? = some x → Rep W w u x) (r2 : ∀ (j : Nat) (u : Value) (x : PV), vc[j]? = some u → captured[j]? = some x → Rep W w u x) :
      Rep W w (.func (.func f) vf vc) (.func f first captured)
  | nilf : Rep W w .nilFunc .nilf
  | nili : Rep W w .nilIface .nili
  | iface {t : TypeId} {v : Value} {x : PV} (h : Rep W w v x) : Rep W w (.iface t v) (.iface t x)
  | agg {vs : Array Value} {cs : List PV} (h : vs.size = cs.length) (r : ∀ (j : Nat) (u : Value) (x : PV), vs[j]? = some u → cs[j]? = some x → Rep W w u x) : Rep W w (.agg vs) (.agg cs)
  | tup {vs : Array Value} {cs : List PV} (h : vs.size = cs.length) (r : ∀ (j : Nat) (u : Value) (x : PV), vs[j]? = some u → cs[j]? = some x → Rep W w u x) : Rep W w (.tuple vs) (.tup cs)
  | any1 (v : Value) (h : v.oneCell' = true) : Rep W w v .any1
  | junk (v : Value) : Rep W w v .junk

/-- A representation goes over to a world in which the cells that it hangs on are kept. -/
theorem Rep.step {W W' : Own} {w w' : World} (hk : ∀ b j c, ¬ W b j → w.cell? ⟨b, j, none⟩ = some c → w'.cell? ⟨b, j, none⟩ = some c ∧ ¬ W' b j) {v : Value} {x : PV} (h : Rep W w v x) : Rep W' w' v x := by
  induction h with
  | bool b => exact .bool b
  | int k n => exact .int k n
  | str s => exact .str s
  | nilp => exact .nilp
  | ptr c hc hW _ ih => exact .ptr c (fun j hj => (hk _ _ _ (hW j hj) (hc j hj)).1) (fun j hj => (hk _ _ _ (hW j hj) (hc j hj)).2) ih
  | loc b off => exact .loc b off
  | slc0 a n cap hn => exact .slc0 a n cap hn
  | slc c hn hc hW _ ih => exact .slc c hn (fun j hj => (hk _ _ _ (hW j hj) (hc j hj)).1) (fun j hj => (hk _ _ _ (hW j hj) (hc j hj)).2) ih
  | nils => exact .nils
  | ful _ ih => exact .ful ih
  | arr b off n cap hn => exact .arr b off n cap hn
  | own _ ih => exact .own ih
  | mapp r => exact .mapp r
  | nilm => exact .nilm
  | func h1 h2 _ _ i1 i2 => exact .func h1 h2 i1 i2
  | nilf => exact .nilf
  | nili => exact .nili
  | iface _ ih => exact .iface ih
  | agg h _ ih => exact .agg h ih
  | tup h _ ih => exact .tup h ih
  | any1 v h => exact .any1 v h
  | junk v => exact .junk v

/-- The owned things: a block that is written; the right to append behind a slice (m: an element's cells); a map; a string's iterator. -/
inductive Ent where
  | cells (b : Nat) (cs : List PV)
  | spare (v : Value) (m : Nat)
  | map (r : Nat) (kt : TypeId) (kvs : List (PV × PV))
  | iter (r : Nat) (s : ByteArray) (pos : Nat)

def Ent.owns : Ent → Own
  | .cells b _, b', _ => b' = b
  | .spare (.slice (some a) n cap) m, b', j => b' = a.block ∧ a.off + n * m ≤ j ∧ n < cap
  | .spare _ _, _, _ => False
  | .map r _ _, b', _ => b' = r
  | .iter r _ _, b', _ => b' = r

def owns (σ : List Ent) : Own := fun b j => ∃ e ∈ σ, e.owns b j
def Own.or (A B : Own) : Own := fun b j => A b j ∨ B b j

def Ent.holds (W : Own) (w : World) : Ent → Prop
  | .cells b cs => ∃ (arr : Array Value) (t : TypeId), w.heap[b]? = some (.cells arr t (0, 0)) ∧ arr.size = cs.length ∧ ∀ (j : Nat) (u : Value) (x : PV), arr[j]? = some u → cs[j]? = some x → Rep W w u x
  | .spare v m => (∃ a n, v = .slice a n n) ∨ ∃ b off n cap arr t, v = .slice (some ⟨b, off, none⟩) n cap ∧ n < cap ∧ w.heap[b]? = some (.cells arr t (0, 0)) ∧ off + cap * m ≤ arr.size
  | .map r _ kvs => ∃ es clock, w.heap[r]? = some (.map es clock) ∧ es.size = kvs.length ∧ ∀ (j : Nat) (e : MapEntry) (x : PV × PV), es[j]? = some e → kvs[j]? = some x → Rep W w e.key x.1 ∧ Rep W w e.val x.2
  | .iter r s pos => w.heap[r]? = some (.stringIter s pos)

/-- What is known of package-level variables: cells that nobody owns. -/
class GT where
  val : Nat → Nat → Option (Value → Prop)
variable [GT]

/-- The owned things stand in the world, apart from each other and from the frame K. -/
structure Sep (σ : List Ent) (K : Own) (w : World) : Prop where
  holds : ∀ e ∈ σ, e.holds ((owns σ).or K) w
  apart : σ.Pairwise fun e e' => ∀ b j, e.owns b j → ¬ e'.owns b j
  frame : ∀ b j, owns σ b j → ¬ K b j
  bound : ∀ b j, K b j → b < w.heap.size
  glob : ∀ g j p, GT.val g j = some p → (∃ v, w.cell? ⟨g, j, none⟩ = some v ∧ p v) ∧ ¬ owns σ g j ∧ ¬ K g j

/-- From one world to a later one: what was not owned stays; what is owned then was owned or is new. -/
structure Trans (O : Own) (w w' : World) (O' : Own) : Prop where
  os : w'.os = w.os
  tape : w'.tape = w.tape
  output : w'.output = w.output
  size : w.heap.size ≤ w'.heap.size
  cell : ∀ b j c, ¬ O b j → w.cell? ⟨b, j, none⟩ = some c → w'.cell? ⟨b, j, none⟩ = some c
  block : ∀ b, b < w.heap.size → (∀ j, ¬ O b j) → w'.heap[b]? = w.heap[b]?
  own : ∀ b j, O' b j → O b j ∨ w.heap.size ≤ b

theorem lt_of_cell {w : World} {b j : Nat} {c : Value} (h : w.cell? ⟨b, j, none⟩ = some c) : b < w.heap.size := by
  unfold World.cell? at h
  rcases Nat.lt_or_ge b w.heap.size with hb | hb
  · exact hb
  · simp [Array.getElem?_eq_none hb] at h

theorem Trans.refl (O : Own) (w : World) : Trans O w w O := ⟨rfl, rfl, rfl, Nat.le_refl _, fun _ _ _ _ h => h, fun _ _ _ => rfl, fun _ _ h => .inl h⟩
theorem Trans.trans {O O1 O2 : Own} {w w1 w2 : World} (h : Trans O w w1 O1) (k : Trans O1 w1 w2 O2) : Trans O w w2 O2 := {
  os := k.os.trans h.os
  tape := k.tape.trans h.tape
  output := k.output.trans h.output
  size := Nat.le_trans h.size k.size
  cell := fun b j c ho hc => by
    refine k.cell b j c (fun h1 => ?_) (h.cell b j c ho hc)
    rcases h.own b j h1 with h2 | h2
    · exact ho h2
    · have := lt_of_cell hc; omega
  block := fun b hb ho => by
    rw [k.block b (Nat.lt_of_lt_of_le hb h.size) (fun j h1 => ?_), h.block b hb ho]
    rcases h.own b j h1 with h2 | h2
    · exact ho j h2
    · omega
  own := fun b j h2 => by
    rcases k.own b j h2 with h1 | h1
    · exact h.own b j h1
    · exact .inr (Nat.le_trans h.size h1) }

/-- A representation over a step of the owned things. -/
theorem Rep.trans {O O' K : Own} {w w' : World} (t : Trans O w w' O') {v : Value} {x : PV} (h : Rep (O.or K) w v x) : Rep (O'.or K) w' v x := by
  refine Rep.step (fun b j c hn hc => ⟨t.cell b j c (fun h => hn (.inl h)) hc, ?_⟩) h
  rintro (h1 | h1)
  · rcases t.own b j h1 with h2 | h2
    · exact hn (.inl h2)
    · have := lt_of_cell hc; omega
  · exact hn (.inr h1)

theorem owns_nil : ∀ b j, ¬ owns [] b j := fun _ _ ⟨_, h, _⟩ => by cases h
theorem owns_cons {e : Ent} {σ : List Ent} {b j : Nat} : owns (e :: σ) b j ↔ e.owns b j ∨ owns σ b j := by
  unfold owns
  constructor
  · rintro ⟨x, hx, h⟩
    rcases List.mem_cons.1 hx with rfl | hx
    · exact .inl h
    · exact .inr ⟨x, hx, h⟩
  · rintro (h | ⟨x, hx, h⟩)
    · exact ⟨e, List.mem_cons_self, h⟩
    · exact ⟨x, List.mem_cons_of_mem _ hx, h⟩
theorem owns_append {σ τ : List Ent} {b j : Nat} : owns (σ ++ τ) b j ↔ owns σ b j ∨ owns τ b j := by
  induction σ with
  | nil => simp [owns]
  | cons e σ ih => rw [List.cons_append, owns_cons, owns_cons, ih, or_assoc]
theorem owns_perm {σ τ : List Ent} (h : σ.Perm τ) {b j : Nat} : owns σ b j ↔ owns τ b j := by
  unfold owns; constructor
  · rintro ⟨e, he, ho⟩; exact ⟨e, h.mem_iff.1 he, ho⟩
  · rintro ⟨e, he, ho⟩; exact ⟨e, h.mem_iff.2 he, ho⟩
theorem owns_perm_eq {σ τ : List Ent} (h : σ.Perm τ) : owns σ = owns τ := by
  funext b j; exact propext (owns_perm h)

theorem Ent.holds_lt {W : Own} {w : World} {e : Ent} (h : e.holds W w) {b j : Nat} (ho : e.owns b j) : b < w.heap.size := by
  have key : ∀ {o : Obj} {r : Nat}, w.heap[r]? = some o → r < w.heap.size := fun h => (Array.getElem?_eq_some_iff.1 h).1
  cases e with
  | cells b' cs => obtain ⟨arr, t, hb, _⟩ := h; simp only [Ent.owns] at ho; subst ho; exact key hb
  | spare v m =>
    rcases h with ⟨a, n, rfl⟩ | ⟨b', off, n, cap, arr, t, rfl, _, hb, _⟩
    · cases a <;> simp [Ent.owns] at ho
    · simp only [Ent.owns] at ho; obtain ⟨rfl, _⟩ := ho; exact key hb
  | map r kt kvs => obtain ⟨es, clock, hb, _⟩ := h; simp only [Ent.owns] at ho; subst ho; exact key hb
  | iter r s pos => simp only [Ent.owns] at ho; subst ho; exact key (show w.heap[b]? = _ from h)
theorem Sep.lt {σ : List Ent} {K : Own} {w : World} (h : Sep σ K w) {b j : Nat} (ho : owns σ b j) : b < w.heap.size := by
  obtain ⟨e, he, ho⟩ := ho
  exact Ent.holds_lt (h.holds e he) ho

theorem Sep.perm {σ τ : List Ent} {K : Own} {w : World} (hp : σ.Perm τ) (h : Sep σ K w) : Sep τ K w := {
  holds := fun e he => by rw [← owns_perm_eq hp]; exact h.holds e (hp.mem_iff.2 he)
  apart := h.apart.perm hp (fun hxy b j hy hx => hxy b j hx hy)
  frame := fun b j ho => h.frame b j ((owns_perm hp).2 ho)
  bound := h.bound
  glob := fun g j p hg => ⟨(h.glob g j p hg).1, fun ho => (h.glob g j p hg).2.1 ((owns_perm hp).2 ho), (h.glob g j p hg).2.2⟩ }

/-- A step of a part of the owned things is a step of the whole. -/
theorem Sep.split {σ ρ : List Ent} {K : Own} {w : World} (h : Sep (σ ++ ρ) K w) : Sep σ ((owns ρ).or K) w := {
  holds := fun e he => by
    have := h.holds e (List.mem_append_left _ he)
    have e1 : (owns (σ ++ ρ)).or K = (owns σ).or ((owns ρ).or K) := by
      funext b j; apply propext; unfold Own.or; rw [owns_append, or_assoc]
    rw [← e1]; exact this
  apart := (List.pairwise_append.1 h.apart).1
  frame := fun b j ho => by
    rintro (h1 | h1)
    · obtain ⟨e, he, hb⟩ := ho
      obtain ⟨e', he', hb'⟩ := h1
      exact (List.pairwise_append.1 h.apart).2.2 e he e' he' b j hb hb'
    · exact h.frame b j (owns_append.2 (.inl ho)) h1
  bound := fun b j => by
    rintro (h1 | h1)
    · exact h.lt (owns_append.2 (.inr h1))
    · exact h.bound b j h1
  glob := fun g j p hg => ⟨(h.glob g j p hg).1, fun ho => (h.glob g j p hg).2.1 (owns_append.2 (.inl ho)), fun ho => ho.elim (fun h1 => (h.glob g j p hg).2.1 (owns_append.2 (.inr h1))) (h.glob g j p hg).2.2⟩ }

theorem or_assoc_own (A B C : Own) : (A.or B).or C = A.or (B.or C) := by
  funext b j; apply propext; unfold Own.or; rw [or_assoc]
theorem owns_append_eq (σ τ : List Ent) : owns (σ ++ τ) = (owns σ).or (owns τ) := by
  funext b j; apply propext; rw [owns_append]; rfl

theorem Ent.holds_step {W W' : Own} {w w' : World} {e : Ent} (hk : ∀ b j c, ¬ W b j → w.cell? ⟨b, j, none⟩ = some c → w'.cell? ⟨b, j, none⟩ = some c ∧ ¬ W' b j)
    (hb : ∀ b j, e.owns b j → w'.heap[b]? = w.heap[b]?) (h : e.holds W w) (hs : ∀ a n cap m, e = .spare (.slice (some a) n cap) m → n < cap → w'.heap[a.block]? = w.heap[a.block]?) : e.holds W' w' := by
  cases e with
  | cells b cs =>
    obtain ⟨arr, t, h1, h2, h3⟩ := h
    exact ⟨arr, t, (hb b 0 rfl).trans h1, h2, fun j u x hu hx => (h3 j u x hu hx).step hk⟩
  | spare v m =>
    rcases h with ⟨a, n, rfl⟩ | ⟨b, off, n, cap, arr, t, rfl, h1, h2, h3⟩
    · exact .inl ⟨a, n, rfl⟩
    · exact .inr ⟨b, off, n, cap, arr, t, rfl, h1, (hs ⟨b, off, none⟩ n cap m rfl h1).trans h2, h3⟩
  | map r kt kvs =>
    obtain ⟨es, clock, h1, h2, h3⟩ := h
    exact ⟨es, clock, (hb r 0 rfl).trans h1, h2, fun j e x he hx => ⟨(h3 j e x he hx).1.step hk, (h3 j e x he hx).2.step hk⟩⟩
  | iter r s pos => exact (hb r 0 rfl).trans (show w.heap[r]? = _ from h)

theorem Ent.owns_up {e : Ent} {b j j' : Nat} (h : e.owns b j) (hj : j ≤ j') : e.owns b j' := by
  cases e with
  | cells b' cs => exact h
  | spare v m =>
    cases v <;> try exact h
    rename_i a n cap
    cases a with
    | none => exact h
    | some a => exact ⟨h.1, Nat.le_trans h.2.1 hj, h.2.2⟩
  | map r kt kvs => exact h
  | iter r s pos => exact h

/-- The owned things σ turned into σ', with the frame ρ beside them: the whole stands. -/
theorem Sep.join {σ σ' ρ : List Ent} {K : Own} {w w' : World} (h : Sep (σ ++ ρ) K w) (h' : Sep σ' ((owns ρ).or K) w') (t : Trans (owns σ) w w' (owns σ')) : Sep (σ' ++ ρ) K w' ∧ Trans (owns (σ ++ ρ)) w w' (owns (σ' ++ ρ)) := by
  have hs := h.split
  have free : ∀ e ∈ ρ, ∀ b j, e.owns b j → ∀ j', ¬ owns σ b j' := fun e he b j ho j' ⟨e', he', ho'⟩ =>
    (List.pairwise_append.1 h.apart).2.2 e' he' e he b (max j j') (Ent.owns_up ho' (Nat.le_max_right _ _)) (Ent.owns_up ho (Nat.le_max_left _ _))
  have hk : ∀ b j c, ¬ ((owns (σ ++ ρ)).or K) b j → w.cell? ⟨b, j, none⟩ = some c → w'.cell? ⟨b, j, none⟩ = some c ∧ ¬ ((owns (σ' ++ ρ)).or K) b j := fun b j c hn hc => by
    refine ⟨t.cell b j c (fun h1 => hn (.inl (owns_append.2 (.inl h1)))) hc, ?_⟩
    rintro (h1 | h1)
    · rcases owns_append.1 h1 with h2 | h2
      · rcases t.own b j h2 with h3 | h3
        · exact hn (.inl (owns_append.2 (.inl h3)))
        · have := lt_of_cell hc; omega
      · exact hn (.inl (owns_append.2 (.inr h2)))
    · exact hn (.inr h1)
  refine ⟨⟨fun e he => ?_, ?_, fun b j ho => ?_, fun b j hK => Nat.lt_of_lt_of_le (h.bound b j hK) t.size, fun g j p hg => ?_⟩, ⟨t.os, t.tape, t.output, t.size, fun b j c ho hc => t.cell b j c (fun h1 => ho (owns_append.2 (.inl h1))) hc, fun b hb ho => t.block b hb (fun j h1 => ho j (owns_append.2 (.inl h1))), fun b j ho => ?_⟩⟩
  · rcases List.mem_append.1 he with he | he
    · have := h'.holds e he
      rw [owns_append_eq, or_assoc_own]; exact this
    · refine Ent.holds_step hk (fun b j ho => ?_) (h.holds e (List.mem_append_right _ he)) (fun a n cap m heq hlt => ?_)
      · exact t.block b (h.lt (owns_append.2 (.inr ⟨e, he, ho⟩))) (free e he b j ho)
      · have ho : e.owns a.block (a.off + n * m) := by subst heq; exact ⟨rfl, Nat.le_refl _, hlt⟩
        exact t.block _ (h.lt (owns_append.2 (.inr ⟨e, he, ho⟩))) (free e he _ _ ho)
  · refine List.pairwise_append.2 ⟨h'.apart, (List.pairwise_append.1 h.apart).2.1, fun e he e' he' b j ho ho' => ?_⟩
    exact h'.frame b j ⟨e, he, ho⟩ (.inl ⟨e', he', ho'⟩)
  · rcases owns_append.1 ho with h1 | h1
    · exact fun hK => h'.frame b j h1 (.inr hK)
    · exact h.frame b j (owns_append.2 (.inr h1))
  · obtain ⟨⟨v, hv, hp⟩, g1, g2⟩ := h.glob g j p hg
    refine ⟨⟨v, t.cell g j v (fun h1 => g1 (owns_append.2 (.inl h1))) hv, hp⟩, fun ho => ?_, g2⟩
    rcases owns_append.1 ho with h1 | h1
    · rcases t.own g j h1 with h2 | h2
      · exact g1 (owns_append.2 (.inl h2))
      · have := lt_of_cell hv; omega
    · exact g1 (owns_append.2 (.inr h1))
  · rcases owns_append.1 ho with h1 | h1
    · rcases t.own b j h1 with h2 | h2
      · exact .inl (owns_append.2 (.inl h2))
      · exact .inr h2
    · exact .inl (owns_append.2 (.inr h1))

end Go.Mq
