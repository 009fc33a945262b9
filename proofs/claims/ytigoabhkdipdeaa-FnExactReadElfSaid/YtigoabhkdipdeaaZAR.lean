/- A part of the plain reading of Go's code: what a function's code comes to, by a plain function. No condition. -/
import Derived.Test.YtigoabhkdipdeaaZAM
import Derived.Laws.OwnMore
import Derived.Maps.AppendAt
namespace Go.Proofs.Ytigoabhkdipdeaa.AM
open Go.RowKit

section
variable (U : Univ)

/-- A row's cells. -/
def flat (t : Nat) (l : List (U.El t)) : List Value := (l.map (U.cells t)).flatten

def ownOf : Value → Option Nat
  | .slice (some a) _ _ => some a.block
  | .pointer (some a) => some a.block
  | _ => none

def Blk.live {El : Nat → Type} : Blk El → Prop
  | .dead => False
  | _ => True

def Far (ι : Nat → Value) (m : List (Blk U.El)) (k : Nat) : Prop := ∀ id b, m[id]? = some b → b.live → ownOf (ι id) ≠ some k

def RD (B : Nat → Prop) (ι : Nat → Value) (m : List (Blk U.El)) (w : World) (loc : Bool) (A : Option Addr) (cells : List Value) : Prop :=
  ∀ j v, cells[j]? = some v → ∃ b o, A = some ⟨b, o, none⟩ ∧ w.cell? ⟨b, o + j, none⟩ = some v ∧ Far U ι m b ∧ (loc = true → B b)

def PR (ι : Nat → Value) (m : List (Blk U.El)) (id off : Nat) (v : Value) : Prop :=
  id < m.length ∧ ∃ β, ι id = .pointer (some ⟨β, 0, none⟩) ∧ v = .pointer (some ⟨β, off, none⟩)

def CR (B : Nat → Prop) (ι : Nat → Value) (m : List (Blk U.El)) (w : World) : C U.El → Value → Prop
  | .sc u, v => v = u ∧ u.oneCell' = true
  | .row t l tight loc, v => ∃ A cap, v = .slice A l.length cap ∧ l.length ≤ cap ∧ RD U B ι m w loc A (flat U t l) ∧ (tight = true → cap = l.length)
  | .sl id, v => id < m.length ∧ v = ι id ∧ v.oneCell' = true
  | .sub id t off len, v => id < m.length ∧ ∃ A cap, v = .slice A len cap ∧ len ≤ cap ∧ (0 < len → ∃ g n c, ι id = .slice (some ⟨g, 0, none⟩) n c ∧ off + len ≤ n ∧ A = some ⟨g, off * U.sz t, none⟩)
  | .arr .., _ => False
  | .ptr id off, v => PR U ι m id off v
  | .pda id t i off, v => id < m.length ∧ ∃ g n c, ι id = .slice (some ⟨g, 0, none⟩) n c ∧ i < n ∧ v = .pointer (some ⟨g, i * U.sz t + off, none⟩)
  | .parr id e n f i off, v => id < m.length ∧ i < n ∧ ∃ β, ι id = .pointer (some ⟨β, 0, none⟩) ∧ v = .pointer (some ⟨β, f + i * U.sz e + off, none⟩)
  | .prow t l i off, v => i < l.length ∧ ∃ b o, v = .pointer (some ⟨b, o + (i * U.sz t + off), none⟩) ∧ RD U B ι m w false (some ⟨b, o, none⟩) (flat U t l)
  | .fn f caps, v => ∃ vs : List Value, v = .func (.func f) #[] vs.toArray ∧ vs.length = caps.length ∧ ∀ (j : Nat) (p : Nat × Nat) (u : Value), caps[j]? = some p → vs[j]? = some u → PR U ι m p.1 p.2 u

def CW (B : Nat → Prop) (ι : Nat → Value) (m : List (Blk U.El)) (w : World) : C U.El → List Value → Prop
  | .arr t n l, vs => l.length = n ∧ vs = flat U t l
  | c, vs => ∃ v, vs = [v] ∧ CR U B ι m w c v

def CsR (B : Nat → Prop) (ι : Nat → Value) (m : List (Blk U.El)) (w : World) : List (C U.El) → List Value → Prop
  | [], vs => vs = []
  | c :: cs, vs => ∃ a r, vs = a ++ r ∧ CW U B ι m w c a ∧ CsR B ι m w cs r

def WR (B : Nat → Prop) (ι : Nat → Value) (m : List (Blk U.El)) (w : World) : W U.El → Value → Prop
  | .c x, v => CR U B ι m w x v
  | .agg xs, v => ∃ vs : List Value, v = .agg vs.toArray ∧ CsR U B ι m w xs vs

def WsR (B : Nat → Prop) (ι : Nat → Value) (m : List (Blk U.El)) (w : World) : List (W U.El) → List Value → Prop
  | [], vs => vs = []
  | x :: xs, vs => ∃ v r, vs = v :: r ∧ WR U B ι m w x v ∧ WsR B ι m w xs r

def VR (B : Nat → Prop) (ι : Nat → Value) (m : List (Blk U.El)) (w : World) : V U.El → Value → Prop
  | .un, _ => True
  | .und, v => v = undef
  | .w x, v => WR U B ι m w x v
  | .tup xs, v => ∃ vs : List Value, v = .tuple vs.toArray ∧ WsR U B ι m w xs vs

def BR (B : Nat → Prop) (ι : Nat → Value) (m : List (Blk U.El)) (w : World) (id : Nat) : Blk U.El → Prop
  | .dead => True
  | .st t cs => ∃ β vs, ι id = .pointer (some ⟨β, 0, none⟩) ∧ w.heap[β]? = some (.cells vs t (0, 0)) ∧ CsR U B ι m w cs vs.toList
  | .da t l => w.ownsRow 0 t (U.sz t) (ι id) l.length (flat U t l)

structure MR (B : Nat → Prop) (S : Nat → Prop) (ι : Nat → Value) (m : List (Blk U.El)) (w : World) : Prop where
  blk : ∀ id b, m[id]? = some b → BR U B ι m w id b
  inj : ∀ i j b b' k, m[i]? = some b → m[j]? = some b' → b.live → b'.live → ownOf (ι i) = some k → ownOf (ι j) = some k → i = j
  inS : ∀ id b k, m[id]? = some b → b.live → ownOf (ι id) = some k → S k

structure Grow (ι : Nat → Value) (m : List (Blk U.El)) (w : World) (ι' : Nat → Value) (m' : List (Blk U.El)) (w' : World) : Prop where
  len : m.length ≤ m'.length
  iota : ∀ id, id < m.length → ι' id = ι id
  size : w.heap.size ≤ w'.heap.size
  far : ∀ k, k < w.heap.size → Far U ι m k → w'.heap[k]? = w.heap[k]? ∧ Far U ι' m' k

/-- What a call may turn: the blocks of S. -/
structure Fr (S : Nat → Prop) (w w' : World) : Prop where
  os : w'.os = w.os
  tape : w'.tape = w.tape
  output : w'.output = w.output
  size : w.heap.size ≤ w'.heap.size
  block : ∀ k, k < w.heap.size → ¬ S k → w'.heap[k]? = w.heap[k]?
end

section
variable {U : Univ} {B : Nat → Prop} {ι ι' : Nat → Value} {m m' : List (Blk U.El)} {w w' : World}

theorem Grow.refl : Grow U ι m w ι m w := ⟨Nat.le_refl _, fun _ _ => rfl, Nat.le_refl _, fun _ _ h => ⟨rfl, h⟩⟩

theorem Grow.trans {ι'' : Nat → Value} {m'' : List (Blk U.El)} {w'' : World} (h : Grow U ι m w ι' m' w') (k : Grow U ι' m' w' ι'' m'' w'') : Grow U ι m w ι'' m'' w'' :=
  ⟨Nat.le_trans h.len k.len, fun id hi => (k.iota id (Nat.lt_of_lt_of_le hi h.len)).trans (h.iota id hi), Nat.le_trans h.size k.size,
    fun b hb hf => let a := h.far b hb hf; let c := k.far b (Nat.lt_of_lt_of_le hb h.size) a.2; ⟨c.1.trans a.1, c.2⟩⟩

theorem RD.grow (h : Grow U ι m w ι' m' w') {loc : Bool} {A : Option Addr} {cs : List Value} (hr : RD U B ι m w loc A cs) : RD U B ι' m' w' loc A cs := by
  intro j v hv
  obtain ⟨b, o, hA, hc, hf, hl⟩ := hr j v hv
  have hlt := World.block_lt_of_cell? w _ hc
  obtain ⟨h1, h2⟩ := h.far b hlt hf
  exact ⟨b, o, hA, (World.cell?_of_block (w := w) (a := ⟨b, o + j, none⟩) h1).trans hc, h2, hl⟩

theorem PR.grow (h : Grow U ι m w ι' m' w') {id off : Nat} {v : Value} (hr : PR U ι m id off v) : PR U ι' m' id off v := by
  obtain ⟨h1, β, h2, h3⟩ := hr
  exact ⟨Nat.lt_of_lt_of_le h1 h.len, β, (h.iota id h1).trans h2, h3⟩

theorem CR.grow (h : Grow U ι m w ι' m' w') : ∀ {c : C U.El} {v : Value}, CR U B ι m w c v → CR U B ι' m' w' c v
  | .sc _, _, ⟨h1, h2⟩ => ⟨h1, h2⟩
  | .row .., _, ⟨A, cap, h1, h2, h3, h4⟩ => ⟨A, cap, h1, h2, h3.grow h, h4⟩
  | .sl id, _, ⟨h1, h2, h3⟩ => ⟨Nat.lt_of_lt_of_le h1 h.len, h2.trans (h.iota id h1).symm, h3⟩
  | .sub id .., _, ⟨h1, A, cap, h2, h3, h4⟩ => ⟨Nat.lt_of_lt_of_le h1 h.len, A, cap, h2, h3, fun hl => let ⟨g, n, c, a, b⟩ := h4 hl; ⟨g, n, c, (h.iota id h1).trans a, b⟩⟩
  | .arr .., _, hr => hr
  | .ptr .., _, hr => PR.grow h hr
  | .pda id .., _, ⟨h1, g, n, c, h2, h3⟩ => ⟨Nat.lt_of_lt_of_le h1 h.len, g, n, c, (h.iota id h1).trans h2, h3⟩
  | .parr id .., _, ⟨h1, h2, β, h3, h4⟩ => ⟨Nat.lt_of_lt_of_le h1 h.len, h2, β, (h.iota id h1).trans h3, h4⟩
  | .prow .., _, ⟨h1, b, o, h2, h3⟩ => ⟨h1, b, o, h2, h3.grow h⟩
  | .fn .., _, ⟨vs, h1, h2, h3⟩ => ⟨vs, h1, h2, fun j p u hp hu => (h3 j p u hp hu).grow h⟩

theorem CW.grow (h : Grow U ι m w ι' m' w') : ∀ {c : C U.El} {vs : List Value}, CW U B ι m w c vs → CW U B ι' m' w' c vs
  | .arr .., _, hr => hr
  | .sc _, _, ⟨v, h1, h2⟩ | .row .., _, ⟨v, h1, h2⟩ | .sl _, _, ⟨v, h1, h2⟩ | .sub .., _, ⟨v, h1, h2⟩ | .ptr .., _, ⟨v, h1, h2⟩ | .pda .., _, ⟨v, h1, h2⟩ | .parr .., _, ⟨v, h1, h2⟩
  | .prow .., _, ⟨v, h1, h2⟩ | .fn .., _, ⟨v, h1, h2⟩ => ⟨v, h1, CR.grow h h2⟩

theorem CsR.grow (h : Grow U ι m w ι' m' w') : ∀ {cs : List (C U.El)} {vs : List Value}, CsR U B ι m w cs vs → CsR U B ι' m' w' cs vs
  | [], _, hr => hr
  | _ :: _, _, ⟨a, r, h1, h2, h3⟩ => ⟨a, r, h1, h2.grow h, CsR.grow h h3⟩

theorem WR.grow (h : Grow U ι m w ι' m' w') : ∀ {x : W U.El} {v : Value}, WR U B ι m w x v → WR U B ι' m' w' x v
  | .c c, v, hr => CR.grow (c := c) (v := v) h hr
  | .agg _, _, ⟨vs, h1, h2⟩ => ⟨vs, h1, h2.grow h⟩

theorem WsR.grow (h : Grow U ι m w ι' m' w') : ∀ {xs : List (W U.El)} {vs : List Value}, WsR U B ι m w xs vs → WsR U B ι' m' w' xs vs
  | [], _, hr => hr
  | _ :: _, _, ⟨v, r, h1, h2, h3⟩ => ⟨v, r, h1, h2.grow h, WsR.grow h h3⟩

theorem VR.grow (h : Grow U ι m w ι' m' w') : ∀ {x : V U.El} {v : Value}, VR U B ι m w x v → VR U B ι' m' w' x v
  | .un, _, hr => hr
  | .und, _, hr => hr
  | .w _, _, hr => WR.grow h hr
  | .tup _, _, ⟨vs, h1, h2⟩ => ⟨vs, h1, h2.grow h⟩

theorem own_lt {id : Nat} {b : Blk U.El} (h : BR U B ι m w id b) (hl : b.live) {k : Nat} (hk : ownOf (ι id) = some k) : k < w.heap.size := by
  cases b with
  | dead => exact hl.elim
  | st t cs =>
    obtain ⟨β, vs, h1, h2, _⟩ := h
    rw [h1] at hk
    cases hk
    exact (Array.getElem?_eq_some_iff.1 h2).1
  | da t l =>
    rcases h.2 with ⟨h1, _⟩ | ⟨g, cap, cur, h1, _, h2, _⟩
    · rw [h1] at hk; cases hk
    · rw [h1] at hk
      cases hk
      exact (Array.getElem?_eq_some_iff.1 h2).1

/-- A block whose concrete block holds what it held. -/
theorem BR.keep (hg : Grow U ι m w ι' m' w') {id : Nat} {b : Blk U.El} (hi : id < m.length) (h : BR U B ι m w id b) (hb : ∀ k, ownOf (ι id) = some k → w'.heap[k]? = w.heap[k]?) : BR U B ι' m' w' id b := by
  have hι := hg.iota id hi
  cases b with
  | dead => trivial
  | st t cs =>
    obtain ⟨β, vs, h1, h2, h3⟩ := h
    exact ⟨β, vs, hι.trans h1, (hb β (by rw [h1]; rfl)).trans h2, h3.grow hg⟩
  | da t l =>
    refine ⟨h.1, ?_⟩
    rw [hι]
    rcases h.2 with h1 | ⟨g, cap, cur, h1, h2, h3, h4⟩
    · exact .inl h1
    · exact .inr ⟨g, cap, cur, h1, h2, (hb g (by rw [h1]; rfl)).trans h3, h4⟩

/-- The memory behind a step: X: the concrete blocks that were written. -/
theorem MR.upd {S : Nat → Prop} (h : MR U B S ι m w) (X : Nat → Prop) (hlen : m.length ≤ m'.length) (hι : ∀ id, id < m.length → ι' id = ι id) (hsize : w.heap.size ≤ w'.heap.size)
    (hheap : ∀ k, k < w.heap.size → ¬ X k → w'.heap[k]? = w.heap[k]?) (hX : ∀ k, X k → ∃ id b, m[id]? = some b ∧ b.live ∧ ownOf (ι id) = some k)
    (N : Nat → Prop)
    (hold : ∀ id b, m'[id]? = some b → b.live → ¬ N id → id < m.length ∧ m[id]? = some b ∧ ∀ k, ownOf (ι id) = some k → ¬ X k)
    (hown : ∀ id b k, m'[id]? = some b → b.live → N id → ownOf (ι' id) = some k → (X k ∨ w.heap.size ≤ k) ∧ S k)
    (hinj : ∀ i j b b' k, m'[i]? = some b → m'[j]? = some b' → b.live → b'.live → N i → N j → ownOf (ι' i) = some k → ownOf (ι' j) = some k → i = j)
    (hnew : Grow U ι m w ι' m' w' → ∀ id b, m'[id]? = some b → b.live → N id → BR U B ι' m' w' id b) :
    Grow U ι m w ι' m' w' ∧ MR U B S ι' m' w' := by
  have hg : Grow U ι m w ι' m' w' := by
    refine ⟨hlen, hι, hsize, fun k hk hf => ?_⟩
    have hx : ¬ X k := fun hx => by
      obtain ⟨id, b, h1, h2, h3⟩ := hX k hx
      exact hf id b h1 h2 h3
    refine ⟨hheap k hk hx, fun id b h1 h2 h3 => ?_⟩
    by_cases hn : N id
    · rcases (hown id b k h1 h2 hn h3).1 with h4 | h4
      · exact hx h4
      · omega
    · obtain ⟨hi, ho, _⟩ := hold id b h1 h2 hn
      rw [hι id hi] at h3
      exact hf id b ho h2 h3
  refine ⟨hg, ⟨fun id b hb => ?_, ?_, ?_⟩⟩
  · by_cases hl : b.live
    · by_cases hn : N id
      · exact hnew hg id b hb hl hn
      · obtain ⟨hi, ho, hk⟩ := hold id b hb hl hn
        refine (h.blk id b ho).keep hg hi fun k hk' => hheap k (own_lt (h.blk id b ho) hl hk') (hk k hk')
    · cases b with
      | dead => trivial
      | _ => exact absurd trivial hl
  · intro i j b b' k hi hj hl hl' h1 h2
    by_cases hni : N i <;> by_cases hnj : N j
    · exact hinj i j b b' k hi hj hl hl' hni hnj h1 h2
    · obtain ⟨hj1, hj2, hj3⟩ := hold j b' hj hl' hnj
      rw [hι j hj1] at h2
      rcases (hown i b k hi hl hni h1).1 with h4 | h4
      · exact absurd h4 (hj3 k h2)
      · have := own_lt (h.blk j b' hj2) hl' h2; omega
    · obtain ⟨hj1, hj2, hj3⟩ := hold i b hi hl hni
      rw [hι i hj1] at h1
      rcases (hown j b' k hj hl' hnj h2).1 with h4 | h4
      · exact absurd h4 (hj3 k h1)
      · have := own_lt (h.blk i b hj2) hl h1; omega
    · obtain ⟨hi1, hi2, _⟩ := hold i b hi hl hni
      obtain ⟨hj1, hj2, _⟩ := hold j b' hj hl' hnj
      rw [hι i hi1] at h1
      rw [hι j hj1] at h2
      exact h.inj i j b b' k hi2 hj2 hl hl' h1 h2
  · intro id b k hb hl hk
    by_cases hn : N id
    · exact (hown id b k hb hl hn hk).2
    · obtain ⟨hi, ho, _⟩ := hold id b hb hl hn
      rw [hι id hi] at hk
      exact h.inS id b k ho hl hk

/-- Nothing of the memory is turned: draws, blocks of nobody. -/
theorem MR.quiet {S : Nat → Prop} (h : MR U B S ι m w) (hsize : w.heap.size ≤ w'.heap.size) (hheap : ∀ k, k < w.heap.size → w'.heap[k]? = w.heap[k]?) :
    Grow U ι m w ι m w' ∧ MR U B S ι m w' :=
  h.upd (fun _ => False) (Nat.le_refl _) (fun _ _ => rfl) hsize (fun k hk _ => hheap k hk) (fun _ h => h.elim) (fun _ => False)
    (fun id b hb _ _ => ⟨(List.getElem?_eq_some_iff.1 hb).1, hb, fun _ _ h => h⟩) (fun _ _ _ _ _ h => h.elim) (fun _ _ _ _ _ _ _ _ _ h => h.elim) (fun _ _ _ _ _ h => h.elim)

def updι (ι : Nat → Value) (id : Nat) (v : Value) : Nat → Value := fun i => if i = id then v else ι i

/-- A new block. -/
theorem MR.push {S : Nat → Prop} (h : MR U B S ι m w) (hS : ∀ k, w.heap.size ≤ k → S k) (b : Blk U.El) (v : Value) (hsize : w.heap.size ≤ w'.heap.size) (hheap : ∀ k, k < w.heap.size → w'.heap[k]? = w.heap[k]?)
    (hv : ∀ k, ownOf v = some k → w.heap.size ≤ k)
    (hnew : Grow U ι m w (updι ι m.length v) (m ++ [b]) w' → BR U B (updι ι m.length v) (m ++ [b]) w' m.length b) :
    Grow U ι m w (updι ι m.length v) (m ++ [b]) w' ∧ MR U B S (updι ι m.length v) (m ++ [b]) w' := by
  have hN : ∀ id b', (m ++ [b])[id]? = some b' → ¬ id = m.length → id < m.length ∧ m[id]? = some b' := by
    intro id b' hb hne
    have hlt := (List.getElem?_eq_some_iff.1 hb).1
    simp only [List.length_append, List.length_cons, List.length_nil] at hlt
    have hlt' : id < m.length := by omega
    rw [List.getElem?_append_left hlt'] at hb
    exact ⟨hlt', hb⟩
  have hupd : updι ι m.length v m.length = v := by simp [updι]
  refine h.upd (fun _ => False) (by simp) (fun id hi => by simp [updι, Nat.ne_of_lt hi]) hsize (fun k hk _ => hheap k hk) (fun _ h => h.elim) (fun id => id = m.length)
    (fun id b' hb _ hn => ⟨(hN id b' hb hn).1, (hN id b' hb hn).2, fun _ _ h => h⟩) ?_ (fun i j _ _ _ _ _ _ _ hi hj _ _ => hi.trans hj.symm) ?_
  · rintro id b' k _ _ rfl hk
    rw [hupd] at hk
    exact ⟨.inr (hv k hk), hS k (hv k hk)⟩
  · rintro hg id b' hb _ rfl
    rw [List.getElem?_append_right (Nat.le_refl _)] at hb
    simp at hb
    subst hb
    exact hnew hg

/-- A block is written. -/
theorem MR.write {S : Nat → Prop} (h : MR U B S ι m w) (id : Nat) (b0 b : Blk U.El) (hid : m[id]? = some b0) (hl0 : b0.live) (hsize : w.heap.size ≤ w'.heap.size)
    (hheap : ∀ k, k < w.heap.size → ownOf (ι id) ≠ some k → w'.heap[k]? = w.heap[k]?)
    (hnew : Grow U ι m w ι (m.set id b) w' → BR U B ι (m.set id b) w' id b) :
    Grow U ι m w ι (m.set id b) w' ∧ MR U B S ι (m.set id b) w' := by
  have hlt := (List.getElem?_eq_some_iff.1 hid).1
  refine h.upd (fun k => ownOf (ι id) = some k) (by simp) (fun _ _ => rfl) hsize hheap (fun k hk => ⟨id, b0, hid, hl0, hk⟩) (fun i => i = id) ?_ ?_ (fun i j _ _ _ _ _ _ _ hi hj _ _ => hi.trans hj.symm) ?_
  · intro i b' hb hlb hne
    rw [List.getElem?_set_ne (Ne.symm hne)] at hb
    exact ⟨(List.getElem?_eq_some_iff.1 hb).1, hb, fun k hk hk' => hne (h.inj i id b' b0 k hb hid hlb hl0 hk hk')⟩
  · rintro i b' k hb hlb rfl hk
    exact ⟨.inl hk, h.inS i b0 k hid hl0 hk⟩
  · rintro hg i b' hb _ rfl
    rw [List.getElem?_set_self hlt] at hb
    cases hb
    exact hnew hg

theorem Fr.refl (S : Nat → Prop) (w : World) : Fr S w w := ⟨rfl, rfl, rfl, Nat.le_refl _, fun _ _ _ => rfl⟩
theorem Fr.trans {S : Nat → Prop} {a b c : World} (h : Fr S a b) (k : Fr S b c) : Fr S a c :=
  ⟨k.os.trans h.os, k.tape.trans h.tape, k.output.trans h.output, Nat.le_trans h.size k.size, fun i hi hs => (k.block i (Nat.lt_of_lt_of_le hi h.size) hs).trans (h.block i hi hs)⟩


/-- What the elements' types must hold. -/
structure UOk (U : Univ) : Prop where
  len : ∀ t (y : U.El t), (U.cells t y).length = U.sz t
  back : ∀ t vs y, U.back t vs = some y → U.cells t y = vs
  one : ∀ t (y : U.El t), ∀ u ∈ U.cells t y, u.oneCell' = true
  int : ∀ t k, (U.ent t).k = some k → ∀ y : U.El t, ∃ n, U.cells t y = [.int k n]

theorem flat_len (hU : UOk U) (t : Nat) (l : List (U.El t)) : (flat U t l).length = l.length * U.sz t := by
  induction l with
  | nil => simp [flat]
  | cons y l ih =>
    have : flat U t (y :: l) = U.cells t y ++ flat U t l := by simp [flat]
    rw [this, List.length_append, ih, hU.len, List.length_cons, Nat.add_mul, Nat.one_mul, Nat.add_comm]

theorem flat_append (t : Nat) (l l' : List (U.El t)) : flat U t (l ++ l') = flat U t l ++ flat U t l' := by simp [flat]

theorem flat_one (hU : UOk U) (t : Nat) (l : List (U.El t)) : ∀ u ∈ flat U t l, u.oneCell' = true := by
  intro u hu
  simp only [flat, List.mem_flatten, List.mem_map] at hu
  obtain ⟨c, ⟨y, _, rfl⟩, hu⟩ := hu
  exact hU.one t y u hu

/-- An element's cells lie at its place. -/
theorem flat_at (hU : UOk U) (t : Nat) (l : List (U.El t)) (i : Nat) (hi : i < l.length) (d : U.El t) :
    ((flat U t l).drop (i * U.sz t)).take (U.sz t) = U.cells t (rd d l i) := by
  induction l generalizing i with
  | nil => simp at hi
  | cons y l ih =>
    have e : flat U t (y :: l) = U.cells t y ++ flat U t l := by simp [flat]
    have hy := hU.len t y
    cases i with
    | zero => simp [rd, e, List.take_append, hy]
    | succ i =>
      have := ih i (by simpa using hi)
      rw [e, show (i + 1) * U.sz t = (U.cells t y).length + i * U.sz t by rw [hy, Nat.add_mul]; omega, ← List.drop_drop, List.drop_left]
      simp only [rd, List.getD_cons_succ] at this ⊢
      exact this

theorem flat_get (hU : UOk U) (t : Nat) (l : List (U.El t)) (i : Nat) (hi : i < l.length) (d : U.El t) (j : Nat) (v : Value) (hv : (U.cells t (rd d l i))[j]? = some v) :
    (flat U t l)[i * U.sz t + j]? = some v := by
  rw [← flat_at hU t l i hi d] at hv
  rw [List.getElem?_take] at hv
  split at hv
  · rwa [List.getElem?_drop] at hv
  · cases hv

theorem CW.len (hU : UOk U) : ∀ {c : C U.El} {vs : List Value}, CW U B ι m w c vs → vs.length = c.width U
  | .arr t n l, _, ⟨h1, h2⟩ => by rw [h2, flat_len hU, h1]; rfl
  | .sc _, _, ⟨v, h1, h2⟩ | .row .., _, ⟨v, h1, h2⟩ | .sl _, _, ⟨v, h1, h2⟩ | .sub .., _, ⟨v, h1, h2⟩ | .ptr .., _, ⟨v, h1, h2⟩ | .pda .., _, ⟨v, h1, h2⟩ | .parr .., _, ⟨v, h1, h2⟩
  | .prow .., _, ⟨v, h1, h2⟩ | .fn .., _, ⟨v, h1, h2⟩ => by rw [h1]; rfl

theorem CsR.len (hU : UOk U) : ∀ {cs : List (C U.El)} {vs : List Value}, CsR U B ι m w cs vs → vs.length = widths U cs
  | [], _, h => by rw [h]; rfl
  | c :: cs, _, ⟨a, r, h1, h2, h3⟩ => by rw [h1, List.length_append, h2.len hU, CsR.len hU h3]; rfl

theorem CsR.app : ∀ {as bs : List (C U.El)} {va vb : List Value}, CsR U B ι m w as va → CsR U B ι m w bs vb → CsR U B ι m w (as ++ bs) (va ++ vb)
  | [], _, _, _, h, h' => by cases h; exact h'
  | _ :: _, _, _, _, ⟨a, r, h1, h2, h3⟩, h' => ⟨a, r ++ _, by rw [h1, List.append_assoc], h2, CsR.app h3 h'⟩

theorem takeW_ok (hU : UOk U) : ∀ {cs a : List (C U.El)} {n : Nat} {vs : List Value}, takeW U cs n = some a → CsR U B ι m w cs vs → n ≤ vs.length ∧ CsR U B ι m w a (vs.take n)
  | cs, a, 0, vs, h, _ => by
    have : a = [] := by cases cs <;> simpa [takeW] using h.symm
    subst this
    exact ⟨Nat.zero_le _, by simp [CsR]⟩
  | [], _, _ + 1, _, h, _ => by simp [takeW] at h
  | c :: cs, a, n + 1, vs, h, ⟨x, r, h1, h2, h3⟩ => by
    simp only [takeW] at h
    split at h
    · split at h
      · cases h
      · obtain ⟨a', h4, rfl⟩ := Option.map_eq_some_iff.1 h
        obtain ⟨h5, h6⟩ := takeW_ok hU h4 h3
        have hl := h2.len hU
        subst h1
        refine ⟨by simp; omega, ?_⟩
        refine ⟨x, r.take (n + 1 - c.width U), ?_, h2, h6⟩
        rw [List.take_append, List.take_of_length_le (by omega), hl]
    · cases h

theorem dropW_ok (hU : UOk U) : ∀ {cs a : List (C U.El)} {n : Nat} {vs : List Value}, dropW U cs n = some a → CsR U B ι m w cs vs → n ≤ vs.length ∧ CsR U B ι m w a (vs.drop n)
  | cs, a, 0, vs, h, hc => by
    have : cs = a := by cases cs <;> simpa [dropW] using h
    subst this
    exact ⟨Nat.zero_le _, by simpa using hc⟩
  | [], _, _ + 1, _, h, _ => by simp [dropW] at h
  | c :: cs, a, n + 1, vs, h, ⟨x, r, h1, h2, h3⟩ => by
    simp only [dropW] at h
    split at h
    · split at h
      · cases h
      · obtain ⟨h5, h6⟩ := dropW_ok hU h h3
        have hl := h2.len hU
        subst h1
        refine ⟨by simp; omega, ?_⟩
        rw [List.drop_append, List.drop_of_length_le (by omega), hl, List.nil_append]
        exact h6
    · cases h

theorem getAt_ok (hU : UOk U) {cs a : List (C U.El)} {off n : Nat} {vs : List Value} (h : getAt U cs off n = some a) (hc : CsR U B ι m w cs vs) :
    off + n ≤ vs.length ∧ CsR U B ι m w a ((vs.drop off).take n) := by
  obtain ⟨r, h1, h2⟩ := Option.bind_eq_some_iff.1 h
  obtain ⟨h3, h4⟩ := dropW_ok hU h1 hc
  obtain ⟨h5, h6⟩ := takeW_ok hU h2 h4
  simp at h5
  exact ⟨by omega, h6⟩

theorem putAt_ok (hU : UOk U) {cs a new : List (C U.El)} {off n : Nat} {vs vn : List Value} (h : putAt U cs off n new = some a) (hc : CsR U B ι m w cs vs) (hn : CsR U B ι m w new vn) :
    off + n ≤ vs.length ∧ CsR U B ι m w a (vs.take off ++ (vn ++ vs.drop (off + n))) := by
  obtain ⟨x, h1, h⟩ := Option.bind_eq_some_iff.1 h
  obtain ⟨y, h2, h⟩ := Option.bind_eq_some_iff.1 h
  cases h
  obtain ⟨_, h4⟩ := takeW_ok hU h1 hc
  obtain ⟨h5, h6⟩ := dropW_ok hU h2 hc
  exact ⟨h5, h4.app (hn.app h6)⟩

theorem CR.one : ∀ {c : C U.El} {v : Value}, CR U B ι m w c v → v.oneCell' = true
  | .sc _, _, ⟨h, h'⟩ => h ▸ h'
  | .row .., _, ⟨_, _, h, _⟩ => h ▸ rfl
  | .sl id, _, ⟨_, _, h⟩ => h
  | .sub .., _, ⟨_, _, _, h, _⟩ => h ▸ rfl
  | .arr .., _, h => h.elim
  | .ptr .., _, ⟨_, _, _, h⟩ => h ▸ rfl
  | .pda .., _, ⟨_, _, _, _, _, _, h⟩ => h ▸ rfl
  | .parr .., _, ⟨_, _, _, _, h⟩ => h ▸ rfl
  | .prow .., _, ⟨_, _, _, h, _⟩ => h ▸ rfl
  | .fn .., _, ⟨_, h, _⟩ => h ▸ rfl

theorem CW.one (hU : UOk U) : ∀ {c : C U.El} {vs : List Value}, CW U B ι m w c vs → ∀ v ∈ vs, v.oneCell' = true
  | .arr t n l, _, ⟨h1, h2⟩ => by rw [h2]; exact flat_one hU t l
  | .sc _, _, ⟨v, h1, h2⟩ | .row .., _, ⟨v, h1, h2⟩ | .sl _, _, ⟨v, h1, h2⟩ | .sub .., _, ⟨v, h1, h2⟩ | .ptr .., _, ⟨v, h1, h2⟩ | .pda .., _, ⟨v, h1, h2⟩ | .parr .., _, ⟨v, h1, h2⟩
  | .prow .., _, ⟨v, h1, h2⟩ | .fn .., _, ⟨v, h1, h2⟩ => by rw [h1]; intro u hu; rw [List.mem_singleton.1 hu]; exact h2.one

theorem CsR.one (hU : UOk U) : ∀ {cs : List (C U.El)} {vs : List Value}, CsR U B ι m w cs vs → ∀ v ∈ vs, v.oneCell' = true
  | [], _, h => by rw [h]; intro v hv; cases hv
  | c :: cs, _, ⟨a, r, h1, h2, h3⟩ => by
    rw [h1]
    intro v hv
    rcases List.mem_append.1 hv with hv | hv
    · exact h2.one hU v hv
    · exact CsR.one hU h3 v hv

/-- Scalars alone. -/
theorem scs_ok : ∀ {cs : List (C U.El)} {vs us : List Value}, scs cs = some us → CsR U B ι m w cs vs → vs = us
  | [], _, us, h, hc => by cases hc; simpa [scs] using h
  | .sc v :: cs, _, us, h, ⟨a, r, h1, ⟨u, h2, h3, _⟩, h4⟩ => by
    obtain ⟨us', h5, rfl⟩ := Option.map_eq_some_iff.1 (by simpa [scs] using h)
    rw [h1, h2, h3, scs_ok h5 h4]
    rfl
  | .row .. :: _, _, _, h, _ | .sl _ :: _, _, _, h, _ | .sub .. :: _, _, _, h, _ | .arr .. :: _, _, _, h, _ | .ptr .. :: _, _, _, h, _ | .pda .. :: _, _, _, h, _ | .parr .. :: _, _, _, h, _
  | .prow .. :: _, _, _, h, _ | .fn .. :: _, _, _, h, _ => by simp [scs] at h

theorem CsR.scs : ∀ {vs : List Value}, (∀ v ∈ vs, v.oneCell' = true) → CsR U B ι m w (vs.map .sc) vs
  | [], _ => rfl
  | v :: vs, h => ⟨[v], vs, rfl, ⟨v, rfl, rfl, h v (by simp)⟩, CsR.scs fun u hu => h u (by simp [hu])⟩

theorem CsR.single : ∀ {c : C U.El} {vs : List Value}, (∀ t n l, c ≠ .arr t n l) → CsR U B ι m w [c] vs → ∃ v, vs = [v] ∧ CR U B ι m w c v
  | .arr t n l, _, h, _ => absurd rfl (h t n l)
  | .sc _, _, _, ⟨a, r, h1, ⟨v, h2, h3⟩, h4⟩ | .row .., _, _, ⟨a, r, h1, ⟨v, h2, h3⟩, h4⟩ | .sl _, _, _, ⟨a, r, h1, ⟨v, h2, h3⟩, h4⟩ | .sub .., _, _, ⟨a, r, h1, ⟨v, h2, h3⟩, h4⟩
  | .ptr .., _, _, ⟨a, r, h1, ⟨v, h2, h3⟩, h4⟩ | .pda .., _, _, ⟨a, r, h1, ⟨v, h2, h3⟩, h4⟩ | .parr .., _, _, ⟨a, r, h1, ⟨v, h2, h3⟩, h4⟩ | .prow .., _, _, ⟨a, r, h1, ⟨v, h2, h3⟩, h4⟩
  | .fn .., _, _, ⟨a, r, h1, ⟨v, h2, h3⟩, h4⟩ => ⟨v, by rw [h1, h2, show r = [] from h4]; rfl, h3⟩

theorem CR.cw : ∀ {x : C U.El} {v : Value}, CR U B ι m w x v → CW U B ι m w x [v]
  | .arr .., _, h => h.elim
  | .sc _, v, h | .row .., v, h | .sl _, v, h | .sub .., v, h | .ptr .., v, h | .pda .., v, h | .parr .., v, h | .prow .., v, h | .fn .., v, h => ⟨v, rfl, h⟩


end
end Go.Proofs.Ytigoabhkdipdeaa.AM
