/- A part of the plain reading of Go's code: what a function's code comes to, by a plain function. No condition. -/
import Derived.Test.YtigoabhkdipdeaaZAO
namespace Go.Proofs.Ytigoabhkdipdeaa.AM
open Go.RowKit

/-! A seat's table of types, and its check. -/
inductive Tree (α : Type 1) : Type 1 where
  | nil
  | node (l : Tree α) (k : Nat) (x : α) (r : Tree α)
def Tree.look {α : Type 1} (d : α) : Tree α → Nat → α
  | .nil, _ => d
  | .node l k x r, t => cond (Nat.blt t k) (l.look d t) (cond (Nat.beq t k) x (r.look d t))
def Tree.All {α : Type 1} (p : α → Prop) : Tree α → Prop
  | .nil => True
  | .node l _ x r => l.All p ∧ p x ∧ r.All p
theorem Tree.look_all {α : Type 1} {p : α → Prop} {d : α} (hd : p d) : ∀ {T : Tree α}, T.All p → ∀ t, p (T.look d t)
  | .nil, _, _ => hd
  | .node l k x r, h, t => by
    unfold Tree.look
    cases Nat.blt t k with
    | true => exact look_all hd h.1 t
    | false => cases Nat.beq t k with
      | true => exact h.2.1
      | false => exact look_all hd h.2.2 t

inductive TTree where
  | nil
  | node (l : TTree) (k : Nat) (x : TI) (r : TTree)
def TTree.look : TTree → Nat → Option TI
  | .nil, _ => none
  | .node l k x r, t => cond (Nat.blt t k) (l.look t) (cond (Nat.beq t k) (some x) (r.look t))
def TTree.all (p : Nat → TI → Bool) : TTree → Bool
  | .nil => true
  | .node l k x r => l.all p && p k x && r.all p
theorem TTree.look_all {p : Nat → TI → Bool} : ∀ {T : TTree}, T.all p = true → ∀ {t x}, T.look t = some x → p t x = true
  | .nil, _, _, _, h => by cases h
  | .node l k x r, h, t, y, hy => by
    simp only [TTree.all, Bool.and_eq_true] at h
    unfold TTree.look at hy
    cases hb : Nat.blt t k with
    | true => rw [hb] at hy; exact look_all h.1.1 hy
    | false =>
      rw [hb] at hy
      cases hc : Nat.beq t k with
      | true =>
        rw [hc] at hy
        cases hy
        rw [Nat.eq_of_beq_eq_true hc]
        exact h.1.2
      | false => rw [hc] at hy; exact look_all h.2 hy

/-- A leaf of an element. -/
inductive LK where
  | int (k : IntKind) | bool | str
def LK.T : LK → Type
  | .int _ => Int
  | .bool => Bool
  | .str => ByteArray
def LK.val : (k : LK) → k.T → Value
  | .int k, n => .int k n
  | .bool, b => .bool b
  | .str, s => .string s
def LK.of : (k : LK) → Value → Option k.T
  | .int k => fun v => match v with | .int k' n => if k = k' then some n else none | _ => none
  | .bool => fun v => match v with | .bool b => some b | _ => none
  | .str => fun v => match v with | .string s => some s | _ => none
def LK.zero : (k : LK) → k.T
  | .int _ => (0 : Int)
  | .bool => false
  | .str => (⟨#[]⟩ : ByteArray)
/-- The leaves of an element: the last stands alone. -/
def LTup : List LK → Type
  | [] => Unit
  | [k] => k.T
  | k :: k' :: ks => k.T × LTup (k' :: ks)
def LTup.vals : (ks : List LK) → LTup ks → List Value
  | [], _ => []
  | [k], x => [k.val x]
  | k :: k' :: ks, x => k.val x.1 :: LTup.vals (k' :: ks) x.2
def LTup.of : (ks : List LK) → List Value → Option (LTup ks)
  | [] => fun vs => match vs with | [] => some () | _ :: _ => none
  | [k] => fun vs => match vs with | [v] => k.of v | _ => none
  | k :: k' :: ks => fun vs => match vs with | v :: vs => (k.of v).bind fun x => (LTup.of (k' :: ks) vs).bind fun y => some (x, y) | [] => none
def LTup.zero : (ks : List LK) → LTup ks
  | [] => ()
  | [k] => k.zero
  | k :: k' :: ks => (k.zero, LTup.zero (k' :: ks))
def kOf : List LK → Option IntKind
  | [.int k] => some k
  | _ => none

/-- An element that is told by its leaves. -/
def entOf (ks : List LK) {α : Type} (to : α → LTup ks) (frm : LTup ks → α) (d : α) : Ent := ⟨α, fun x => LTup.vals ks (to x), fun vs => (LTup.of ks vs).map frm, d, kOf ks⟩

theorem LK.of_val {k : LK} {v : Value} {x : k.T} (h : k.of v = some x) : k.val x = v := by
  cases k <;> cases v <;> simp only [LK.of] at h <;> first | (cases h; done) | skip
  · split at h
    · rename_i hk; cases h; rw [hk]; rfl
    · cases h
  · cases h; rfl
  · cases h; rfl
theorem LTup.of_vals : ∀ {ks : List LK} {vs : List Value} {x : LTup ks}, LTup.of ks vs = some x → LTup.vals ks x = vs
  | [], vs, _, h => by
    cases vs with
    | nil => rfl
    | cons => cases h
  | [k], vs, x, h => by
    rcases vs with _ | ⟨v, _ | ⟨_, _⟩⟩
    · cases h
    · exact congrArg (fun v => [v]) (LK.of_val (k := k) h)
    · cases h
  | k :: k' :: ks, vs, x, h => by
    cases vs with
    | nil => cases h
    | cons v vs =>
      obtain ⟨y, h1, h⟩ := Option.bind_eq_some_iff.1 (show ((k.of v).bind fun x => (LTup.of (k' :: ks) vs).bind fun y => some (x, y)) = some x from h)
      obtain ⟨z, h2, h⟩ := Option.bind_eq_some_iff.1 h
      cases h
      simp only [LTup.vals]
      rw [LK.of_val h1, LTup.of_vals h2]
theorem LTup.vals_len : ∀ {ks : List LK} (x : LTup ks), (LTup.vals ks x).length = ks.length
  | [], _ => rfl
  | [_], _ => rfl
  | _ :: _ :: _, x => by simp only [LTup.vals, List.length_cons]; rw [LTup.vals_len x.2]; rfl
theorem LTup.vals_one : ∀ {ks : List LK} (x : LTup ks), ∀ u ∈ LTup.vals ks x, u.oneCell' = true
  | [], _, u, h => by simp [LTup.vals] at h
  | [k], x, u, h => by
    simp only [LTup.vals, List.mem_singleton] at h
    subst h
    cases k <;> rfl
  | k :: k' :: ks, x, u, h => by
    simp only [LTup.vals, List.mem_cons] at h
    rcases h with rfl | h
    · cases k <;> rfl
    · exact LTup.vals_one x.2 u h

structure EntOk (e : Ent) : Prop where
  len : ∀ y, (e.cells y).length = (e.cells e.dflt).length
  back : ∀ vs y, e.back vs = some y → e.cells y = vs
  one : ∀ y, ∀ u ∈ e.cells y, u.oneCell' = true
  int : ∀ k, e.k = some k → ∀ y, ∃ n, e.cells y = [.int k n]

theorem entOk {ks : List LK} {α : Type} {to : α → LTup ks} {frm : LTup ks → α} {d : α} (h : ∀ x, to (frm x) = x) : EntOk (entOf ks to frm d) where
  len y := by simp only [entOf]; rw [LTup.vals_len, LTup.vals_len]
  back vs y hb := by
    simp only [entOf] at hb ⊢
    obtain ⟨x, hx, rfl⟩ := Option.map_eq_some_iff.1 hb
    rw [h, LTup.of_vals hx]
  one y := LTup.vals_one _
  int k hk y := by
    match ks, to, frm, h, hk with
    | [.int k'], to, frm, h, hk => cases hk; exact ⟨to y, rfl⟩
    | [.bool], _, _, _, hk => cases hk
    | [.str], _, _, _, hk => cases hk
    | [], _, _, _, hk => cases hk
    | _ :: _ :: _, _, _, _, hk => simp [entOf, kOf] at hk

def ent0 : Ent := entOf [] (fun x : Unit => x) (fun x => x) ()
theorem uOk {T : Tree Ent} (h : T.All EntOk) : UOk ⟨T.look ent0⟩ := by
  have key := fun t => Tree.look_all (p := EntOk) (d := ent0) (entOk fun _ => rfl) h t
  exact ⟨fun t y => (key t).len y, fun t vs y => (key t).back vs y, fun t y => (key t).one y, fun t k hk y => (key t).int k hk y⟩

def vEq : Value → Value → Bool
  | .int k a, .int k' b => decide (k = k') && decide (a = b)
  | .bool a, .bool b => decide (a = b)
  | .string a, .string b => decide (a.data.toList = b.data.toList)
  | .slice none 0 0, .slice none 0 0 => true
  | .pointer none, .pointer none => true
  | .nilFunc, .nilFunc => true
  | _, _ => false
def vsEq : List Value → List Value → Bool
  | [], [] => true
  | a :: as, b :: bs => vEq a b && vsEq as bs
  | _, _ => false
theorem vEq_eq {a b : Value} (h : vEq a b = true) : a = b := by
  unfold vEq at h
  split at h
  · simp at h; rw [h.1, h.2]
  · simp at h; rw [h]
  · rename_i a b
    have h1 := of_decide_eq_true h
    have h2 : a.data = b.data := Array.toList_inj.1 h1
    cases a; cases b
    cases h2
    rfl
  · rfl
  · rfl
  · rfl
  · cases h
theorem vsEq_eq : ∀ {a b : List Value}, vsEq a b = true → a = b
  | [], [], _ => rfl
  | [], _ :: _, h => by cases h
  | _ :: _, [], h => by cases h
  | a :: as, b :: bs, h => by
    simp only [vsEq, Bool.and_eq_true] at h
    rw [vEq_eq h.1, vsEq_eq h.2]

def elB (U : Univ) (ti : Nat → Option TI) (e : Nat) : Bool := match ti e with
  | some y => Nat.beq y.size (U.sz e) && Nat.blt 0 y.size && Nat.blt 0 y.bytes && vsEq (zvals U y.zero) (U.cells e (U.dflt e))
  | none => false
def fsEq : List Field → List (Nat × Nat) → Bool
  | [], [] => true
  | f :: fs, p :: ps => Nat.beq f.offset p.1 && Nat.beq f.type p.2 && f.name != "_" && fsEq fs ps
  | _, _ => false
def tyB (P : Program) (U : Univ) (ti : Nat → Option TI) (t : Nat) : Ty → Bool
  | .int k => match P.underlying t with | some (.int k') => decide (k = k') | _ => false
  | .bool => match P.underlying t with | some .bool => true | _ => false
  | .str => match P.underlying t with | some .string => true | _ => false
  | .sl e => (match P.underlying t with | some (.slice e') => Nat.beq e e' | _ => false) && elB U ti e
  | .st fs => match P.underlying t with
    | some (.struct F) => fsEq F.toList fs && (F.toList.mapM (fun f => (P.info? f.type).map fun i => (f.offset, i.size))).isSome && !P.stoodInHeld t && !P.eqGuardType P.depth t
    | _ => false
  | .arr n e => (match P.underlying t with | some (.array n' e') => Nat.beq n n' && Nat.beq e e' | _ => false) && elB U ti e
  | .ptr e => match P.underlying t with | some (.pointer e') => Nat.beq e e' | _ => false
  | .other => match P.underlying t with | none => false | some (.struct _) => false | some (.array _ _) => false | some _ => true
def tiB (P : Program) (U : Univ) (ti : Nat → Option TI) (t : Nat) (x : TI) : Bool :=
  tyB P U ti t x.ty && match P.info? t with
  | some i => Nat.beq i.size x.size && Nat.beq i.bytes x.bytes && match i.zero with
    | some z => vsEq z.cells.toList (zvals U x.zero) && (!isAggT x || match z with | .agg _ => true | _ => false)
    | none => false
  | none => false

variable {P : Program} {U : Univ} {ti : Nat → Option TI}
theorem fsEq_spec : ∀ {F : List Field} {fs : List (Nat × Nat)}, fsEq F fs = true → F.map (fun f => (f.offset, f.type)) = fs ∧ ∀ f ∈ F, f.name ≠ "_"
  | [], [], _ => ⟨rfl, by simp⟩
  | [], _ :: _, h => by cases h
  | _ :: _, [], h => by cases h
  | f :: F, p :: ps, h => by
    simp only [fsEq, Bool.and_eq_true] at h
    obtain ⟨h1, h2⟩ := fsEq_spec h.2
    refine ⟨?_, fun g hg => ?_⟩
    · rw [List.map_cons, h1, Nat.eq_of_beq_eq_true h.1.1.1, Nat.eq_of_beq_eq_true h.1.1.2]
    · rcases List.mem_cons.1 hg with rfl | hg
      · simpa using h.1.2
      · exact h2 g hg
theorem elB_spec {e : Nat} (h : elB U ti e = true) : ∃ y, ti e = some y ∧ y.size = U.sz e ∧ 0 < y.size ∧ 0 < y.bytes ∧ zvals U y.zero = U.cells e (U.dflt e) := by
  unfold elB at h
  split at h
  · rename_i y hy
    simp only [Bool.and_eq_true] at h
    exact ⟨y, hy, Nat.eq_of_beq_eq_true h.1.1.1, Nat.le_of_ble_eq_true h.1.1.2, Nat.le_of_ble_eq_true h.1.2, vsEq_eq h.2⟩
  · cases h
theorem tyB_spec {t : Nat} {y : Ty} (h : tyB P U ti t y = true) : TyOk P U ti t y := by
  cases y <;> simp only [tyB] at h <;> simp only [TyOk]
  case int k =>
    split at h
    · rename_i h1; rw [h1, of_decide_eq_true h]
    · cases h
  case bool =>
    split at h
    · assumption
    · cases h
  case str =>
    split at h
    · assumption
    · cases h
  case sl e =>
    rw [Bool.and_eq_true] at h
    obtain ⟨h1, h2⟩ := h
    obtain ⟨y, e1, e2, e3, e4, _⟩ := elB_spec h2
    split at h1
    · rename_i h3; exact ⟨by rw [h3, Nat.eq_of_beq_eq_true h1], y, e1, e2, e3, e4⟩
    · cases h1
  case st fs =>
    split at h
    · rename_i F hF
      simp only [Bool.and_eq_true, Bool.not_eq_true'] at h
      obtain ⟨h1, h2⟩ := fsEq_spec h.1.1.1
      exact ⟨F, hF, h1, Option.isSome_iff_exists.1 h.1.1.2, h.1.2, h.2, h2⟩
    · cases h
  case arr n e =>
    rw [Bool.and_eq_true] at h
    obtain ⟨h1, h2⟩ := h
    obtain ⟨y, e1, e2, e3, e4, _⟩ := elB_spec h2
    split at h1
    · rename_i h3
      rw [Bool.and_eq_true] at h1
      exact ⟨by rw [h3, Nat.eq_of_beq_eq_true h1.1, Nat.eq_of_beq_eq_true h1.2], y, e1, e2, e3, e4⟩
    · cases h1
  case ptr e =>
    split at h
    · rename_i h1; rw [h1, Nat.eq_of_beq_eq_true h]
    · cases h
  case other =>
    split at h
    · cases h
    · cases h
    · cases h
    · rename_i d hd hs ha
      rw [ha]
      exact ⟨rfl, fun F hF => hd F (Option.some.inj hF), fun n e hn => hs n e (Option.some.inj hn)⟩
theorem tiB_spec {t : Nat} {x : TI} (h : tiB P U ti t x = true) : TIok P U ti t x := by
  unfold tiB at h
  rw [Bool.and_eq_true] at h
  obtain ⟨h0, h⟩ := h
  refine ⟨tyB_spec h0, ?_, ?_⟩
  · split at h
    · rename_i i hi
      simp only [Bool.and_eq_true] at h
      obtain ⟨⟨h1, h2⟩, h⟩ := h
      split at h
      · rename_i z hz
        simp only [Bool.and_eq_true, Bool.or_eq_true, Bool.not_eq_true'] at h
        refine ⟨i, z, hi, Nat.eq_of_beq_eq_true h1, Nat.eq_of_beq_eq_true h2, hz, vsEq_eq h.1, fun ha => ?_⟩
        rcases h.2 with h3 | h3
        · rw [ha] at h3; cases h3
        · split at h3
          · exact ⟨_, rfl⟩
          · cases h3
      · cases h
    · cases h
  · intro s n hs y hy
    have : elB U ti s = true := by
      rcases hs with hs | hs <;> rw [hs] at h0 <;> simp only [tyB, Bool.and_eq_true] at h0 <;> exact h0.2
    obtain ⟨y', e1, _, _, _, e5⟩ := elB_spec this
    rw [e1] at hy
    cases hy
    exact e5

theorem fits_of {T : Tree Ent} {R : TTree} (hT : T.All EntOk) (hR : R.all (tiB P ⟨T.look ent0⟩ R.look) = true) (hm : P.follows .mixedOrders = true) : Fits P ⟨T.look ent0⟩ R.look :=
  ⟨fun _ _ h => tiB_spec (TTree.look_all hR h), uOk hT, hm⟩
end Go.Proofs.Ytigoabhkdipdeaa.AM
