/- A part of the plain reading of Go's code: what a function's code comes to, by a plain function. No condition. -/
import Derived.Test.YtnjmkkgmlkhjeaaZA2
import Derived.Below
import Derived.Deep.Slices
import Derived.ChangeArms
import Derived.OpenShut
import Derived.ProofKit
import Derived.Laws.BitsLemmas
import Derived.Laws.Strings
import Derived.WideShapes
namespace Go.Proofs.Ytnjmkkgmlkhjeaa.AM

/-- A law's function that answers true. -/
theorem law_of {P : Program} {U : Univ} {f : Nat} {ins : List AS} {plain : Nat → ASs U.El ins → Option (Os U.El ([.c .bool] ++ bkSs ins))} (hbk : bkSs ins = []) (h : ConOk P U f ⟨ins, [.c .bool], plain⟩) {n : Nat} {x : ASs U.El ins} {y : Os U.El ([.c .bool] ++ bkSs ins)} (hx : plain n x = some y) (hy : (encOs true true ([.c .bool] ++ bkSs ins) y []).1 = [bool true]) (hm : (encIs ins x []).2 = []) {cargs : List Value} {w : World}
    (hv : VsR U (fun k => w.heap.size ≤ k) (fun _ => undef) [] w (encIs ins x []).1 cargs) : Calls P (f % 65536) cargs.toArray w fun e w' => e = .returned (.bool true) ∧ Go.RowKit.Below w.heap.size w w' := by
  refine (h.sound n x y hx (fun k => w.heap.size ≤ k) (fun k => w.heap.size ≤ k) (fun _ => undef) cargs w (fun _ h => h) (fun _ h => h) (by rw [hm]; exact hv) ⟨fun id b h => by rw [hm] at h; simp at h, fun i j b b' k h => by rw [hm] at h; simp at h, fun id b k h => by rw [hm] at h; simp at h⟩).mono fun e w' he => ?_
  obtain ⟨u, rfl, hF, ι, hV, _⟩ := he
  refine ⟨?_, hF.os, hF.tape, hF.output, hF.size, fun k hk => hF.block k hk (by omega)⟩
  have hV' : VR U (fun k => w.heap.size ≤ k) ι (endMem ins [.c .bool] y) w' (resV [bool true]) u := by
    rw [hy] at hV
    exact hV
  have : u = .bool true := And.left hV'
  rw [this]
end Go.Proofs.Ytnjmkkgmlkhjeaa.AM
namespace Go.Proofs.Ytnjmkkgmlkhjeaa.AM
open Go.RowKit

/-! What a law's argument is: out of the data that a law's row hands over. -/
def lvF (P : Program) (rec : TypeId → Option (List S1)) (total : Nat) : Nat → List Field → Option (List S1)
  | off, [] => if off = total then some [] else none
  | off, f :: fs => if f.offset = off then (rec f.type).bind fun a => (lvF P rec total (off + P.cellsOf f.type) fs).bind fun b => some (a ++ b) else none
/-- The leaves of a type. -/
def lvs (P : Program) (el : Nat → Bool) : Nat → TypeId → Option (List S1)
  | 0, _ => none
  | fuel + 1, t => match P.underlying t with
    | some (.int k) => some [.int k]
    | some .bool => some [.bool]
    | some .string => some [.str]
    | some (.slice e) => if el e then some [.row e] else none
    | some (.array n e) => if el e && Nat.beq (P.cellsOf t) (n * P.cellsOf e) then some [.arr e n] else none
    | some (.struct F) => lvF P (lvs P el fuel) (P.cellsOf t) 0 F.toList
    | _ => none

/-- A number or a text of the data. -/
def okV : Value → Prop
  | .int k n => (Lit.int k n).wf = true
  | .string s => s.size ≤ 9223372036854775807
  | _ => True
def okEl (U : Univ) (t : Nat) (y : U.El t) : Prop := ∀ u ∈ U.cells t y, okV u
def okRow (U : Univ) (t : Nat) (l : List (U.El t)) : Prop := l.length ≤ 9223372036854775807 ∧ ∀ y ∈ l, okEl U t y
def okArr (U : Univ) (t n : Nat) (l : List (U.El t)) : Prop := l.length = n ∧ ∀ y ∈ l, okEl U t y
def okS1 (U : Univ) : (s : S1) → s.T U.El → Prop
  | .int k, n => (Lit.int k n).wf = true
  | .bool, _ => True
  | .str, s => s.size ≤ 9223372036854775807
  | .row t, l => okRow U t l
  | .sl t, l => okRow U t l
  | .arr t n, l => okArr U t n l
  | .rol t, l => okRow U t l
  | .ip t, l => okRow U t l
  | .gv t, l => okRow U t l
def okTs (U : Univ) : (ss : List S1) → Ts U.El ss → Prop
  | [], _ => True
  | s :: ss, (x, y) => okS1 U s x ∧ okTs U ss y

/-- An element's data are its cells. -/
def ElOpens (P : Program) (U : Univ) (e : Nat) : Prop :=
  P.cellsOf e = U.sz e ∧ ∀ {H : Type} {enc : TypeId × Value → H} {w : World} {base : Nat} {spare : Nat → Bool} {held : Bool} {fuel : Nat} {cs : List Value} {x : DataW H × List MemPlace},
    DataW.trod enc P w base spare held fuel e cs = some x → ∃ y : U.El e, cs = U.cells e y ∧ okEl U e y

abbrev ι0 : Nat → Value := fun _ => undef

theorem Ts_app {U : Univ} {w : World} {B : Nat → Prop} {loc : Bool} : ∀ {a b : List S1} {va vb : List Value} (x : Ts U.El a) (y : Ts U.El b), okTs U a x → okTs U b y → CsR U B ι0 [] w (encs a x loc) va → CsR U B ι0 [] w (encs b y loc) vb →
    ∃ z : Ts U.El (a ++ b), okTs U (a ++ b) z ∧ CsR U B ι0 [] w (encs (a ++ b) z loc) (va ++ vb)
  | [], _, va, vb, _, y, _, hy, h1, h2 => by
    have : va = [] := h1
    subst this
    exact ⟨y, hy, h2⟩
  | s :: a, b, _, vb, (x, x'), y, hx, hy, ⟨c, r, e, h1, h1'⟩, h2 => by
    subst e
    obtain ⟨z, hz, hc⟩ := Ts_app x' y hx.2 hy h1' h2
    exact ⟨(x, z), ⟨hx.1, hz⟩, c, r ++ vb, List.append_assoc .., h1, hc⟩

theorem flat_cell {U : Univ} (hU : UOk U) {t : Nat} : ∀ {l : List (U.El t)} {j : Nat} {v : Value}, (flat U t l)[j]? = some v → ∃ i k y, l[i]? = some y ∧ (U.cells t y)[k]? = some v ∧ j = i * U.sz t + k
  | [], j, v, h => by simp [flat] at h
  | y :: l, j, v, h => by
    have e : flat U t (y :: l) = U.cells t y ++ flat U t l := by simp [flat]
    rw [e] at h
    by_cases hj : j < (U.cells t y).length
    · rw [List.getElem?_append_left hj] at h
      exact ⟨0, j, y, rfl, h, by simp⟩
    · rw [List.getElem?_append_right (by omega), hU.len] at h
      obtain ⟨i, k, y', h1, h2, h3⟩ := flat_cell hU h
      refine ⟨i + 1, k, y', by simpa using h1, h2, ?_⟩
      rw [hU.len] at hj
      rw [Nat.add_mul]
      omega

theorem cell_spot {w : World} {a : Addr} {v : Value} (h : w.cell? a = some v) : a.spot = none := by
  unfold World.cell? at h
  split at h
  · split at h
    · cases h
    · rename_i hs
      simpa using hs
  · cases h

theorem cells_at {w : World} {base n : Nat} {a : Addr} {c : List Value} (h : w.cells? base a n = some c) (hl : c.length = n) {j : Nat} {u : Value} (hj : c[j]? = some u) : w.cell? (a.add j) = some u := by
  obtain ⟨_, hlen, hc⟩ := World.cells?_some h
  have hjn : j < n := by have := (List.getElem?_eq_some_iff.1 hj).1; omega
  rw [hc j hjn, hj]

theorem list_of {α : Type} {p : Nat → α → Prop} : ∀ n : Nat, (∀ i, i < n → ∃ x, p i x) → ∃ xs : List α, xs.length = n ∧ ∀ i x, xs[i]? = some x → p i x := by
  intro n
  induction n with
  | zero => exact fun _ => ⟨[], rfl, fun i x h => by simp at h⟩
  | succ n ih =>
    intro h
    obtain ⟨xs, hl, hx⟩ := ih (fun i hi => h i (by omega))
    obtain ⟨x, hp⟩ := h n (by omega)
    refine ⟨xs ++ [x], by simp [hl], fun i y hy => ?_⟩
    by_cases hi : i < xs.length
    · rw [List.getElem?_append_left hi] at hy
      exact hx i y hy
    · rw [List.getElem?_append_right (by omega)] at hy
      have : i = n := by
        have := (List.getElem?_eq_some_iff.1 hy).1
        simp at this
        omega
      subst this
      rw [hl] at hy
      simp at hy
      subst hy
      exact hp

variable {P : Program} {U : Univ} {H : Type} {enc : TypeId × Value → H} {w : World} {base : Nat} {spare : Nat → Bool} {held : Bool}

theorem row_open (hU : UOk U) {t e : TypeId} (he : ElOpens P U e) (ht : P.underlying t = some (.slice e)) {fuel : Nat} {cs : List Value} {x : DataW H × List MemPlace} (h : DataW.trod enc P w base spare held fuel t cs = some x) {B : Nat → Prop} :
    ∃ l : List (U.El e), okRow U e l ∧ ∃ v, cs = [v] ∧ CR U B ι0 [] w (.row e l false false) v := by
  rcases Go.Deep.open_slice ht h with ⟨rfl, _⟩ | ⟨a, len, cap, m, n, D, Pl, rfl, hb, hl, hm, hmm, rfl, hx⟩
  · exact ⟨[], ⟨by simp, fun y hy => by cases hy⟩, _, rfl, none, 0, rfl, Nat.le_refl _, fun j v hv => by simp [flat] at hv, fun h => by cases h⟩
  · have hlm : len ≤ m := by rw [hmm]; split <;> omega
    have key : ∀ i, i < len → ∃ y : U.El e, okEl U e y ∧ w.cells? base (a.add (i * U.sz e)) (U.sz e) = some (U.cells e y) := by
      intro i hi
      obtain ⟨c, hc, ht⟩ := hx i (by omega)
      obtain ⟨y, rfl, hok⟩ := he.2 ht
      exact ⟨y, hok, by rw [← he.1]; exact hc⟩
    obtain ⟨l, hll, hls⟩ := list_of len key
    have hmax : len ≤ 9223372036854775807 := Nat.le_trans hl hm
    refine ⟨l, ⟨by omega, fun y hy => ?_⟩, _, rfl, some a, cap, by rw [hll], by omega, fun j v hv => ?_, fun h => by cases h⟩
    · obtain ⟨i, hi, rfl⟩ := List.getElem_of_mem hy
      exact (hls i _ (List.getElem?_eq_getElem hi)).1
    · have at_ : ∀ {j : Nat} {v : Value}, (flat U e l)[j]? = some v → w.cell? (a.add j) = some v := fun {j v} hv => by
        obtain ⟨i, k, y, h1, h2, rfl⟩ := flat_cell hU hv
        have h3 := cells_at (hls i y h1).2 (hU.len e y) h2
        rwa [Go.Deep.add_add] at h3
      have h0 : 0 < (flat U e l).length := Nat.lt_of_le_of_lt (Nat.zero_le _) (List.getElem?_eq_some_iff.1 hv).1
      have hs := cell_spot (at_ (List.getElem?_eq_getElem h0))
      have h3 := at_ hv
      obtain ⟨b, o, s⟩ := a
      have hs' : s = none := hs
      subst hs'
      refine ⟨b, o, rfl, ?_, fun id b h => by simp at h, fun h => by cases h⟩
      have : (⟨b, o, none⟩ : Addr).add j = ⟨b, o + j, none⟩ := by
        unfold Addr.add
        split
        · rename_i hj
          subst hj
          rfl
        · rfl
      rwa [this] at h3

theorem flat_of {U : Univ} (t n : Nat) : ∀ {m : Nat} {l : List (U.El t)} {cs : List Value}, l.length = m → cs.length = m * n → (∀ i y, l[i]? = some y → (cs.drop (i * n)).take n = U.cells t y) → cs = flat U t l
  | 0, [], cs, _, h, _ => by simpa [flat] using h
  | m + 1, y :: l, cs, hl, h, hc => by
    have e : flat U t (y :: l) = U.cells t y ++ flat U t l := by simp [flat]
    have h0 := hc 0 y rfl
    rw [Nat.zero_mul, List.drop_zero] at h0
    rw [e, ← h0, ← flat_of t n (m := m) (l := l) (cs := cs.drop n) (by simpa using hl) (by rw [List.length_drop, h, Nat.add_mul]; omega) fun i y' hy => ?_]
    · exact (List.take_append_drop n cs).symm
    · have := hc (i + 1) y' (by simpa using hy)
      rw [List.drop_drop]
      rwa [Nat.add_mul, Nat.one_mul, Nat.add_comm] at this

theorem lvF_ok {B : Nat → Prop} {total : Nat} {rec : TypeId → Option (List S1)} (hrec : ∀ {t ls fuel cs x}, rec t = some ls → DataW.trod enc P w base spare held fuel t cs = some x → ∃ z : Ts U.El ls, okTs U ls z ∧ CsR U B ι0 [] w (encs ls z false) cs) {cs : List Value} (hl : cs.length = total) :
    ∀ {fs : List Field} {off : Nat} {ls : List S1}, lvF P rec total off fs = some ls → (∀ f ∈ fs, ∃ n y, DataW.trod enc P w base spare held n f.type ((cs.drop f.offset).take (P.cellsOf f.type)) = some y) →
    ∃ z : Ts U.El ls, okTs U ls z ∧ CsR U B ι0 [] w (encs ls z false) (cs.drop off)
  | [], off, ls, h, _ => by
    unfold lvF at h
    split at h
    · rename_i ho
      cases h
      exact ⟨(), trivial, by rw [ho, List.drop_of_length_le (by omega)]; exact rfl⟩
    · cases h
  | f :: fs, off, ls, h, hf => by
    unfold lvF at h
    split at h
    · rename_i ho
      obtain ⟨a, ha, h⟩ := Option.bind_eq_some_iff.1 h
      obtain ⟨b, hb, h⟩ := Option.bind_eq_some_iff.1 h
      cases h
      obtain ⟨n, y, hy⟩ := hf f (by simp)
      obtain ⟨z1, k1, c1⟩ := hrec ha hy
      obtain ⟨z2, k2, c2⟩ := lvF_ok hrec hl hb fun g hg => hf g (by simp [hg])
      obtain ⟨z, k, c⟩ := Ts_app z1 z2 k1 k2 c1 c2
      refine ⟨z, k, ?_⟩
      rw [ho, ← List.drop_drop, List.take_append_drop] at c
      exact c
    · cases h

theorem lvs_ok (hU : UOk U) {el : Nat → Bool} (he : ∀ e, el e = true → ElOpens P U e) {B : Nat → Prop} : ∀ {N : Nat} {t : TypeId} {ls : List S1} {fuel : Nat} {cs : List Value} {x : DataW H × List MemPlace}, lvs P el N t = some ls → DataW.trod enc P w base spare held fuel t cs = some x →
    ∃ z : Ts U.El ls, okTs U ls z ∧ CsR U B ι0 [] w (encs ls z false) cs
  | 0, _, _, _, _, _, h, _ => by cases h
  | N + 1, t, ls, fuel, cs, x, h, hx => by
    unfold lvs at h
    split at h
    · rename_i k ht
      cases h
      obtain ⟨n, rfl, _, hw⟩ := DataW.trod_int ht hx
      exact ⟨((n : Int), ()), ⟨hw, trivial⟩, [_], [], rfl, ⟨_, rfl, rfl, rfl⟩, rfl⟩
    · rename_i ht
      cases h
      obtain ⟨b, rfl, _⟩ := DataW.trod_bool ht hx
      exact ⟨((b : Bool), ()), ⟨trivial, trivial⟩, [_], [], rfl, ⟨_, rfl, rfl, rfl⟩, rfl⟩
    · rename_i ht
      cases h
      obtain ⟨s, rfl, _, hs⟩ := DataW.trod_string ht hx
      exact ⟨((s : ByteArray), ()), ⟨hs, trivial⟩, [_], [], rfl, ⟨_, rfl, rfl, rfl⟩, rfl⟩
    · rename_i e ht
      split at h
      · rename_i hel
        cases h
        obtain ⟨l, hok, v, rfl, hv⟩ := row_open hU (he e hel) ht hx (B := B)
        exact ⟨((l : List (U.El e)), ()), ⟨hok, trivial⟩, [v], [], rfl, ⟨v, rfl, hv⟩, rfl⟩
      · cases h
    · rename_i n e ht
      split at h
      · rename_i hel
        cases h
        rw [Bool.and_eq_true] at hel
        obtain ⟨xs, m, _, _, hlen, hxl, hch⟩ := DataW.trod_array ht hx
        have hE := he e hel.1
        have key : ∀ i, i < n → ∃ y : U.El e, okEl U e y ∧ (cs.drop (i * U.sz e)).take (U.sz e) = U.cells e y := by
          intro i hi
          have h1 := hch i hi
          rw [List.getElem?_eq_getElem (by omega)] at h1
          obtain ⟨y, hy, hok⟩ := hE.2 h1
          exact ⟨y, hok, by rw [← hE.1]; exact hy⟩
        obtain ⟨l, hll, hls⟩ := list_of n key
        have hcs : cs.length = n * U.sz e := by rw [hlen, Nat.eq_of_beq_eq_true hel.2, hE.1]
        have hfl := flat_of (U := U) e (U.sz e) hll hcs fun i y hy => (hls i y hy).2
        refine ⟨((l : List (U.El e)), ()), ⟨⟨hll, fun y hy => ?_⟩, trivial⟩, cs, [], by simp, ⟨hll, hfl⟩, rfl⟩
        obtain ⟨i, hi, rfl⟩ := List.getElem_of_mem hy
        exact (hls i _ (List.getElem?_eq_getElem hi)).1
      · cases h
    · rename_i F ht
      obtain ⟨xs, m, _, _, hlen, hxl, hf⟩ := DataW.trod_struct ht hx
      have := lvF_ok (U := U) (B := B) (rec := lvs P el N) (fun h hx => lvs_ok hU he h hx) hlen h fun f hf' => by
        obtain ⟨i, hi, rfl⟩ := List.getElem_of_mem hf'
        have hi' : i < xs.length := by rw [hxl]; simpa using hi
        have h1 := hf i F[i] (by simp at hi ⊢)
        rw [List.getElem?_eq_getElem hi'] at h1
        exact ⟨m, _, h1⟩
      rwa [List.drop_zero] at this
    · cases h

/-- An argument of a struct type. -/
theorem arg_struct (hU : UOk U) {el : Nat → Bool} (he : ∀ e, el e = true → ElOpens P U e) {t : TypeId} {F : Array Field} (ht : P.underlying t = some (.struct F)) {N : Nat} {ls : List S1} (hl : lvs P el N t = some ls) {r : Reach} {b0 : Nat} {v : Value} {x : DataW H} {p : List MemPlace}
    (hv : Value.okWide P w r b0 t v) (hx : DataW.Trod enc P w base spare held t v x p) {B : Nat → Prop} : ∃ z : Ts U.El ls, okTs U ls z ∧ VR U B ι0 [] w (.w (.agg (encs ls z false))) v := by
  obtain ⟨cs, rfl, _⟩ := Go.WideShapes.okWide_struct ht hv
  obtain ⟨fuel, hf⟩ := hx
  obtain ⟨z, hz, hc⟩ := lvs_ok hU he (B := B) hl hf
  exact ⟨z, hz, cs.toList, by simp, hc⟩
/-- An argument of a slice type. -/
theorem arg_slice (hU : UOk U) {t e : TypeId} (he : ElOpens P U e) (ht : P.underlying t = some (.slice e)) {r : Reach} {b0 : Nat} {v : Value} {x : DataW H} {p : List MemPlace}
    (hv : Value.okWide P w r b0 t v) (hx : DataW.Trod enc P w base spare held t v x p) {B : Nat → Prop} : ∃ l : List (U.El e), okRow U e l ∧ VR U B ι0 [] w (.w (.c (.row e l false false))) v := by
  obtain ⟨a0, len, cap, rfl⟩ := Go.WideShapes.okWide_slice ht hv
  obtain ⟨fuel, hf⟩ := hx
  obtain ⟨l, hl, v, he, hv⟩ := row_open hU he ht hf (B := B)
  simp [Value.cells] at he
  subst he
  exact ⟨l, hl, hv⟩
end Go.Proofs.Ytnjmkkgmlkhjeaa.AM
namespace Go.Proofs.Ytnjmkkgmlkhjeaa.AM
open Go Go.RowKit

/-! Plain functions have fuel: what they come to from some fuel on. -/
def Ev {α : Type} (f : Nat → Option α) (v : α) : Prop := ∃ N, ∀ n, N ≤ n → f n = some v
theorem Ev.now {α : Type} (v : α) : Ev (fun _ => some v) v := ⟨0, fun _ _ => rfl⟩
theorem Ev.all {α : Type} {f : Nat → Option α} {v : α} (h : ∀ n, f n = some v) : Ev f v := ⟨0, fun n _ => h n⟩
theorem Ev.bind {α β : Type} {f : Nat → Option α} {g : Nat → α → Option β} {a : α} {v : β} (h : Ev f a) (k : Ev (fun n => g n a) v) : Ev (fun n => (f n).bind (g n)) v := by
  obtain ⟨N, hN⟩ := h
  obtain ⟨M, hM⟩ := k
  exact ⟨N + M, fun n hn => by show (f n).bind (g n) = _; rw [hN n (by omega)]; exact hM n (by omega)⟩
theorem Ev.congr {α : Type} {f g : Nat → Option α} {v : α} (h : ∀ n, f n = g n) (k : Ev g v) : Ev f v := by
  obtain ⟨N, hN⟩ := k
  exact ⟨N, fun n hn => (h n).trans (hN n hn)⟩
theorem Ev.eq {α : Type} {f : Nat → Option α} {v v' : α} (h : Ev f v) (e : v = v') : Ev f v' := e ▸ h
/-- A loop's head: one round more. -/
theorem Ev.step {α : Type} {f g : Nat → Option α} {v : α} (h : ∀ n, f (n + 1) = g n) (k : Ev g v) : Ev f v := by
  obtain ⟨N, hN⟩ := k
  refine ⟨N + 1, fun n hn => ?_⟩
  obtain ⟨m, rfl⟩ : ∃ m, n = m + 1 := ⟨n - 1, by omega⟩
  rw [h]
  exact hN m (by omega)
theorem Ev.t {α : Type} {b : Bool} {f g : Nat → Option α} {v : α} (hb : b = true) (h : Ev f v) : Ev (fun n => bif b then f n else g n) v := by
  subst hb; exact h
theorem Ev.f {α : Type} {b : Bool} {f g : Nat → Option α} {v : α} (hb : b = false) (h : Ev g v) : Ev (fun n => bif b then f n else g n) v := by
  subst hb; exact h
theorem Ev.dt {α : Type} {c : Prop} [Decidable c] {f g : Nat → Option α} {v : α} (hc : c) (h : Ev f v) : Ev (fun n => bif decide c then f n else g n) v := Ev.t (decide_eq_true hc) h
theorem Ev.df {α : Type} {c : Prop} [Decidable c] {f g : Nat → Option α} {v : α} (hc : ¬ c) (h : Ev g v) : Ev (fun n => bif decide c then f n else g n) v := Ev.f (decide_eq_false hc) h
theorem Ev.cases {α : Type} {b : Bool} {f g : Nat → Option α} {v : α} (h : b = true → Ev f v) (k : b = false → Ev g v) : Ev (fun n => bif b then f n else g n) v := by
  cases b
  · exact k rfl
  · exact h rfl
theorem Ev.dcases {α : Type} {c : Prop} [Decidable c] {f g : Nat → Option α} {v : α} (h : c → Ev f v) (k : ¬ c → Ev g v) : Ev (fun n => bif decide c then f n else g n) v := by
  by_cases hc : c
  · exact Ev.dt hc (h hc)
  · exact Ev.df hc (k hc)
theorem Ev.ite {α : Type} {b : Bool} {f g : Nat → Option α} {v w : α} (h : b = true → Ev f v) (k : b = false → Ev g w) : Ev (fun n => bif b then f n else g n) (bif b then v else w) := by
  cases b
  · exact k rfl
  · exact h rfl
theorem Ev.at {α : Type} {f : Nat → Option α} {v : α} (h : Ev f v) : ∃ n, f n = some v := by
  obtain ⟨N, hN⟩ := h
  exact ⟨N, hN N (Nat.le_refl _)⟩
theorem Ev.inj {α : Type} {f : Nat → Option α} {v w : α} (h : Ev f v) (k : Ev f w) : v = w := by
  obtain ⟨N, hN⟩ := h
  obtain ⟨M, hM⟩ := k
  have := (hN (N + M) (by omega)).symm.trans (hM (N + M) (by omega))
  exact Option.some.inj this
/-- Two that come to the same. -/
def Same {α : Type} (f g : Nat → Option α) : Prop := ∃ v, Ev f v ∧ Ev g v

/-! ### whole numbers -/
theorem wI {n : Int} (h0 : -9223372036854775808 ≤ n) (h1 : n ≤ 9223372036854775807) : IntKind.i64.wrap n = n := by
  rw [IntKind.wrap_i64]; omega
theorem wI_def (n : Int) : IntKind.i64.wrap n = (n + 9223372036854775808) % 18446744073709551616 - 9223372036854775808 := by
  rw [IntKind.wrap_i64]
theorem wU_def (n : Int) : IntKind.u64.wrap n = n % 18446744073709551616 := by simp [IntKind.wrap, IntKind.bits, IntKind.signed]
theorem wU8_def (n : Int) : IntKind.u8.wrap n = n % 256 := by simp [IntKind.wrap, IntKind.bits, IntKind.signed]
theorem wI_U (n : Int) : IntKind.i64.wrap (IntKind.u64.wrap n) = IntKind.i64.wrap n := by rw [wU_def, wI_def, wI_def]; omega
theorem wU_I (n : Int) : IntKind.u64.wrap (IntKind.i64.wrap n) = IntKind.u64.wrap n := by rw [wU_def, wU_def, wI_def]; omega
def R64 (n : Int) : Prop := -9223372036854775808 ≤ n ∧ n ≤ 9223372036854775807
theorem wf64 {a : Int} (h : (Lit.int .i64 a).wf = true) : -9223372036854775808 ≤ a ∧ a ≤ 9223372036854775807 := by
  simp only [Lit.wf, IntKind.min, IntKind.max, IntKind.signed, IntKind.bits, Bool.and_eq_true, decide_eq_true_eq, if_true] at h
  omega
theorem wI_R (n : Int) : R64 (IntKind.i64.wrap n) := by rw [wI_def]; unfold R64; omega

/-! ### rows -/
theorem rd_lt {α : Type} {d : α} {l : List α} {i : Nat} (h : i < l.length) : rd d l i = l[i] := by
  unfold rd; rw [List.getD_eq_getElem?_getD, List.getElem?_eq_getElem h]; rfl
theorem rd_ge {α : Type} {d : α} {l : List α} {i : Nat} (h : l.length ≤ i) : rd d l i = d := by
  unfold rd; rw [List.getD_eq_getElem?_getD, List.getElem?_eq_none h]; rfl
theorem rd_mem {α : Type} {d : α} {l : List α} {i : Nat} (h : i < l.length) : rd d l i ∈ l := by
  rw [rd_lt h]; exact List.getElem_mem h
theorem rd_ext {α : Type} {d : α} {l m : List α} (h : l.length = m.length) (k : ∀ i, i < l.length → rd d l i = rd d m i) : l = m := by
  refine List.ext_getElem h fun i h1 h2 => ?_
  have := k i h1
  rwa [rd_lt h1, rd_lt h2] at this
theorem rd_set {α : Type} {d : α} {l : List α} {i j : Nat} {x : α} (h : i < l.length) : rd d (l.set i x) j = if i = j then x else rd d l j := by
  unfold rd
  rw [List.getD_eq_getElem?_getD, List.getD_eq_getElem?_getD, List.getElem?_set]
  split
  · simp [h]
  · rfl
theorem rd_append_lt {α : Type} {d : α} {l m : List α} {i : Nat} (h : i < l.length) : rd d (l ++ m) i = rd d l i := by
  unfold rd; rw [List.getD_eq_getElem?_getD, List.getD_eq_getElem?_getD, List.getElem?_append_left h]
theorem rd_append_ge {α : Type} {d : α} {l m : List α} {i : Nat} (h : l.length ≤ i) : rd d (l ++ m) i = rd d m (i - l.length) := by
  unfold rd; rw [List.getD_eq_getElem?_getD, List.getD_eq_getElem?_getD, List.getElem?_append_right h]
/-- A loop that copies a row place by place. -/
theorem set_prefix {α : Type} {d : α} {l b : List α} {i : Nat} (hi : i < l.length) (hb : b.length = l.length) (h : ∀ j, j < i → rd d b j = rd d l j) : ∀ j, j < i + 1 → rd d (b.set i (rd d l i)) j = rd d l j := by
  intro j hj
  rw [rd_set (by omega)]
  split
  · rename_i e; rw [e]
  · exact h j (by omega)
theorem toList_inj {a b : ByteArray} (h : a.toList = b.toList) : a = b := by
  rw [ByteArray.toList_eq, ByteArray.toList_eq] at h
  exact Go.WideShapes.bytes_inj h
end Go.Proofs.Ytnjmkkgmlkhjeaa.AM
