/- What a value that was read as data is, by its kind: lemmas for rows over structs and slices of structs. No condition. -/
import Derived.Test.YtigoabhkdipdeaaNWFnExactStoreAt
import Derived.Deep.Slices
import Derived.ChangeArms
import Derived.ProofKit
namespace Go.Proofs.Ytigoabhkdipdeaa.Open
open Go.RowKit Go.ChangeShapes Go.WideShapes Go.Proofs.YtigoabhkdipdeaaW.PrintWords
theorem cells_at {w : World} {base n i : Nat} {a : Addr} {c : List Value} (h : w.cells? base (a.add (i * n)) n = some c) (_hl : c.length = n) (j : Nat) (u : Value) (hj : c[j]? = some u) : w.cell? (a.add (i * n + j)) = some u := by
  obtain ⟨_, hlen, hc⟩ := World.cells?_some h
  have hjn : j < n := by have := (List.getElem?_eq_some_iff.1 hj).1; omega
  have := hc j hjn
  rw [Go.Deep.add_add] at this
  rw [this, hj]
theorem list_of_index {α : Type} {p : Nat → α → Prop} : ∀ n : Nat, (∀ i, i < n → ∃ x, p i x) → ∃ xs : List α, xs.length = n ∧ ∀ i, i < n → ∃ x, xs[i]? = some x ∧ p i x := by
  intro n
  induction n with
  | zero => intro _; exact ⟨[], rfl, fun i hi => absurd hi (Nat.not_lt_zero _)⟩
  | succ n ih =>
    intro h
    obtain ⟨xs, hl, hx⟩ := ih (fun i hi => h i (Nat.lt_succ_of_lt hi))
    obtain ⟨x, hp⟩ := h n (Nat.lt_succ_self n)
    refine ⟨xs ++ [x], by simp [hl], fun i hi => ?_⟩
    rcases Nat.lt_succ_iff_lt_or_eq.1 hi with hlt | rfl
    · obtain ⟨y, hy, hpy⟩ := hx i hlt
      exact ⟨y, by rw [List.getElem?_append_left (by omega)]; exact hy, hpy⟩
    · exact ⟨x, by rw [List.getElem?_append_right (by omega)]; simp [hl], hp⟩
/-- A value of type t that was read as data is told by d, and is right by ok. -/
def Opens (P : Program) (t : TypeId) {α : Type} (d : Kd α) (ok : α → Prop) : Prop :=
  P.cellsOf t = d.sz ∧ ∀ {H : Type} {enc : TypeId × Value → H} {w : World} {base : Nat} {spare : Nat → Bool} {held : Bool} {fuel : Nat} {cs : List Value} {x : DataW H × List MemPlace},
    DataW.trod enc P w base spare held fuel t cs = some x → ∃ a, d.K w a cs ∧ ok a
theorem opens_int {P : Program} {t : TypeId} {k : IntKind} (ht : P.underlying t = some (.int k)) (hs : P.cellsOf t = 1) : Opens P t (Kd.int k) (fun a => (Lit.int k a).wf = true) := by
  refine ⟨hs, fun {H enc w base spare held fuel cs x} h => ?_⟩
  obtain ⟨n, rfl, _, hw⟩ := DataW.trod_int ht h
  exact ⟨n, rfl, hw⟩
theorem opens_bool {P : Program} {t : TypeId} (ht : P.underlying t = some .bool) (hs : P.cellsOf t = 1) : Opens P t Kd.bool (fun _ => True) := by
  refine ⟨hs, fun {H enc w base spare held fuel cs x} h => ?_⟩
  obtain ⟨b, rfl, _⟩ := DataW.trod_bool ht h
  exact ⟨b, rfl, trivial⟩
theorem opens_string {P : Program} {t : TypeId} (ht : P.underlying t = some .string) (hs : P.cellsOf t = 1) : Opens P t Kd.string (fun s => s.size ≤ 9223372036854775807) := by
  refine ⟨hs, fun {H enc w base spare held fuel cs x} h => ?_⟩
  obtain ⟨s, rfl, _, hl⟩ := DataW.trod_string ht h
  exact ⟨s, rfl, hl⟩
theorem opens_slice {P : Program} {t e : TypeId} {α : Type} {d : Kd α} {ok : α → Prop} (ht : P.underlying t = some (.slice e)) (hs : P.cellsOf t = 1) (he : Opens P e d ok) :
    Opens P t (Kd.slice e d) (fun xs => xs.length ≤ 9223372036854775807 ∧ ∀ x ∈ xs, ok x) := by
  refine ⟨hs, fun {H enc w base spare held fuel cs x} h => ?_⟩
  rcases Go.Deep.open_slice ht h with ⟨rfl, _⟩ | ⟨a, len, cap, m, n, D, Pl, rfl, hb, hl, hm, hmm, rfl, hx⟩
  · exact ⟨[], ⟨none, 0, rfl, Nat.le_refl _, rfl, by simp, fun h => absurd h (by simp)⟩, by simp, fun x hx => by cases hx⟩
  · have hlm : len ≤ m := by rw [hmm]; split <;> omega
    have key : ∀ i, i < len → ∃ (y : α) (c : List Value), d.K w y c ∧ ok y ∧ c.length = d.sz ∧ ∀ j u, c[j]? = some u → w.cell? (a.add (i * d.sz + j)) = some u := by
      intro i hi
      obtain ⟨c, hc, ht⟩ := hx i (by omega)
      obtain ⟨y, hK, hok⟩ := he.2 ht
      refine ⟨y, c, hK, hok, d.K_len hK, fun j u hj => ?_⟩
      rw [he.1] at hc
      exact cells_at hc (d.K_len hK) j u hj
    obtain ⟨xs, hxl, hxs⟩ := list_of_index len key
    have hmax : len ≤ 9223372036854775807 := Nat.le_trans hl hm
    refine ⟨xs, ⟨some a, cap, by rw [hxl], by omega, hxl ▸ rfl, by omega, fun _ => ⟨a, rfl, fun j p hp => ?_⟩⟩, by omega, fun x hx => ?_⟩
    · have hj : j < len := by rw [← hxl]; exact (List.getElem?_eq_some_iff.1 hp).1
      obtain ⟨y, hy, c, hK, _, hcl, hcell⟩ := hxs j hj
      rw [hy] at hp
      obtain rfl := Option.some.inj hp
      exact ⟨c, hcl, hK, hcell⟩
    · obtain ⟨j, hj, rfl⟩ := List.getElem_of_mem hx
      obtain ⟨y, hy, c, _, hok, _⟩ := hxs j (by omega)
      rw [List.getElem?_eq_getElem hj] at hy
      obtain rfl := Option.some.inj hy
      exact hok
/-- The fields from the offset off on are told by d. -/
def OpensF (P : Program) (total : Nat) (off : Nat) (l : List (Nat × TypeId)) {α : Type} (d : Kd α) (ok : α → Prop) : Prop :=
  off + d.sz = total ∧ ∀ {H : Type} {enc : TypeId × Value → H} {w : World} {base : Nat} {spare : Nat → Bool} {held : Bool} {cs : List Value}, cs.length = total →
    (∀ f ∈ l, ∃ n y, DataW.trod enc P w base spare held n f.2 ((cs.drop f.1).take (P.cellsOf f.2)) = some y) → ∃ a, d.K w a (cs.drop off) ∧ ok a
theorem opensF_last {P : Program} {total off : Nat} {t : TypeId} {α : Type} {d : Kd α} {ok : α → Prop} (h : Opens P t d ok) (ht : off + d.sz = total) : OpensF P total off [(off, t)] d ok := by
  refine ⟨ht, fun {H enc w base spare held cs} hl hf => ?_⟩
  obtain ⟨n, y, hy⟩ := hf (off, t) (List.mem_singleton.2 rfl)
  rw [List.take_of_length_le (by rw [h.1]; simp; omega)] at hy
  exact h.2 hy
theorem opensF_cons {P : Program} {total off off1 : Nat} {t : TypeId} {l : List (Nat × TypeId)} {α β : Type} {d : Kd α} {ok : α → Prop} {d' : Kd β} {ok' : β → Prop} (h : Opens P t d ok) (h1 : off1 = off + d.sz) (hr : OpensF P total off1 l d' ok') :
    OpensF P total off ((off, t) :: l) (Kd.pair d d') (fun x => ok x.1 ∧ ok' x.2) := by
  subst h1
  refine ⟨by have := hr.1; show off + (d.sz + d'.sz) = total; omega, fun {H enc w base spare held cs} hl hf => ?_⟩
  obtain ⟨n, y, hy⟩ := hf (off, t) (List.mem_cons_self ..)
  obtain ⟨a, ha, hok⟩ := h.2 hy
  obtain ⟨b, hb, hok'⟩ := hr.2 hl (fun f hm => hf f (List.mem_cons_of_mem _ hm))
  refine ⟨(a, b), ⟨(cs.drop off).take (P.cellsOf t), cs.drop (off + d.sz), ?_, ha, hb⟩, hok, hok'⟩
  rw [h.1, ← List.drop_drop, List.take_append_drop]
theorem opens_struct {P : Program} {t : TypeId} {fs : Array Field} {l : List (Nat × TypeId)} {α β : Type} {d : Kd α} {ok : α → Prop} (f : β → α) (g : α → β) (hfg : ∀ x, f (g x) = x) (ht : P.underlying t = some (.struct fs)) (hl : l = fs.toList.map fun z => (z.offset, z.type)) (hc : OpensF P (P.cellsOf t) 0 l d ok) :
    Opens P t (Kd.iso d f) (fun x => ok (f x)) := by
  refine ⟨by have := hc.1; show P.cellsOf t = d.sz; omega, fun {H enc w base spare held fuel cs x} h => ?_⟩
  obtain ⟨xs, n, _, _, hlen, hxl, hf⟩ := DataW.trod_struct ht h
  have key : ∀ f ∈ l, ∃ n y, DataW.trod enc P w base spare held n f.2 ((cs.drop f.1).take (P.cellsOf f.2)) = some y := by
    intro z hz
    rw [hl] at hz
    obtain ⟨fd, hfd, rfl⟩ := List.mem_map.1 hz
    obtain ⟨i, hi, he⟩ := List.getElem_of_mem hfd
    have hi' : i < xs.length := by rw [hxl]; simpa using hi
    have := hf i fd (by rw [← he]; simp at hi ⊢)
    rw [List.getElem?_eq_getElem hi'] at this
    exact ⟨n, _, this⟩
  obtain ⟨a, ha, hok⟩ := hc.2 hlen key
  refine ⟨g a, ?_, ?_⟩
  · show d.K w (f (g a)) cs
    rw [hfg]; simpa using ha
  · show ok (f (g a)); rw [hfg]; exact hok
/-- What an argument of a struct type is. -/
theorem opens_arg {P : Program} {t : TypeId} {fs : Array Field} {α : Type} {d : Kd α} {ok : α → Prop} (h : Opens P t d ok) (ht : P.underlying t = some (.struct fs)) {H : Type} {enc : TypeId × Value → H} {w : World} {r : Reach} {b0 base : Nat} {spare : Nat → Bool} {held : Bool} {v : Value} {x : DataW H} {p : List MemPlace}
    (hv : Value.okWide P w r b0 t v) (hx : DataW.Trod enc P w base spare held t v x p) : ∃ cs a, v = .agg cs ∧ d.K w a cs.toList ∧ ok a := by
  obtain ⟨cs, rfl, hsz⟩ := okWide_struct ht hv
  obtain ⟨fuel, hf⟩ := hx
  obtain ⟨a, ha, hok⟩ := h.2 hf
  exact ⟨cs, a, rfl, ha, hok⟩
/-- What an argument of a slice type is. -/
theorem opens_argS {P : Program} {t e : TypeId} {α : Type} {d : Kd α} {ok : List α → Prop} (h : Opens P t (Kd.slice e d) ok) (ht : P.underlying t = some (.slice e)) {H : Type} {enc : TypeId × Value → H} {w : World} {r : Reach} {b0 base : Nat} {spare : Nat → Bool} {held : Bool} {v : Value} {x : DataW H} {p : List MemPlace}
    (hv : Value.okWide P w r b0 t v) (hx : DataW.Trod enc P w base spare held t v x p) : ∃ A c xs, v = .slice A xs.length c ∧ xs.length ≤ c ∧ Kd.C d w A xs.length xs ∧ ok xs := by
  obtain ⟨a0, len, cap, rfl⟩ := okWide_slice ht hv
  obtain ⟨fuel, hf⟩ := hx
  obtain ⟨xs, ⟨A, c1, he, hl, hC⟩, hok⟩ := h.2 hf
  simp [Value.cells] at he
  obtain ⟨rfl, rfl, rfl⟩ := he
  exact ⟨_, _, xs, rfl, hl, hC, hok⟩

end Go.Proofs.Ytigoabhkdipdeaa.Open
