/- A part of the plain reading of Go's code: what a function's code comes to, by a plain function. No condition. -/
import Derived.Test.YtigoabhkdipdeaaZAV
namespace Go.Proofs.Ytigoabhkdipdeaa.AM
open Go.RowKit
variable {ρ : Type}

section
theorem dec_int {El : Nat → Type} {k : IntKind} {c : C El} {x : Int} (h : C.int? k c = some x) : c = .sc (.int k x) := by
  unfold C.int? at h
  split at h
  · split at h
    · rename_i hk
      cases h
      rw [hk]
    · cases h
  · cases h
theorem dec_bool {El : Nat → Type} {c : C El} {x : Bool} (h : C.bool? c = some x) : c = .sc (.bool x) := by
  unfold C.bool? at h
  split at h
  · cases h; rfl
  · cases h
theorem dec_str {El : Nat → Type} {c : C El} {x : ByteArray} (h : C.str? c = some x) : c = .sc (.string x) := by
  unfold C.str? at h
  split at h
  · cases h; rfl
  · cases h
theorem dec_arr {El : Nat → Type} {t n : Nat} {c : C El} {x : List (El t)} (h : C.arr? t n c = some x) : c = .arr t n x := by
  unfold C.arr? at h
  split at h
  · split at h
    · rename_i ht
      subst ht
      split at h
      · rename_i hn
        subst hn
        cases h
        rfl
      · cases h
    · cases h
  · cases h

theorem dec_own {El : Nat → Type} {m : List (Blk El)} {t : Nat} {c : C El} {l : List (El t)} (h : ownRow m t c = some l) : (∃ id, c = .sl id ∧ m[id]? = some (.da t l)) ∨ (c = .sc (.slice none 0 0) ∧ l = []) := by
  unfold ownRow at h
  split at h
  · rename_i id
    split at h
    · rename_i t' l' hm
      split at h
      · rename_i e
        subst e
        cases h
        exact .inl ⟨id, rfl, hm⟩
      · cases h
    · cases h
  · cases h
    exact .inr ⟨rfl, rfl⟩
  · cases h
theorem dec_rol {El : Nat → Type} {t : Nat} {c : C El} {l : List (El t)} (h : rolOf t c = some l) : (∃ tg loc, c = .row t l tg loc) ∨ (c = .sc (.slice none 0 0) ∧ l = []) := by
  unfold rolOf at h
  split at h
  · rename_i t' l' tg loc
    split at h
    · rename_i e
      subst e
      cases h
      exact .inl ⟨tg, loc, rfl⟩
    · cases h
  · cases h
    exact .inr ⟨rfl, rfl⟩
  · cases h
end

/-- Blocks that are handed over: from (ι, m) to (ιT, mT). -/
structure Over (U : Univ) (D D' : Nat → Prop) (lc : Bool) (ι : Nat → Value) (m : List (Blk U.El)) (src : List (Option Nat)) (us : List Nat) (ιT : Nat → Value) (mT : List (Blk U.El)) : Prop where
  len : mT.length = src.length
  is : ∀ i a, src[i]? = some (some a) → ιT i = ι a
  no : ∀ i, src[i]? = some none → ιT i = .slice none 0 0
  far : ∀ b, Far U ι m b → Far U ιT mT b
  use : ∀ i, i ∈ us → some i ∉ src
  inj : ∀ i j b b' k, m[i]? = some b → m[j]? = some b' → b.live → b'.live → ownOf (ι i) = some k → ownOf (ι j) = some k → i = j
  own : ∀ id b k, mT[id]? = some b → ownOf (ιT id) = some k → ∃ a b', src[id]? = some (some a) ∧ m[a]? = some b' ∧ b'.live ∧ ownOf (ι a) = some k
  rol : ∀ b, Far U ι m b → (lc = true → D b) → D' b

section
variable {P : Program} {G : Cfg} {B D' : Nat → Prop} {lc : Bool} {S : Nat → Prop} {ι ιT : Nat → Value} {m mT : List (Blk G.U.El)} {w : World} {src : List (Option Nat)} {us : List Nat}

/-- A block that is read alone is none of those that are handed over. -/
theorem Over.blk (O : Over G.U B D' lc ι m src us ιT mT) {id g : Nat} {q : Blk G.U.El} (hb : m[id]? = some q) (hl : q.live) (hu : id ∈ us) (hg : ownOf (ι id) = some g) : Far G.U ιT mT g := by
  intro i p hp hlp hk
  obtain ⟨a, b', e1, e2, e3, e4⟩ := O.own i p g hp hk
  have := O.inj a id b' _ g e2 hb e3 hl e4 hg
  subst this
  exact O.use a hu (List.mem_of_getElem? e1)

/-- A row, as a view. -/
theorem Over.view (hF : Fits P G.U G.ti) (hm : MR G.U B S ι m w) (O : Over G.U B D' lc ι m src us ιT mT) {t : Nat} {c : C G.U.El} {l : List (G.U.El t)} {vs : List Value} (lo : Bool) (h : rowOf m t c = some l) (hc : CW G.U B ι m w c vs)
    (hlo : lo = true → c.loc = true) (hmine : lo = true → ∀ id b k, m[id]? = some b → b.live → ownOf (ι id) = some k → D' k) (hus : ∀ i, i ∈ c.use → i ∈ us) : CW G.U D' ιT mT w (.row t l false lo) vs := by
  obtain ⟨v, rfl, hv⟩ : ∃ v, vs = [v] ∧ CR G.U B ι m w c v := CsR.single (by intro t n l e; subst e; simp [rowOf] at h) ⟨vs, [], by simp, hc, rfl⟩
  obtain ⟨A, cap, rfl, hr, hle⟩ := rowOf_ok hF hm hv h
  refine ⟨_, rfl, A, cap, rfl, hle, ?_, fun h => by cases h⟩
  cases c with
  | row t' l' tg lc' =>
    simp only [rowOf] at h
    split at h
    · rename_i e
      subst e
      cases h
      obtain ⟨A', cap', e1, _, h3, _⟩ := hv
      cases e1
      exact fun j u hu => let ⟨b, o, e1, e2, e3, e4⟩ := h3 j u hu; ⟨b, o, e1, e2, O.far b e3, fun hl => O.rol b e3 fun _ => e4 (hlo hl)⟩
    · cases h
  | sl id =>
    simp only [rowOf] at h
    split at h
    · rename_i t' l' hb
      obtain ⟨hid, e, _⟩ := hv
      intro j u hu
      obtain ⟨b, o, e1, e2⟩ := hr j u hu
      have hg : ownOf (ι id) = some b := by rw [← e, e1]; rfl
      exact ⟨b, o, e1, e2, O.blk hb trivial (hus id (by simp [C.use])) hg, fun hl => hmine hl id _ b hb trivial hg⟩
    · cases h
  | sub id e o n =>
    simp only [rowOf] at h
    split at h
    · rename_i t' l' hb
      obtain ⟨hid, A', cap', e1, _, hA⟩ := hv
      cases e1
      intro j u hu
      obtain ⟨b, o', e1, e2⟩ := hr j u hu
      have hn : 0 < l.length := by
        rcases Nat.eq_zero_or_pos l.length with h0 | h0
        · have : l = [] := List.eq_nil_of_length_eq_zero h0
          subst this
          simp [flat] at hu
        · exact h0
      obtain ⟨g, n', c', e3, e4, e5⟩ := hA hn
      rw [e5] at e1
      cases e1
      have hg : ownOf (ι id) = some b := by rw [e3]; rfl
      exact ⟨b, _, e5, e2, O.blk hb trivial (hus id (by simp [C.use])) hg, fun hl => hmine hl id _ b hb trivial hg⟩
    · cases h
  | sc u =>
    have : l = [] := by
      simp only [rowOf] at h
      split at h <;> simp_all
    subst this
    exact fun j u hu => by simp [flat] at hu
  | _ => simp [rowOf] at h

theorem Over.sc (O : Over G.U B D' lc ι m src us ιT mT) {c : C G.U.El} {vs : List Value} (hc : CW G.U B ι m w c vs) {v : Value} (e : c = .sc v) : CW G.U D' ιT mT w (.sc v) vs := by
  subst e
  obtain ⟨v, e1, e2, e3⟩ := hc
  exact ⟨v, e1, e2, e3⟩

/-- A row that is handed over to own. -/
theorem Over.given (O : Over G.U B D' lc ι m src us ιT mT) {c : C G.U.El} {vs : List Value} {k : Nat} (hc : CW G.U B ι m w c vs) (hs : (∃ id, c = .sl id) ∨ c = .sc (.slice none 0 0)) (hat : src[k]? = some c.src) : CW G.U D' ιT mT w (.sl k) vs := by
  have hlt : k < mT.length := by rw [O.len]; exact (List.getElem?_eq_some_iff.1 hat).1
  rcases hs with ⟨id, rfl⟩ | rfl
  · obtain ⟨v, rfl, h1, h2, h3⟩ := hc
    exact ⟨v, rfl, hlt, by rw [O.is _ id hat]; exact h2, h3⟩
  · obtain ⟨v, rfl, h1, h2⟩ := hc
    exact ⟨v, rfl, hlt, by rw [O.no _ hat]; exact h1, by rw [h1]; exact h2⟩

theorem dec1_ok (hF : Fits P G.U G.ti) (hm : MR G.U B S ι m w) (O : Over G.U B D' lc ι m src us ιT mT) {s : S1} {c : C G.U.El} {x : s.T G.U.El} {vs : List Value} {mk : List (Blk G.U.El)} (h : s.dec m c = some x) (hc : CW G.U B ι m w c vs)
    (hpre : ∃ p q, src = p ++ (s.mv c ++ q) ∧ p.length = mk.length) (hus : ∀ i, i ∈ s.us c → i ∈ us) (hlc : lc = true → s.lc c = true) : CW G.U D' ιT mT w (encI1 s x mk).1 vs := by
  cases s with
  | int k => exact O.sc hc (dec_int h)
  | bool => exact O.sc hc (dec_bool h)
  | str => exact O.sc hc (dec_str h)
  | row t => exact O.view hF hm false h hc (fun h => by cases h) (fun h => by cases h) hus
  | sl t => exact O.view hF hm false h hc (fun h => by cases h) (fun h => by cases h) hus
  | arr t n => have := dec_arr h; subst this; exact hc
  | rol t =>
    have h' : rolOf t c = some (x : List (G.U.El t)) := h
    rcases dec_rol h' with ⟨tg, loc, rfl⟩ | ⟨rfl, hx⟩
    · obtain ⟨v, rfl, A, cap, rfl, h1, h2, _⟩ := hc
      refine ⟨_, rfl, A, cap, rfl, h1, fun j u hu => ?_, fun h => by cases h⟩
      obtain ⟨b, o, e1, e2, e3, e4⟩ := h2 j u hu
      exact ⟨b, o, e1, e2, O.far b e3, fun _ => O.rol b e3 fun hl => e4 (hlc hl)⟩
    · obtain ⟨v, rfl, h1, h2⟩ := hc
      show CW G.U D' ιT mT w (.row t x false true) _
      rw [hx]
      exact ⟨v, rfl, none, 0, h1, Nat.le_refl _, fun j u hu => by simp [flat] at hu, fun h => by cases h⟩
  | ip t =>
    have h' : ownRow m t c = some (x : List (G.U.El t)) := h
    obtain ⟨p, q, e, hp⟩ := hpre
    have hat : src[mk.length]? = some c.src := by
      rw [e, ← hp, List.getElem?_append_right (Nat.le_refl _)]
      simp [S1.mv]
    rcases dec_own h' with ⟨id, rfl, _⟩ | ⟨rfl, _⟩
    · exact O.given hc (.inl ⟨id, rfl⟩) hat
    · exact O.given hc (.inr rfl) hat
  | gv t =>
    have h' : ownRow m t c = some (x : List (G.U.El t)) := h
    obtain ⟨p, q, e, hp⟩ := hpre
    have hat : src[mk.length]? = some c.src := by
      rw [e, ← hp, List.getElem?_append_right (Nat.le_refl _)]
      simp [S1.mv]
    rcases dec_own h' with ⟨id, rfl, _⟩ | ⟨rfl, _⟩
    · exact O.given hc (.inl ⟨id, rfl⟩) hat
    · exact O.given hc (.inr rfl) hat

theorem encI1_len {m mk : List (Blk G.U.El)} (s : S1) (c : C G.U.El) (x : s.T G.U.El) : (encI1 s x mk).2.length = mk.length + (s.mv c).length := by
  cases s <;> simp [encI1, S1.mv]

theorem encI2_len {m : List (Blk G.U.El)} : ∀ {ss : List S1} {cs : List (C G.U.El)} {x : Ts G.U.El ss} (mk : List (Blk G.U.El)), decs m ss cs = some x → (encI2 ss x mk).2.length = mk.length + (mv1 ss cs).length
  | [], [], _, _, _ => rfl
  | [], _ :: _, _, _, h => by simp [decs] at h
  | _ :: _, [], _, _, h => by simp [decs] at h
  | s :: ss, c :: cs, x, mk, h => by
    simp only [decs] at h
    obtain ⟨y, h3, h⟩ := Option.bind_eq_some_iff.1 h
    obtain ⟨z, h4, h⟩ := Option.bind_eq_some_iff.1 h
    cases h
    simp only [encI2, mv1, List.length_append]
    rw [encI2_len (mk := (encI1 s y mk).2) h4, encI1_len (m := m) s c y]
    omega

theorem decs_ok (hF : Fits P G.U G.ti) (hm : MR G.U B S ι m w) (O : Over G.U B D' lc ι m src us ιT mT) : ∀ {ss : List S1} {cs : List (C G.U.El)} {x : Ts G.U.El ss} {vs : List Value} {mk : List (Blk G.U.El)}, decs m ss cs = some x → CsR G.U B ι m w cs vs →
    (∃ p q, src = p ++ (mv1 ss cs ++ q) ∧ p.length = mk.length) → (∀ i, i ∈ us1 ss cs → i ∈ us) → (lc = true → lc1 ss cs = true) → CsR G.U D' ιT mT w (encI2 ss x mk).1 vs
  | [], [], x, vs, mk, h, hc, _, _, _ => hc
  | [], _ :: _, _, _, _, h, _, _, _, _ => by simp [decs] at h
  | _ :: _, [], _, _, _, h, _, _, _, _ => by simp [decs] at h
  | s :: ss, c :: cs, x, vs, mk, h, ⟨a, r, e, h1, h2⟩, ⟨p, q, hp, hpl⟩, hus, hlc => by
    simp only [decs] at h
    obtain ⟨y, h3, h⟩ := Option.bind_eq_some_iff.1 h
    obtain ⟨z, h4, h⟩ := Option.bind_eq_some_iff.1 h
    cases h
    have hl : lc = true → s.lc c = true ∧ lc1 ss cs = true := fun h => by simpa [lc1, Bool.and_eq_true] using hlc h
    refine ⟨a, r, e, dec1_ok hF hm O (mk := mk) h3 h1 ⟨p, mv1 ss cs ++ q, by rw [hp, mv1, List.append_assoc], hpl⟩ (fun i hi => hus i (List.mem_append_left _ hi)) fun h => (hl h).1, ?_⟩
    exact decs_ok hF hm O (mk := (encI1 s y mk).2) h4 h2 ⟨p ++ s.mv c, q, by rw [hp, mv1]; simp, by rw [encI1_len (m := m) s c y, List.length_append, hpl]⟩ (fun i hi => hus i (List.mem_append_right _ hi)) fun h => (hl h).2

theorem encI1_pre {El : Nat → Type} (s : S1) (x : s.T El) (m : List (Blk El)) : m <+: (encI1 s x m).2 := by
  cases s <;> simp [encI1]
theorem encI2_pre {El : Nat → Type} : ∀ (ss : List S1) (x : Ts El ss) (m : List (Blk El)), m <+: (encI2 ss x m).2
  | [], _, _ => List.prefix_refl _
  | s :: ss, (x, y), m => (encI1_pre s x m).trans (encI2_pre ss y _)

/-- What the blocks are that are pushed at a call's start. -/
def Pushed (U : Univ) (D' : Nat → Prop) (ι : Nat → Value) (m : List (Blk U.El)) (ιT : Nat → Value) (mT : List (Blk U.El)) (w : World) (mk M : List (Blk U.El)) : Prop :=
  ∀ i b, M[mk.length + i]? = some b → BR U D' ιT mT w (mk.length + i) b
theorem Pushed.refl {U : Univ} {D' : Nat → Prop} {m mT mk : List (Blk U.El)} : Pushed U D' ι m ιT mT w mk mk := fun i b h => by simp at h
theorem Pushed.trans {U : Univ} {D' : Nat → Prop} {m mT mk M1 M2 : List (Blk U.El)} (h : Pushed U D' ι m ιT mT w mk M1) (k : Pushed U D' ι m ιT mT w M1 M2) (h1 : mk <+: M1) (h2 : M1 <+: M2) : Pushed U D' ι m ιT mT w mk M2 := by
  intro i b hb
  by_cases hi : mk.length + i < M1.length
  · obtain ⟨q, rfl⟩ := h2
    rw [List.getElem?_append_left hi] at hb
    exact h i b hb
  · have e : mk.length + i = M1.length + (mk.length + i - M1.length) := by omega
    rw [e] at hb ⊢
    exact k _ b hb

theorem enc1_push (hm : MR G.U B S ι m w) (O : Over G.U B D' lc ι m src us ιT mT) {s : S1} {c : C G.U.El} {x : s.T G.U.El} {mk : List (Blk G.U.El)} (h : s.dec m c = some x)
    (hpre : ∃ p q, src = p ++ (s.mv c ++ q) ∧ p.length = mk.length) : Pushed G.U D' ι m ιT mT w mk (encI1 s x mk).2 := by
  cases s with
  | ip t =>
    have h' : ownRow m t c = some (x : List (G.U.El t)) := h
    obtain ⟨p, q, e, hp⟩ := hpre
    have hat : src[mk.length]? = some c.src := by
      rw [e, ← hp, List.getElem?_append_right (Nat.le_refl _)]
      simp [S1.mv]
    intro i b hb
    have hi : i = 0 ∧ b = .da t x := by
      have hlt := (List.getElem?_eq_some_iff.1 hb).1
      simp [encI1] at hlt
      subst hlt
      exact ⟨rfl, by simpa [encI1] using hb.symm⟩
    obtain ⟨rfl, rfl⟩ := hi
    rw [Nat.add_zero]
    rcases dec_own h' with ⟨id, rfl, hb⟩ | ⟨rfl, hx⟩
    · have := hm.blk _ _ hb
      simp only [BR] at this ⊢
      rw [O.is _ id hat]
      exact this
    · simp only [BR]
      rw [O.no _ hat]
      have hx' : (x : List (G.U.El t)) = [] := hx
      rw [hx']
      simpa [flat] using World.ownsRow_nil w 0 t (G.U.sz t)
  | gv t =>
    have h' : ownRow m t c = some (x : List (G.U.El t)) := h
    obtain ⟨p, q, e, hp⟩ := hpre
    have hat : src[mk.length]? = some c.src := by
      rw [e, ← hp, List.getElem?_append_right (Nat.le_refl _)]
      simp [S1.mv]
    intro i b hb
    have hi : i = 0 ∧ b = .da t x := by
      have hlt := (List.getElem?_eq_some_iff.1 hb).1
      simp [encI1] at hlt
      subst hlt
      exact ⟨rfl, by simpa [encI1] using hb.symm⟩
    obtain ⟨rfl, rfl⟩ := hi
    rw [Nat.add_zero]
    rcases dec_own h' with ⟨id, rfl, hb⟩ | ⟨rfl, hx⟩
    · have := hm.blk _ _ hb
      simp only [BR] at this ⊢
      rw [O.is _ id hat]
      exact this
    · simp only [BR]
      rw [O.no _ hat]
      have hx' : (x : List (G.U.El t)) = [] := hx
      rw [hx']
      simpa [flat] using World.ownsRow_nil w 0 t (G.U.sz t)
  | _ => exact Pushed.refl

theorem encs_push (hm : MR G.U B S ι m w) (O : Over G.U B D' lc ι m src us ιT mT) : ∀ {ss : List S1} {cs : List (C G.U.El)} {x : Ts G.U.El ss} {mk : List (Blk G.U.El)}, decs m ss cs = some x →
    (∃ p q, src = p ++ (mv1 ss cs ++ q) ∧ p.length = mk.length) → Pushed G.U D' ι m ιT mT w mk (encI2 ss x mk).2
  | [], [], _, _, _, _ => Pushed.refl
  | [], _ :: _, _, _, h, _ => by simp [decs] at h
  | _ :: _, [], _, _, h, _ => by simp [decs] at h
  | s :: ss, c :: cs, x, mk, h, ⟨p, q, hp, hpl⟩ => by
    simp only [decs] at h
    obtain ⟨y, h3, h⟩ := Option.bind_eq_some_iff.1 h
    obtain ⟨z, h4, h⟩ := Option.bind_eq_some_iff.1 h
    cases h
    exact (enc1_push hm O h3 ⟨p, mv1 ss cs ++ q, by rw [hp, mv1, List.append_assoc], hpl⟩).trans (encs_push hm O h4 ⟨p ++ s.mv c, q, by rw [hp, mv1]; simp, by rw [encI1_len (m := m) s c y, List.length_append, hpl]⟩) (encI1_pre ..) (encI2_pre ..)

theorem ioDec_some {El : Nat → Type} {m : List (Blk El)} {t : Nat} {ss : List S1} {id : Nat} {x : Ts El ss} (h : ioDec m t ss id = some x) : ∃ cs, m[id]? = some (.st t cs) ∧ decs m ss cs = some x := by
  unfold ioDec at h
  split at h
  · rename_i t' cs hm
    split at h
    · rename_i e
      subst e
      exact ⟨cs, hm, h⟩
    · cases h
  · cases h

/-- A struct's block is handed over. -/
theorem io_ok (hF : Fits P G.U G.ti) (hm : MR G.U B S ι m w) (O : Over G.U B D' lc ι m src us ιT mT) {t : Nat} {ss : List S1} {id : Nat} {x : Ts G.U.El ss} {v : Value} {mk : List (Blk G.U.El)} (h : ioDec m t ss id = some x) (hv : PR G.U ι m id 0 v)
    (hpre : ∃ p q, src = p ++ (mvIo m ss id ++ q) ∧ p.length = mk.length) (hus : ∀ i, i ∈ usIo m ss id → i ∈ us) (hlc : lc = true → lcIo m ss id = true) :
    PR G.U ιT mT (encIo t ss x mk).1 0 v ∧ (encIo t ss x mk).2.length = mk.length + (mvIo m ss id).length ∧ Pushed G.U D' ι m ιT mT w mk (encIo t ss x mk).2 := by
  obtain ⟨cs, hb, hd⟩ := ioDec_some h
  simp only [mvIo, usIo, lcIo, hb] at hpre hus hlc ⊢
  obtain ⟨p, q, hp, hpl⟩ := hpre
  have hp2 : src = p ++ (mv1 ss cs ++ (some id :: q)) := by rw [hp]; simp
  have hlen := encI2_len (m := m) mk hd
  have hat : src[(encI2 ss x mk).2.length]? = some (some id) := by
    rw [hp2, hlen, ← hpl, ← List.append_assoc, List.getElem?_append_right (by simp), List.length_append]
    simp
  have hlt : (encI2 ss x mk).2.length < mT.length := by rw [O.len]; exact (List.getElem?_eq_some_iff.1 hat).1
  obtain ⟨hid, β, h1, h2⟩ := hv
  refine ⟨⟨hlt, β, (O.is _ _ hat).trans h1, h2⟩, by simp only [encIo, List.length_append, List.length_cons, List.length_nil]; rw [hlen]; omega, ?_⟩
  refine (encs_push hm O hd ⟨p, _, hp2, hpl⟩).trans (M2 := (encIo t ss x mk).2) ?_ (encI2_pre ..) (List.prefix_append _ _)
  intro i b hb'
  have hi : i = 0 ∧ b = .st t (encI2 ss x mk).1 := by
    have hlt := (List.getElem?_eq_some_iff.1 hb').1
    simp [encIo] at hlt
    subst hlt
    exact ⟨rfl, by simpa [encIo] using hb'.symm⟩
  obtain ⟨rfl, rfl⟩ := hi
  rw [Nat.add_zero]
  obtain ⟨β', vs, e1, e2, e3⟩ := hm.blk _ _ hb
  exact ⟨β', vs, (O.is _ _ hat).trans e1, e2, decs_ok hF hm O (mk := mk) hd e3 ⟨p, _, hp2, hpl⟩ hus hlc⟩

theorem caps_in (hF : Fits P G.U G.ti) (hm : MR G.U B S ι m w) (O : Over G.U B D' lc ι m src us ιT mT) : ∀ {caps : List (Nat × List S1)} {cs : List (Nat × Nat)} {x : CapT G.U.El caps} {vs : List Value} {mk : List (Blk G.U.El)}, capsDec m caps cs = some x →
    vs.length = cs.length → (∀ (j : Nat) (p : Nat × Nat) (u : Value), cs[j]? = some p → vs[j]? = some u → PR G.U ι m p.1 p.2 u) →
    (∃ p q, src = p ++ (mvCaps m caps cs ++ q) ∧ p.length = mk.length) → (∀ i, i ∈ usCaps m caps cs → i ∈ us) → (lc = true → lcCaps m caps cs = true) →
    (vs.length = (encICaps caps x mk).1.length ∧ ∀ (j : Nat) (p : Nat × Nat) (u : Value), (encICaps caps x mk).1[j]? = some p → vs[j]? = some u → PR G.U ιT mT p.1 p.2 u) ∧ (encICaps caps x mk).2.length = mk.length + (mvCaps m caps cs).length ∧ mk <+: (encICaps caps x mk).2 ∧ Pushed G.U D' ι m ιT mT w mk (encICaps caps x mk).2
  | [], [], _, vs, mk, _, hl, _, _, _, _ => ⟨⟨hl, fun j p u h => by simp [encICaps] at h⟩, rfl, List.prefix_refl _, Pushed.refl⟩
  | [], _ :: _, _, _, _, h, _, _, _, _, _ => by simp [capsDec] at h
  | _ :: _, [], _, _, _, h, _, _, _, _, _ => by simp [capsDec] at h
  | p :: ps, c :: cs, x, vs, mk, h, hl, hv, ⟨pp, q, hp, hpl⟩, hus, hlc => by
    simp only [capsDec] at h
    split at h
    case isFalse => cases h
    rename_i hc0
    obtain ⟨y, h3, h⟩ := Option.bind_eq_some_iff.1 h
    obtain ⟨z, h4, h⟩ := Option.bind_eq_some_iff.1 h
    cases h
    cases vs with
    | nil => simp at hl
    | cons v vs =>
      have hl2 : lc = true → lcIo m p.2 c.1 = true ∧ lcCaps m ps cs = true := fun h => by simpa [lcCaps, Bool.and_eq_true] using hlc h
      have hv0 : PR G.U ι m c.1 0 v := by have := hv 0 c v rfl rfl; rwa [hc0] at this
      obtain ⟨k1, k2, k3⟩ := io_ok hF hm O (t := p.1) (ss := p.2) (mk := mk) h3 hv0 ⟨pp, mvCaps m ps cs ++ q, by rw [hp, mvCaps, List.append_assoc], hpl⟩ (fun i hi => hus i (List.mem_append_left _ hi)) fun h => (hl2 h).1
      obtain ⟨⟨k4, k5⟩, k6, k7, k8⟩ := caps_in hF hm O (mk := (encIo p.1 p.2 y mk).2) h4 (by simpa using hl) (fun j q u hq hu => hv (j + 1) q u (by simpa using hq) (by simpa using hu)) ⟨pp ++ mvIo m p.2 c.1, q, by rw [hp, mvCaps]; simp, by rw [k2, List.length_append, hpl]⟩
        (fun i hi => hus i (List.mem_append_right _ hi)) fun h => (hl2 h).2
      have hpre : mk <+: (encIo p.1 p.2 y mk).2 := (encI2_pre ..).trans (List.prefix_append _ _)
      refine ⟨⟨by simp [encICaps, ← k4], fun j q u hq hu => ?_⟩, by simp only [encICaps, mvCaps, List.length_append]; rw [k6, k2]; omega, hpre.trans k7, k3.trans k8 hpre k7⟩
      cases j with
      | zero => simp [encICaps] at hq hu; subst hq; subst hu; exact k1
      | succ j => exact k5 j q u (by simpa [encICaps] using hq) (by simpa using hu)

/-- What a pointer's place holds, read alone. -/
theorem ptrElem_ok (hF : Fits P G.U G.ti) (hm : MR G.U B S ι m w) (O : Over G.U B D' lc ι m src us ιT mT) {t : Nat} {c : C G.U.El} {y : G.U.El t} {v : Value} (hc : CR G.U B ι m w c v) (h : ptrElem G.U m t c = some y) (hus : ∀ i, i ∈ c.puse → i ∈ us) :
    CR G.U D' ιT mT w (.prow t [y] 0 0) v := by
  have one : ∀ {b o : Nat}, v = .pointer (some ⟨b, o, none⟩) → Far G.U ιT mT b → (∀ j u, (G.U.cells t y)[j]? = some u → w.cell? ⟨b, o + j, none⟩ = some u) → CR G.U D' ιT mT w (.prow t [y] 0 0) v := by
    intro b o hv hf hr
    refine ⟨by simp, b, o, by simpa using hv, fun j u hu => ⟨b, o, rfl, hr j u (by simpa [flat] using hu), hf, fun h => by cases h⟩⟩
  -- a part of a row's element
  have part : ∀ {e : Nat} {l : List (G.U.El e)} {i off b o : Nat}, i < l.length → v = .pointer (some ⟨b, o + (i * G.U.sz e + off), none⟩) → (∀ j u, (flat G.U e l)[j]? = some u → w.cell? ⟨b, o + j, none⟩ = some u) → Far G.U ιT mT b →
      G.U.back t (((G.U.cells e (rd (G.U.dflt e) l i)).drop off).take (G.U.sz t)) = some y → CR G.U D' ιT mT w (.prow t [y] 0 0) v := by
    intro e l i off b o hi hv hr hf hb
    refine one hv hf fun j u hj => ?_
    rw [hF.U.back _ _ _ hb, List.getElem?_take] at hj
    split at hj
    · rw [List.getElem?_drop] at hj
      have := hr _ _ (flat_get hF.U e l i hi _ _ _ hj)
      rwa [show o + (i * G.U.sz e + off) + j = o + (i * G.U.sz e + (off + j)) by omega]
    · cases hj
  unfold ptrElem at h
  split at h
  · rename_i id off
    obtain ⟨hid, β, h1, h2⟩ := hc
    split at h
    · rename_i t' cs hm'
      obtain ⟨β', vs, h3, h4, h5⟩ := hm.blk _ _ hm'
      rw [h1] at h3
      cases h3
      obtain ⟨cs', h6, h⟩ := Option.bind_eq_some_iff.1 h
      obtain ⟨us', h7, h⟩ := Option.bind_eq_some_iff.1 h
      obtain ⟨h8, h9⟩ := getAt_ok hF.U h6 h5
      have hus' := scs_ok h7 h9
      refine one h2 (O.blk hm' trivial (hus id (by simp [C.puse])) (by rw [h1]; rfl)) fun j u hj => ?_
      rw [hF.U.back _ _ _ h, ← hus', List.getElem?_take] at hj
      split at hj
      · rw [List.getElem?_drop] at hj
        simp [World.cell?, h4, ← hj]
      · cases hj
    · cases h
  · rename_i id e i off
    obtain ⟨hid, g, n, c, h1, h2, h3⟩ := hc
    split at h
    · rename_i e' l hm'
      split at h
      · rename_i he
        subst he
        split at h
        · have hb := hm.blk _ _ hm'
          simp only [BR, h1] at hb
          have hn : l.length = n := by
            rcases hb.2 with ⟨h', _⟩ | ⟨g', cap', cur, h', _⟩
            · simp at h'
            · simp at h'; exact h'.2.1.symm
          subst hn
          refine part (o := 0) h2 (by simpa using h3) (fun j u hj => ?_) (O.blk hm' trivial (hus id (by simp [C.puse])) (by rw [h1]; rfl)) h
          have hlt := (List.getElem?_eq_some_iff.1 hj).1
          rw [flat_len hF.U] at hlt
          rw [Nat.zero_add, World.ownsRow.cellAt hb j hlt, hj]
        · cases h
      · cases h
    · cases h
  · rename_i e l i off
    obtain ⟨hi, b, o, h1, h2⟩ := hc
    split at h
    · rename_i hsz
      -- the cells lie where the row lies
      by_cases h0 : 0 < (flat G.U e l).length
      · obtain ⟨b', o', h3, _, h5, _⟩ := h2 0 _ (List.getElem?_eq_getElem h0)
        cases h3
        exact part hi h1 (fun j u hj => by
          obtain ⟨b', o', h3, h4, _⟩ := h2 j u hj
          cases h3
          exact h4) (O.far b h5) h
      · have hsz0 : G.U.sz e = 0 := by
          rw [flat_len hF.U] at h0
          rcases Nat.eq_zero_or_pos (G.U.sz e) with h | h
          · exact h
          · exact absurd (Nat.mul_pos (by omega : 0 < l.length) h) h0
        have hyc : G.U.cells t y = [] := by
          rw [hF.U.back _ _ _ h]
          apply List.eq_nil_of_length_eq_zero
          simp
          omega
        refine ⟨by simp, b, _, by simpa using h1, fun j u hu => by simp [flat, hyc] at hu⟩
    · cases h
  · cases h

theorem CW.cr {c : C G.U.El} {v : Value} (hne : ∀ t n l, c ≠ .arr t n l) (h : CW G.U B ι m w c [v]) : CR G.U B ι m w c v := by
  obtain ⟨u, e, hu⟩ := CsR.single hne (vs := [v]) ⟨[v], [], rfl, h, rfl⟩
  cases e
  exact hu

/-- One argument is handed over. -/
theorem AS.dec_ok (hF : Fits P G.U G.ti) (hm : MR G.U B S ι m w) (O : Over G.U B D' lc ι m src us ιT mT) {s : AS} {v : V G.U.El} {x : s.T G.U.El} {u : Value} {mk : List (Blk G.U.El)} (h : s.dec G.U m v = some x) (hv : VR G.U B ι m w v u)
    (hpre : ∃ p q, src = p ++ (s.mv m v ++ q) ∧ p.length = mk.length) (hus : ∀ i, i ∈ s.us m v → i ∈ us) (hlc : lc = true → s.lc m v = true) :
    VR G.U D' ιT mT w (encI s x mk).1 u ∧ (encI s x mk).2.length = mk.length + (s.mv m v).length ∧ mk <+: (encI s x mk).2 ∧ Pushed G.U D' ι m ιT mT w mk (encI s x mk).2 := by
  cases s with
  | c s =>
    cases v with
    | w y =>
      cases y with
      | c c =>
        have hc : CR G.U B ι m w c u := hv
        have h1 := dec1_ok hF hm O (s := s) (mk := mk) h hc.cw hpre hus hlc
        refine ⟨vr_w ?_, encI1_len (m := m) s c x, encI1_pre .., enc1_push hm O h hpre⟩
        cases s with
        | arr t n =>
          have := dec_arr h
          subst this
          exact hc.elim
        | _ => exact CW.cr (by intro t n l e; cases e) h1
      | agg => cases h
    | _ => cases h
  | agg ss =>
    cases v with
    | w y =>
      cases y with
      | agg xs =>
        obtain ⟨vs, e, h1⟩ := hv
        exact ⟨⟨vs, e, decs_ok hF hm O (mk := mk) h h1 hpre hus hlc⟩, encI2_len mk h, encI2_pre .., encs_push hm O h hpre⟩
      | c => cases h
    | _ => cases h
  | ptr t =>
    cases v with
    | w y =>
      cases y with
      | c c => exact ⟨vr_w (ptrElem_ok hF hm O hv h hus), rfl, List.prefix_refl _, Pushed.refl⟩
      | agg => cases h
    | _ => cases h
  | skip => cases v <;> exact ⟨trivial, rfl, List.prefix_refl _, Pushed.refl⟩
  | io t ss =>
    cases v with
    | w y =>
      cases y with
      | c c =>
        cases c with
        | ptr id off =>
          change (if off = 0 then ioDec m t ss id else none) = some x at h
          split at h
          case isFalse => cases h
          rename_i h0
          subst h0
          obtain ⟨k1, k2, k3⟩ := io_ok hF hm O (mk := mk) h hv hpre hus hlc
          exact ⟨k1, k2, (encI2_pre ..).trans (List.prefix_append _ _), k3⟩
        | _ => cases h
      | agg => cases h
    | _ => cases h
  | bk t => cases v with
    | w y => cases y with
      | c c => cases h
      | agg => cases h
    | _ => cases h
  | np t ss => cases v with
    | w y => cases y with
      | c c => cases h
      | agg => cases h
    | _ => cases h
  | fnp f caps =>
    cases v with
    | w y =>
      cases y with
      | c c =>
        cases c with
        | fn f' cs =>
          change (if f' = f then capsDec m caps cs else none) = some x at h
          split at h
          case isFalse => cases h
          rename_i hf
          subst hf
          obtain ⟨vs, e, h1, h2⟩ := hv
          obtain ⟨⟨k1, k2⟩, k3, k4, k5⟩ := caps_in hF hm O (mk := mk) h h1 h2 hpre hus hlc
          exact ⟨⟨vs, e, k1, k2⟩, k3, k4, k5⟩
        | _ => cases h
      | agg => cases h
    | _ => cases h

theorem ASdec_ok (hF : Fits P G.U G.ti) (hm : MR G.U B S ι m w) (O : Over G.U B D' lc ι m src us ιT mT) : ∀ {ss : List AS} {vs : List (V G.U.El)} {x : ASs G.U.El ss} {us' : List Value} {mk : List (Blk G.U.El)}, ASdec G.U m ss vs = some x → VsR G.U B ι m w vs us' →
    (∃ p q, src = p ++ (mvs m ss vs ++ q) ∧ p.length = mk.length) → (∀ i, i ∈ usOf m ss vs → i ∈ us) → (lc = true → lcOf m ss vs = true) →
    VsR G.U D' ιT mT w (encIs ss x mk).1 us' ∧ (encIs ss x mk).2.length = mk.length + (mvs m ss vs).length ∧ mk <+: (encIs ss x mk).2 ∧ Pushed G.U D' ι m ιT mT w mk (encIs ss x mk).2
  | [], [], x, us', mk, h, hv, _, _, _ => ⟨hv, rfl, List.prefix_refl _, Pushed.refl⟩
  | [], _ :: _, _, _, _, h, _, _, _, _ => by simp [ASdec] at h
  | _ :: _, [], _, _, _, h, _, _, _, _ => by simp [ASdec] at h
  | s :: ss, v :: vs, x, us', mk, h, ⟨u, r, e, h1, h2⟩, ⟨p, q, hp, hpl⟩, hus, hlc => by
    simp only [ASdec] at h
    obtain ⟨y, h3, h⟩ := Option.bind_eq_some_iff.1 h
    obtain ⟨z, h4, h⟩ := Option.bind_eq_some_iff.1 h
    cases h
    have hl : lc = true → s.lc m v = true ∧ lcOf m ss vs = true := fun h => by simpa [lcOf, Bool.and_eq_true] using hlc h
    obtain ⟨k1, k2, k3, k4⟩ := AS.dec_ok hF hm O (mk := mk) h3 h1 ⟨p, mvs m ss vs ++ q, by rw [hp, mvs, List.append_assoc], hpl⟩ (fun i hi => hus i (List.mem_append_left _ hi)) fun h => (hl h).1
    obtain ⟨k5, k6, k7, k8⟩ := ASdec_ok hF hm O (mk := (encI s y mk).2) h4 h2 ⟨p ++ s.mv m v, q, by rw [hp, mvs]; simp, by rw [k2, List.length_append, hpl]⟩ (fun i hi => hus i (List.mem_append_right _ hi)) fun h => (hl h).2
    exact ⟨⟨u, r, e, k1, k5⟩, by simp only [encIs, mvs, List.length_append]; rw [k6, k2]; omega, k3.trans k7, k4.trans k8 k3 k7⟩
end
end Go.Proofs.Ytigoabhkdipdeaa.AM
