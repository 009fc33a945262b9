/- A part of the plain reading of Go's code: what a function's code comes to, by a plain function. No condition. -/
import Derived.Test.YtigoabhkdipdeaaZAZ
namespace Go.Proofs.Ytigoabhkdipdeaa.AM
open Go.RowKit

section
variable {U : Univ} {B : Nat → Prop} {S : Nat → Prop} {ι ι' : Nat → Value} {m m' : List (Blk U.El)} {w : World} {ren : Nat → Option (Option Nat)} {M : Nat}

/-- The blocks of the shape and those that they are. -/
structure Ren (U : Univ) (ren : Nat → Option (Option Nat)) (M : Nat) (ι : Nat → Value) (m : List (Blk U.El)) (ι' : Nat → Value) (m' : List (Blk U.El)) : Prop where
  M : m'.length = M
  is : ∀ i a, ren i = some (some a) → ι' i = ι a
  no : ∀ i, ren i = some none → ι' i = .slice none 0 0
  far : ∀ b, Far U ι m b → Far U ι' m' b

theorem caps_ren (R : Ren U ren M ι m ι' m') : ∀ {ps qs : List (Nat × Nat)}, capsOk ren M ps qs = true → ps.length = qs.length ∧ ∀ (j : Nat) (p q : Nat × Nat) (u : Value), ps[j]? = some p → qs[j]? = some q → PR U ι m q.1 q.2 u → PR U ι' m' p.1 p.2 u
  | [], [], _ => ⟨rfl, fun j p q u hp => by simp at hp⟩
  | (i, o) :: ps, (j, o') :: qs, h => by
    simp only [capsOk, Bool.and_eq_true, decide_eq_true_eq] at h
    obtain ⟨⟨⟨h1, h2⟩, h3⟩, h4⟩ := h
    obtain ⟨h5, h6⟩ := caps_ren R h4
    refine ⟨by simp [h5], fun k p q u hp hq hu => ?_⟩
    cases k with
    | zero =>
      simp at hp hq
      subst hp
      subst hq
      obtain ⟨_, β, e1, e2⟩ := hu
      exact ⟨by rw [R.M]; exact h3, β, (R.is _ _ h1).trans e1, by rw [h2]; exact e2⟩
    | succ k => exact h6 k p q u (by simpa using hp) (by simpa using hq) hu
  | [], _ :: _, h => by simp [capsOk] at h
  | _ :: _, [], h => by simp [capsOk] at h

theorem ldec_ok (R : Ren U ren M ι m ι' m') {s : LS1} {c : C U.El} {x : s.T U.El} {vs : List Value} (h : s.dec ren M c = some x) (hc : CW U B ι m w c vs) : CW U B ι' m' w (s.enc x) vs := by
  have sc : ∀ v, c = .sc v → CW U B ι' m' w (.sc v) vs := by
    rintro v rfl
    exact hc
  cases s with
  | int k => exact sc _ (dec_int h)
  | bool => exact sc _ (dec_bool h)
  | str => exact sc _ (dec_str h)
  | arr t n => have := dec_arr h; subst this; exact hc
  | row t loc =>
    change C.row? t loc c = some x at h
    unfold C.row? at h
    split at h
    · split at h
      · rename_i ht
        subst ht
        split at h
        · rename_i hl
          cases h
          obtain ⟨v, e, A, cap, h1, h2, h3, h4⟩ := hc
          refine ⟨v, e, A, cap, h1, h2, fun j u hu => let ⟨b, o, e1, e2, e3, e4⟩ := h3 j u hu; ⟨b, o, e1, e2, R.far b e3, fun hh => e4 ?_⟩, fun h => by cases h⟩
          subst hh
          simpa using hl
        · cases h
      · cases h
    · cases h
      obtain ⟨v, e, h1, _⟩ := hc
      exact ⟨v, e, none, 0, h1, Nat.le_refl _, fun j u hu => by simp [flat] at hu, fun h => by cases h⟩
    · cases h
  | sl id =>
    simp only [LS1.dec] at h
    split at h
    · split at h
      · rename_i hr
        split at h
        · rename_i hM
          obtain ⟨v, e, h1, h2, h3⟩ := hc
          exact ⟨v, e, by rw [R.M]; exact hM, by rw [R.is _ _ hr]; exact h2, h3⟩
        · cases h
      · cases h
    · split at h
      · rename_i hr
        split at h
        · rename_i hM
          obtain ⟨v, e, h1, h2⟩ := hc
          exact ⟨v, e, by rw [R.M]; exact hM, by rw [R.no _ hr]; exact h1, by rw [h1]; rfl⟩
        · cases h
      · cases h
    · cases h
  | ptr id off =>
    simp only [LS1.dec] at h
    split at h
    · split at h
      · rename_i hr
        split at h
        · rename_i ho
          subst ho
          split at h
          · rename_i hM
            obtain ⟨v, e, h1, β, h2, h3⟩ := hc
            exact ⟨v, e, by rw [R.M]; exact hM, β, (R.is _ _ hr).trans h2, h3⟩
          · cases h
        · cases h
      · cases h
    · cases h
  | fn f caps =>
    simp only [LS1.dec] at h
    split at h
    · rename_i f' caps'
      split at h
      · rename_i hf
        subst hf
        split at h
        · rename_i hcaps
          obtain ⟨h5, h6⟩ := caps_ren R hcaps
          obtain ⟨v, e, us, h1, h2, h3⟩ := hc
          refine ⟨v, e, us, h1, h2.trans h5.symm, fun j p u hp hu => ?_⟩
          have hlt := (List.getElem?_eq_some_iff.1 hp).1
          have hq : caps'[j]? = some (caps'[j]'(by omega)) := List.getElem?_eq_getElem _
          exact h6 j p _ u hp hq (h3 j _ u hq hu)
        · cases h
      · cases h
    · cases h

theorem ldecs_ok (R : Ren U ren M ι m ι' m') : ∀ {ss : List LS1} {cs : List (C U.El)} {x : LTs U.El ss} {vs : List Value}, Ldecs ren M ss cs = some x → CsR U B ι m w cs vs → CsR U B ι' m' w (Lencs ss x) vs
  | [], [], _, _, _, hc => hc
  | [], _ :: _, _, _, h, _ => by simp [Ldecs] at h
  | _ :: _, [], _, _, h, _ => by simp [Ldecs] at h
  | s :: ss, c :: cs, x, vs, h, ⟨a, r, e, h1, h2⟩ => by
    simp only [Ldecs] at h
    obtain ⟨y, h3, h⟩ := Option.bind_eq_some_iff.1 h
    obtain ⟨z, h4, h⟩ := Option.bind_eq_some_iff.1 h
    cases h
    exact ⟨a, r, e, ldec_ok R h3 h1, ldecs_ok R h4 h2⟩

theorem lsdec_ok (R : Ren U ren M ι m ι' m') {s : LS} {v : V U.El} {x : s.T U.El} {u : Value} (h : s.dec ren M v = some x) (hv : VR U B ι m w v u) : VR U B ι' m' w (s.enc x) u := by
  cases s with
  | c s =>
    cases v with
    | w y =>
      cases y with
      | c c =>
        have hc : CR U B ι m w c u := hv
        have := ldec_ok (s := s) R h hc.cw
        show CR U B ι' m' w (s.enc x) u
        cases s with
        | arr t n =>
          have := dec_arr h
          subst this
          exact hc.elim
        | _ =>
          obtain ⟨u', e, hu⟩ := CsR.single (by intro t n l e; cases e) (vs := [u]) ⟨[u], [], rfl, this, rfl⟩
          cases e
          exact hu
      | agg => cases h
    | _ => cases h
  | agg ss =>
    cases v with
    | w y =>
      cases y with
      | agg xs =>
        obtain ⟨vs, e, h1⟩ := hv
        exact ⟨vs, e, ldecs_ok R h h1⟩
      | c => cases h
    | _ => cases h

theorem decEnv_ok (R : Ren U ren M ι m ι' m') {e : Nat → V U.El} {a : Act} (hE : ER U B ι m w e a) : ∀ {ps : List (Nat × LS)} {x : LEs U.El ps}, decEnv ren M e ps = some x → ∀ t, VR U B ι' m' w (envOf ps x t) (a.tmps.getD t undef)
  | [], _, _, _ => trivial
  | p :: ps, x, h, t => by
    simp only [decEnv] at h
    obtain ⟨y, h3, h⟩ := Option.bind_eq_some_iff.1 h
    obtain ⟨z, h4, h⟩ := Option.bind_eq_some_iff.1 h
    cases h
    simp only [envOf]
    cases hb : Nat.beq t p.1 with
    | true =>
      have := Nat.eq_of_beq_eq_true hb
      subst this
      exact lsdec_ok R h3 (hE _)
    | false => exact decEnv_ok R hE h4 t

/-- What the shape's blocks are. -/
def BlkIs (ren : Nat → Option (Option Nat)) (M : Nat) (m : List (Blk U.El)) (i : Nat) : Blk U.El → Prop
  | .st t cs' => ∃ a cs ss x, ren i = some (some a) ∧ m[a]? = some (.st t cs) ∧ Ldecs ren M ss cs = some x ∧ cs' = Lencs ss x
  | .da t l => (∃ a, ren i = some (some a) ∧ m[a]? = some (.da t l)) ∨ (ren i = some none ∧ l = [])
  | .dead => False

theorem decMem_len : ∀ {bs : List BS} {i : Nat} {x : BTs U.El bs}, decMem ren M m i bs = some x → (memOf bs x).length = bs.length
  | [], _, _, _ => rfl
  | b :: bs, i, x, h => by
    simp only [decMem] at h
    obtain ⟨y, h3, h⟩ := Option.bind_eq_some_iff.1 h
    obtain ⟨z, h4, h⟩ := Option.bind_eq_some_iff.1 h
    cases h
    simp only [memOf, List.length_cons, decMem_len h4]

theorem decMem_ok : ∀ {bs : List BS} {i : Nat} {x : BTs U.El bs}, decMem ren M m i bs = some x → ∀ j b, (memOf bs x)[j]? = some b → BlkIs ren M m (i + j) b
  | [], _, _, _, j, b, hb => by simp [memOf] at hb
  | b0 :: bs, i, x, h, j, b, hb => by
    simp only [decMem] at h
    obtain ⟨y, h3, h⟩ := Option.bind_eq_some_iff.1 h
    obtain ⟨z, h4, h⟩ := Option.bind_eq_some_iff.1 h
    cases h
    cases j with
    | succ j =>
      have := decMem_ok h4 j b (by simpa [memOf] using hb)
      rwa [show i + (j + 1) = i + 1 + j by omega]
    | zero =>
      simp only [memOf, List.getElem?_cons_zero, Option.some.injEq] at hb
      subst hb
      rw [Nat.add_zero]
      cases b0 with
      | st t ss =>
        simp only [BS.dec] at h3
        split at h3
        · rename_i a ha
          split at h3
          · rename_i t' cs hm
            change (if t' = t then Ldecs ren M ss cs else none) = (some y : Option (LTs U.El ss)) at h3
            split at h3
            · rename_i ht
              subst ht
              exact ⟨a, cs, ss, y, ha, hm, h3, rfl⟩
            · cases h3
          · cases h3
        · cases h3
      | da t =>
        simp only [BS.dec] at h3
        split at h3
        · rename_i a ha
          split at h3
          · rename_i t' l hm
            split at h3
            · rename_i ht
              subst ht
              cases h3
              exact .inl ⟨a, ha, hm⟩
            · cases h3
          · cases h3
        · rename_i ha
          cases h3
          exact .inr ⟨ha, rfl⟩
        · cases h3

theorem dec_SR {N : Nat} {w0 : Frm} {σ : St U.El} {a : Act} {s : Shape} {x : s.X U.El} (h : SR U N w0 σ a w) (hd : s.dec σ = some x) : SR U N w0 (s.enc x) a w := by
  obtain ⟨ι, hE, hN, hD, hM, hFr, hPn⟩ := h
  unfold Shape.dec at hd
  split at hd
  case isFalse => cases hd
  rename_i hnd
  generalize hren : s.ren σ = ren at hd hnd
  obtain ⟨y, h1, hd⟩ := Option.bind_eq_some_iff.1 hd
  obtain ⟨z, h2, hd⟩ := Option.bind_eq_some_iff.1 hd
  cases hd
  have hlen := decMem_len h2
  have hblk := fun j b hb => by simpa using decMem_ok h2 j b hb
  let ι' : Nat → Value := fun i => match ren i with
    | some (some a) => ι a
    | _ => .slice none 0 0
  have own : ∀ id b k, (memOf s.mem z)[id]? = some b → b.live → ownOf (ι' id) = some k → ∃ a b', ren id = some (some a) ∧ σ.mem[a]? = some b' ∧ b'.live ∧ ownOf (ι a) = some k := by
    intro id b k hb hl hk
    have hB := hblk id b hb
    cases b with
    | dead => exact hl.elim
    | st t cs =>
      obtain ⟨a, cs', ss, x, e1, e2, _⟩ := hB
      exact ⟨a, _, e1, e2, trivial, by simpa [ι', e1] using hk⟩
    | da t l =>
      rcases hB with ⟨a, e1, e2⟩ | ⟨e1, _⟩
      · exact ⟨a, _, e1, e2, trivial, by simpa [ι', e1] using hk⟩
      · simp [ι', e1, ownOf] at hk
  have R : Ren U ren s.mem.length ι σ.mem ι' (memOf s.mem z) := ⟨hlen, fun i a h => by simp [ι', h], fun i h => by simp [ι', h], fun b hf id q hq hl hk => by
    obtain ⟨a, b', _, e2, e3, e4⟩ := own id q b hq hl hk
    exact hf a b' e2 e3 e4⟩
  refine ⟨ι', decEnv_ok R hE h1, hN, hD, ⟨fun id b hb => ?_, ?_, ?_⟩, hFr, hPn⟩
  · have hB := hblk id b hb
    cases b with
    | dead => trivial
    | st t cs =>
      obtain ⟨a, cs', ss, x, e1, e2, e3, e4⟩ := hB
      obtain ⟨β, vs, e5, e6, e7⟩ := hM.blk _ _ e2
      exact ⟨β, vs, (R.is _ _ e1).trans e5, e6, by rw [e4]; exact ldecs_ok R e3 e7⟩
    | da t l =>
      rcases hB with ⟨a, e1, e2⟩ | ⟨e1, rfl⟩
      · have := hM.blk _ _ e2
        simp only [BR] at this ⊢
        rw [R.is _ _ e1]
        exact this
      · simp only [BR]
        rw [R.no _ e1]
        simpa [flat] using World.ownsRow_nil w 0 t (U.sz t)
  · intro i j b b' k hi hj hl hl' hk hk'
    obtain ⟨a, q, e1, e2, e3, e4⟩ := own i b k hi hl hk
    obtain ⟨a', q', e1', e2', e3', e4'⟩ := own j b' k hj hl' hk'
    have haa := hM.inj a a' q q' k e2 e2' e3 e3' e4 e4'
    subst haa
    -- the same block twice
    have hi' : i < s.mem.length := by rw [← hlen]; exact (List.getElem?_eq_some_iff.1 hi).1
    have hj' : j < s.mem.length := by rw [← hlen]; exact (List.getElem?_eq_some_iff.1 hj).1
    have key : ∀ (l : List Nat), (l.filterMap fun i => (ren i).bind id).Nodup → l.Nodup → i ∈ l → j ∈ l → i = j := by
      intro l
      induction l with
      | nil => intro _ _ h; cases h
      | cons p l ih =>
        intro hn hnl hil hjl
        have hmem : ∀ q, q ∈ l → ren q = some (some a) → a ∈ l.filterMap fun i => (ren i).bind id := fun q hq hr => List.mem_filterMap.2 ⟨q, hq, by simp [hr]⟩
        by_cases hp : ren p = some (some a)
        · rw [List.filterMap_cons_some (b := a) (by simp [hp])] at hn
          have hna := (List.nodup_cons.1 hn).1
          rcases List.mem_cons.1 hil with rfl | hil
          · rcases List.mem_cons.1 hjl with h | hjl
            · exact h.symm
            · exact absurd (hmem j hjl e1') hna
          · exact absurd (hmem i hil e1) hna
        · have h1 : i ∈ l := by
            rcases List.mem_cons.1 hil with h | h
            · subst h; exact absurd e1 hp
            · exact h
          have h2 : j ∈ l := by
            rcases List.mem_cons.1 hjl with h | h
            · subst h; exact absurd e1' hp
            · exact h
          refine ih ?_ (List.nodup_cons.1 hnl).2 h1 h2
          cases hq : (ren p).bind id with
          | none => rwa [List.filterMap_cons_none (f := fun i => (ren i).bind id) hq] at hn
          | some q => rw [List.filterMap_cons_some (f := fun i => (ren i).bind id) hq] at hn; exact (List.nodup_cons.1 hn).2
    exact key _ hnd List.nodup_range (List.mem_range.2 hi') (List.mem_range.2 hj')
  · intro id b k hb hl hk
    obtain ⟨a, q, e1, e2, e3, e4⟩ := own id b k hb hl hk
    exact hM.inS a q k e2 e3 e4
end
end Go.Proofs.Ytigoabhkdipdeaa.AM
