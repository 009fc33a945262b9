/- A part of the plain reading of Go's code: what a function's code comes to, by a plain function. No condition. -/
import Derived.Test.YtigoabhkdipdeaaZAW
namespace Go.Proofs.Ytigoabhkdipdeaa.AM
open Go.RowKit
variable {ρ : Type}

section
variable {El : Nat → Type}
/-! how many blocks are pushed -/
def S1.np : S1 → Nat
  | .sl _ | .ip _ => 1
  | _ => 0
def np1 : List S1 → Nat
  | [] => 0
  | s :: ss => s.np + np1 ss
def AS.np' : AS → Nat
  | .c s => s.np
  | .agg ss | .io _ ss => np1 ss
  | .np _ ss => np1 ss + 1
  | _ => 0
def nps : List AS → Nat
  | [] => 0
  | s :: ss => s.np' + nps ss
theorem enc1_len (lc : Bool) (s : S1) (x : s.T El) (m : List (Blk El)) : (enc1 true lc s x m).2.length = m.length + s.np := by
  cases s <;> simp [enc1, S1.np]
theorem enc2_len (lc : Bool) : ∀ (ss : List S1) (x : Ts El ss) (m : List (Blk El)), (enc2 true lc ss x m).2.length = m.length + np1 ss
  | [], _, _ => rfl
  | s :: ss, (x, y), m => by simp only [enc2, np1]; rw [enc2_len, enc1_len]; omega
theorem encO_len (lc : Bool) (s : AS) (x : s.T El) (m : List (Blk El)) : (encO true lc s x m).2.length = m.length + s.np' := by
  cases s with
  | c s => exact enc1_len lc s x m
  | agg ss => exact enc2_len lc ss x m
  | io t ss => exact enc2_len lc ss x m
  | np t ss => exact (by simp [encO] : (encO true lc (.np t ss) x m).2.length = (enc2 true lc ss x m).2.length + 1).trans ((congrArg (· + 1) (enc2_len lc ss x m)).trans (Nat.add_assoc ..))
  | _ => rfl
theorem encOs_len2 (lc : Bool) : ∀ (ss : List AS) (x : Os El ss) (m : List (Blk El)), (encOs true lc ss x m).2.length = m.length + nps ss
  | [], _, _ => rfl
  | [s], x, m => encO_len lc s x m
  | s :: s' :: ss, (x, y), m => by
    simp only [encOs]
    rw [encOs_len2, encO_len]
    simp only [nps]
    omega
theorem encOs_len (own lc : Bool) : ∀ (ss : List AS) (x : Os El ss) (m : List (Blk El)), (encOs own lc ss x m).1.length = ss.length
  | [], _, _ => rfl
  | [_], _, _ => rfl
  | s :: s' :: ss, (x, y), m => by simp only [encOs, List.length_cons]; rw [encOs_len own lc (s' :: ss)]; rfl

theorem enc1_false (lc : Bool) (s : S1) (x : s.T El) (m : List (Blk El)) : (enc1 false lc s x m).2 = m := by cases s <;> rfl
theorem enc2_false (lc : Bool) : ∀ (ss : List S1) (x : Ts El ss) (m : List (Blk El)), (enc2 false lc ss x m).2 = m
  | [], _, _ => rfl
  | s :: ss, (x, y), m => by simp only [enc2]; rw [enc1_false, enc2_false]
theorem encO_false (lc : Bool) : ∀ (s : AS) (x : s.T El) (m : List (Blk El)), isNp s = false → (encO false lc s x m).2 = m
  | .c s, x, m, _ => enc1_false lc s x m
  | .agg ss, x, m, _ => enc2_false lc ss x m
  | .io _ ss, x, m, _ => enc2_false lc ss x m
  | .np .., _, _, h => by cases h
  | .ptr _, _, _, _ | .skip, _, _, _ | .bk _, _, _, _ | .fnp .., _, _, _ => rfl
theorem encOs_false (lc : Bool) : ∀ (ss : List AS) (x : Os El ss) (m : List (Blk El)), ss.any isNp = false → (encOs false lc ss x m).2 = m
  | [], _, _, _ => rfl
  | [s], x, m, h => encO_false lc s x m (by simpa using h)
  | s :: s' :: ss, (x, y), m, h => by
    rw [List.any_cons, Bool.or_eq_false_iff] at h
    simp only [encOs]
    rw [encO_false lc s x m h.1, encOs_false lc (s' :: ss) y m h.2]

theorem enc1_pre (own lc : Bool) (s : S1) (x : s.T El) (m : List (Blk El)) : m <+: (enc1 own lc s x m).2 := by
  cases s <;> cases own <;> simp [enc1]
theorem enc2_pre (own lc : Bool) : ∀ (ss : List S1) (x : Ts El ss) (m : List (Blk El)), m <+: (enc2 own lc ss x m).2
  | [], _, _ => List.prefix_refl _
  | s :: ss, (x, y), m => (enc1_pre own lc s x m).trans (enc2_pre own lc ss y _)
theorem encO_pre (own lc : Bool) : ∀ (s : AS) (x : s.T El) (m : List (Blk El)), m <+: (encO own lc s x m).2
  | .c s, x, m => enc1_pre own lc s x m
  | .agg ss, x, m => enc2_pre own lc ss x m
  | .io _ ss, x, m => enc2_pre own lc ss x m
  | .np _ ss, x, m => (enc2_pre own lc ss x m).trans (List.prefix_append _ _)
  | .ptr _, _, _ | .skip, _, _ | .bk _, _, _ | .fnp .., _, _ => List.prefix_refl _
theorem encOs_pre (own lc : Bool) : ∀ (ss : List AS) (x : Os El ss) (m : List (Blk El)), m <+: (encOs own lc ss x m).2
  | [], _, _ => List.prefix_refl _
  | [s], x, m => encO_pre own lc s x m
  | s :: s' :: ss, (x, y), m => (encO_pre own lc s x m).trans (encOs_pre own lc (s' :: ss) y _)
theorem encOs_live (own lc : Bool) : ∀ (ss : List AS) (x : Os El ss) (m : List (Blk El)), (∀ b ∈ m, b.live) → ∀ b ∈ (encOs own lc ss x m).2, b.live := by
  have e1 : ∀ (s : S1) (x : s.T El) (m : List (Blk El)), (∀ b ∈ m, b.live) → ∀ b ∈ (enc1 own lc s x m).2, b.live := by
    intro s x m h
    cases s <;> cases own <;> simp only [enc1, if_true, Bool.false_eq_true, if_false] <;> first | exact h | skip
    all_goals
      intro b hb
      rcases List.mem_append.1 hb with hb | hb
      · exact h b hb
      · rw [List.mem_singleton.1 hb]; trivial
  have e2 : ∀ (ss : List S1) (x : Ts El ss) (m : List (Blk El)), (∀ b ∈ m, b.live) → ∀ b ∈ (enc2 own lc ss x m).2, b.live := by
    intro ss
    induction ss with
    | nil => intro x m h; exact h
    | cons s ss ih => rintro ⟨x, y⟩ m h; exact ih y _ (e1 s x m h)
  have e3 : ∀ (s : AS) (x : s.T El) (m : List (Blk El)), (∀ b ∈ m, b.live) → ∀ b ∈ (encO own lc s x m).2, b.live := by
    intro s x m h
    cases s with
    | c s => exact e1 s x m h
    | agg ss => exact e2 ss x m h
    | io t ss => exact e2 ss x m h
    | np t ss =>
      intro b hb
      rcases List.mem_append.1 hb with hb | hb
      · exact e2 ss x m h b hb
      · rw [List.mem_singleton.1 hb]; trivial
    | _ => exact h
  intro ss
  induction ss with
  | nil => intro x m h; exact h
  | cons s ss ih =>
    intro x m h
    cases ss with
    | nil => exact e3 s x m h
    | cons s' ss =>
      obtain ⟨x, y⟩ := x
      exact ih y _ (e3 s x m h)
end

section
variable {U : Univ} {D Dc : Nat → Prop} {own lc : Bool} {N : Nat} {ιc ι' : Nat → Value} {pu mE m' : List (Blk U.El)} {w' : World}

/-- What is handed over: the call's side (ιc, mE) and the caller's (ι', m'). pu: the blocks that are pushed. -/
structure Hand (U : Univ) (D Dc : Nat → Prop) (own lc : Bool) (N : Nat) (ιc : Nat → Value) (pu mE : List (Blk U.El)) (ι' : Nat → Value) (m' : List (Blk U.El)) (w' : World) : Prop where
  pre : pu <+: mE
  far : ∀ b, Dc b → Far U ιc mE b → Far U ι' m' b
  dd : lc = true → ∀ b, Dc b → D b
  iota : own = true → ∀ id, id < pu.length → ι' (N + id) = ιc id
  len : own = true → ∀ id, id < pu.length → N + id < m'.length
  blk : ∀ id t l, mE[id]? = some (.da t l) → w'.ownsRow 0 t (U.sz t) (ιc id) l.length (flat U t l)
  mine : own = false → ∀ id b k, mE[id]? = some b → b.live → ownOf (ιc id) = some k → Far U ι' m' k ∧ D k

theorem Hand.rd (H : Hand U D Dc own lc N ιc pu mE ι' m' w') {A : Option Addr} {cs : List Value} (h : RD U Dc ιc mE w' true A cs) : RD U D ι' m' w' lc A cs := fun j v hv =>
  let ⟨b, o, h1, h2, h3, h4⟩ := h j v hv
  ⟨b, o, h1, h2, H.far b (h4 rfl) h3, fun hl => H.dd hl b (h4 rfl)⟩

theorem enc1_hand (H : Hand U D Dc own lc N ιc pu mE ι' m' w') (s : S1) (x : s.T U.El) (mk mq : List (Blk U.El)) (hq : own = true → mq.length = N + mk.length) (hp : (enc1 true true s x mk).2 <+: pu) {vs : List Value}
    (h : CW U Dc ιc mE w' (enc1 true true s x mk).1 vs) : CW U D ι' m' w' (enc1 own lc s x mq).1 vs := by
  have view : ∀ t (l : List (U.El t)), CW U Dc ιc mE w' (.row t l false true) vs → CW U D ι' m' w' (.row t l false lc) vs := by
    rintro t l ⟨v, e, A, cap, h1, h2, h3, h4⟩
    exact ⟨v, e, A, cap, h1, h2, H.rd h3, h4⟩
  have given : ∀ t (l : List (U.El t)), (mk ++ [.da t l]) <+: pu → CW U Dc ιc mE w' (.sl mk.length) vs → CW U D ι' m' w' (if own then (C.sl mq.length, mq ++ [.da t l]) else (.row t l false true, mq)).1 vs := by
    intro t l hp h
    obtain ⟨v, e, h1, h2, h3⟩ := h
    have hlt : mk.length < pu.length := by
      obtain ⟨r, hr⟩ := hp
      rw [← hr]
      simp
    have hb : mE[mk.length]? = some (.da t l) := by
      obtain ⟨r, hr⟩ := hp.trans H.pre
      rw [← hr]
      simp
    cases hown : own with
    | true => exact ⟨v, e, by rw [hq hown]; exact H.len hown _ hlt, by rw [hq hown, H.iota hown _ hlt]; exact h2, h3⟩
    | false =>
      have ho := H.blk _ _ _ hb
      rw [← h2] at ho
      refine ⟨v, e, ?_⟩
      rcases ho.2 with ⟨h4, h5⟩ | ⟨g, cap, cur, h4, _, _, h5, _⟩
      · have hx : l = [] := List.eq_nil_of_length_eq_zero h5
        subst hx
        exact ⟨none, 0, h4, Nat.le_refl _, fun j u hu => by simp [flat] at hu, fun h => by cases h⟩
      · obtain ⟨hf, hd⟩ := H.mine hown _ _ g hb trivial (by rw [← h2, h4]; rfl)
        refine ⟨some ⟨g, 0, none⟩, cap, h4, h5, fun j u hu => ⟨g, 0, rfl, ?_, hf, fun _ => hd⟩, fun h => by cases h⟩
        rw [h4] at ho
        have hlt := (List.getElem?_eq_some_iff.1 hu).1
        have hl := ho.1
        rw [Nat.zero_add, World.ownsRow.cellAt ho j (by rw [← hl]; exact hlt), hu]
  cases s with
  | sl t => exact given t x hp h
  | ip t => exact given t x hp h
  | row t => exact view t x h
  | rol t => exact view t x h
  | gv t => exact view t x h
  | _ => exact h

theorem enc2_hand (H : Hand U D Dc own lc N ιc pu mE ι' m' w') : ∀ (ss : List S1) (x : Ts U.El ss) (mk mq : List (Blk U.El)) {vs : List Value}, (own = true → mq.length = N + mk.length) → (enc2 true true ss x mk).2 <+: pu →
    CsR U Dc ιc mE w' (enc2 true true ss x mk).1 vs → CsR U D ι' m' w' (enc2 own lc ss x mq).1 vs
  | [], _, _, _, _, _, _, h => h
  | s :: ss, (x, y), mk, mq, vs, hq, hp, ⟨a, r, e, h1, h2⟩ => ⟨a, r, e, enc1_hand H s x mk mq hq ((enc2_pre true true ss y _).trans hp) h1,
      enc2_hand H ss y _ _ (fun ho => by have := hq ho; subst ho; rw [enc1_len, enc1_len, this]; omega) hp h2⟩

theorem enc1_ne (own lc : Bool) (s : S1) (x : s.T U.El) (mk : List (Blk U.El)) (hs : ∀ t n, s ≠ .arr t n) : ∀ t n l, (enc1 own lc s x mk).1 ≠ .arr t n l := by
  cases s <;> cases own <;> simp_all [enc1, S1.enc]

theorem encO_hand (H : Hand U D Dc own lc N ιc pu mE ι' m' w') (s : AS) (x : s.T U.El) (mk mq : List (Blk U.El)) (hq : own = true → mq.length = N + mk.length) (hnp : isNp s = true → own = true) (hp : (encO true true s x mk).2 <+: pu) {v : Value}
    (h : WR U Dc ιc mE w' (encO true true s x mk).1 v) : WR U D ι' m' w' (encO own lc s x mq).1 v := by
  cases s with
  | c s =>
    have h0 : CR U Dc ιc mE w' (enc1 true true s x mk).1 v := h
    by_cases hs : ∃ t n, s = .arr t n
    · obtain ⟨t, n, rfl⟩ := hs
      exact h0.elim
    · have hs' : ∀ t n, s ≠ .arr t n := fun t n e => hs ⟨t, n, e⟩
      obtain ⟨u, e, hu⟩ := CsR.single (enc1_ne own lc s x mq hs') (vs := [v]) ⟨[v], [], rfl, enc1_hand H s x mk mq hq hp h0.cw, rfl⟩
      cases e
      exact hu
  | agg ss =>
    obtain ⟨vs, e, h1⟩ := h
    exact ⟨vs, e, enc2_hand H ss x mk mq hq hp h1⟩
  | io t ss =>
    obtain ⟨vs, e, h1⟩ := h
    exact ⟨vs, e, enc2_hand H ss x mk mq hq hp h1⟩
  | bk t =>
    obtain ⟨vs, e, a, r, e1, h1, h2⟩ := h
    exact ⟨vs, e, a, r, e1, h1, h2⟩
  | np t ss =>
    have ho := hnp rfl
    obtain ⟨h1, β, h2, h3⟩ := h
    have hlt : (enc2 true true ss x mk).2.length < pu.length := by
      obtain ⟨r, hr⟩ := hp
      have := congrArg List.length hr
      simp only [encO, List.length_append, List.length_singleton] at this
      omega
    have e : (enc2 own lc ss x mq).2.length = N + (enc2 true true ss x mk).2.length := by
      have := hq ho
      subst ho
      exact (enc2_len lc ss x mq).trans ((by omega : mq.length + np1 ss = N + (mk.length + np1 ss)).trans (congrArg (N + ·) (enc2_len true ss x mk).symm))
    exact ⟨by rw [e]; exact H.len ho _ hlt, β, by rw [e, H.iota ho _ hlt]; exact h2, h3⟩
  | ptr t => exact h
  | skip => exact h
  | fnp f caps => exact h

/-- Result by result. -/
theorem encOs_hand (H : Hand U D Dc own lc N ιc pu mE ι' m' w') : ∀ (ss : List AS) (x : Os U.El ss) (mk mq : List (Blk U.El)), (own = true → mq.length = N + mk.length) → (ss.any isNp = true → own = true) → (encOs true true ss x mk).2 <+: pu →
    ∀ (j : Nat) (a b : W U.El), (encOs true true ss x mk).1[j]? = some a → (encOs own lc ss x mq).1[j]? = some b → ∀ v, WR U Dc ιc mE w' a v → WR U D ι' m' w' b v
  | [], _, _, _, _, _, _, j, a, b, ha, _, _, _ => by simp [encOs] at ha
  | [s], x, mk, mq, hq, hn, hp, j, a, b, ha, hb, v, hv => by
    cases j with
    | zero =>
      simp [encOs] at ha hb
      subst ha
      subst hb
      exact encO_hand H s x mk mq hq (fun h => hn (by simpa using h)) hp hv
    | succ j => simp [encOs] at ha
  | s :: s' :: ss, (x, y), mk, mq, hq, hn, hp, j, a, b, ha, hb, v, hv => by
    cases j with
    | zero =>
      simp [encOs] at ha hb
      subst ha
      subst hb
      exact encO_hand H s x mk mq hq (fun h => hn (by simp [h])) ((encOs_pre true true (s' :: ss) y _).trans hp) hv
    | succ j =>
      refine encOs_hand H (s' :: ss) y (encO true true s x mk).2 (encO own lc s x mq).2 (fun ho => ?_) (fun h => hn (by rw [List.any_cons, h, Bool.or_true])) hp j a b (by simpa [encOs] using ha) (by simpa [encOs] using hb) v hv
      have := hq ho
      subst ho
      rw [encO_len, encO_len, this]
      omega

/-- Block by block. -/
def BTr (U : Univ) (D Dc : Nat → Prop) (ιc : Nat → Value) (mE : List (Blk U.El)) (ι' : Nat → Value) (m' : List (Blk U.El)) (w' : World) (mk mq M Q : List (Blk U.El)) : Prop :=
  ∀ i b, Q[mq.length + i]? = some b → ∃ b0, M[mk.length + i]? = some b0 ∧ (BR U Dc ιc mE w' (mk.length + i) b0 → BR U D ι' m' w' (mq.length + i) b)
theorem BTr.refl {mk mq : List (Blk U.El)} : BTr U D Dc ιc mE ι' m' w' mk mq mk mq := fun i b h => by simp at h
theorem BTr.trans {mk mq M1 Q1 M2 Q2 : List (Blk U.El)} (h : BTr U D Dc ιc mE ι' m' w' mk mq M1 Q1) (k : BTr U D Dc ιc mE ι' m' w' M1 Q1 M2 Q2) (h1 : Q1 <+: Q2) (h2 : M1 <+: M2) {d : Nat} (hm : M1.length = mk.length + d) (hq : Q1.length = mq.length + d) : BTr U D Dc ιc mE ι' m' w' mk mq M2 Q2 := by
  intro i b hb
  by_cases hi : i < d
  · obtain ⟨q, rfl⟩ := h1
    rw [List.getElem?_append_left (by omega)] at hb
    obtain ⟨b0, e, f⟩ := h i b hb
    obtain ⟨r, rfl⟩ := h2
    exact ⟨b0, by rw [List.getElem?_append_left (by omega)]; exact e, f⟩
  · have e1 : mq.length + i = Q1.length + (i - d) := by omega
    have e2 : mk.length + i = M1.length + (i - d) := by omega
    rw [e1] at hb ⊢
    rw [e2]
    exact k _ b hb

theorem enc1_btr (H : Hand U D Dc true lc N ιc pu mE ι' m' w') (s : S1) (x : s.T U.El) (mk mq : List (Blk U.El)) (hq : mq.length = N + mk.length) (hp : (enc1 true true s x mk).2 <+: pu) :
    BTr U D Dc ιc mE ι' m' w' mk mq (enc1 true true s x mk).2 (enc1 true lc s x mq).2 := by
  have one : ∀ t (l : List (U.El t)), (mk ++ [.da t l]) <+: pu → BTr U D Dc ιc mE ι' m' w' mk mq (mk ++ [.da t l]) (mq ++ [.da t l]) := by
    intro t l hp i b hb
    have hi : i = 0 ∧ b = .da t l := by
      have hlt := (List.getElem?_eq_some_iff.1 hb).1
      simp at hlt
      subst hlt
      exact ⟨rfl, by simpa using hb.symm⟩
    obtain ⟨rfl, rfl⟩ := hi
    refine ⟨.da t l, by simp, fun h => ?_⟩
    rw [Nat.add_zero] at h ⊢
    have hlt : mk.length < pu.length := by
      obtain ⟨r, hr⟩ := hp
      rw [← hr]
      simp
    simp only [BR] at h ⊢
    rw [hq, H.iota rfl _ hlt]
    exact h
  cases s with
  | sl t => exact one t x hp
  | ip t => exact one t x hp
  | _ => exact BTr.refl

theorem enc2_btr (H : Hand U D Dc true lc N ιc pu mE ι' m' w') : ∀ (ss : List S1) (x : Ts U.El ss) (mk mq : List (Blk U.El)), mq.length = N + mk.length → (enc2 true true ss x mk).2 <+: pu →
    BTr U D Dc ιc mE ι' m' w' mk mq (enc2 true true ss x mk).2 (enc2 true lc ss x mq).2
  | [], _, _, _, _, _ => BTr.refl
  | s :: ss, (x, y), mk, mq, hq, hp => (enc1_btr H s x mk mq hq ((enc2_pre true true ss y _).trans hp)).trans (enc2_btr H ss y _ _ (by rw [enc1_len, enc1_len, hq]; omega) hp) (enc2_pre ..) (enc2_pre ..) (enc1_len ..) (enc1_len ..)

theorem encO_btr (H : Hand U D Dc true lc N ιc pu mE ι' m' w') (s : AS) (x : s.T U.El) (mk mq : List (Blk U.El)) (hq : mq.length = N + mk.length) (hp : (encO true true s x mk).2 <+: pu) :
    BTr U D Dc ιc mE ι' m' w' mk mq (encO true true s x mk).2 (encO true lc s x mq).2 := by
  cases s with
  | c s => exact enc1_btr H s x mk mq hq hp
  | agg ss => exact enc2_btr H ss x mk mq hq hp
  | io t ss => exact enc2_btr H ss x mk mq hq hp
  | np t ss =>
    have hp' : (enc2 true true ss x mk).2 <+: pu := (List.prefix_append _ _).trans hp
    refine (enc2_btr H ss x mk mq hq hp').trans (M2 := (encO true true (.np t ss) x mk).2) (Q2 := (encO true lc (.np t ss) x mq).2) ?_ (List.prefix_append _ _) (List.prefix_append _ _) (enc2_len ..) (enc2_len ..)
    intro i b hb
    have hi : i = 0 ∧ b = .st t (enc2 true lc ss x mq).1 := by
      have hlt := (List.getElem?_eq_some_iff.1 hb).1
      simp [encO] at hlt
      subst hlt
      exact ⟨rfl, by simpa [encO] using hb.symm⟩
    obtain ⟨rfl, rfl⟩ := hi
    refine ⟨.st t (enc2 true true ss x mk).1, by simp [encO], fun h => ?_⟩
    rw [Nat.add_zero] at h ⊢
    obtain ⟨β, vs, e1, e2, e3⟩ := h
    have hlt : (enc2 true true ss x mk).2.length < pu.length := by
      obtain ⟨r, hr⟩ := hp
      have := congrArg List.length hr
      simp only [encO, List.length_append, List.length_singleton] at this
      omega
    have e : (enc2 true lc ss x mq).2.length = N + (enc2 true true ss x mk).2.length := (enc2_len lc ss x mq).trans ((by omega : mq.length + np1 ss = N + (mk.length + np1 ss)).trans (congrArg (N + ·) (enc2_len true ss x mk).symm))
    exact ⟨β, vs, by rw [e, H.iota rfl _ hlt]; exact e1, e2, enc2_hand H ss x mk mq (fun _ => hq) hp' e3⟩
  | _ => exact BTr.refl

theorem encOs_btr (H : Hand U D Dc true lc N ιc pu mE ι' m' w') : ∀ (ss : List AS) (x : Os U.El ss) (mk mq : List (Blk U.El)), mq.length = N + mk.length → (encOs true true ss x mk).2 <+: pu →
    BTr U D Dc ιc mE ι' m' w' mk mq (encOs true true ss x mk).2 (encOs true lc ss x mq).2
  | [], _, _, _, _, _ => BTr.refl
  | [s], x, mk, mq, hq, hp => encO_btr H s x mk mq hq hp
  | s :: s' :: ss, (x, y), mk, mq, hq, hp => (encO_btr H s x mk mq hq ((encOs_pre true true (s' :: ss) y _).trans hp)).trans (encOs_btr H (s' :: ss) y _ _ (by rw [encO_len, encO_len, hq]; omega) hp) (encOs_pre ..) (encOs_pre ..) (encO_len ..) (encO_len ..)

theorem resV_ok {U : Univ} {B : Nat → Prop} {ι : Nat → Value} {m : List (Blk U.El)} {w : World} {U' : Univ} {B' : Nat → Prop} {ι' : Nat → Value} {m' : List (Blk U'.El)} {w' : World} {xs : List (W U.El)} {ys : List (W U'.El)} {v : Value}
    (h : VR U B ι m w (resV xs) v) (hl : xs.length = ys.length) (hw : ∀ (j : Nat) (a : W U.El) (b : W U'.El), xs[j]? = some a → ys[j]? = some b → ∀ v, WR U B ι m w a v → WR U' B' ι' m' w' b v) : VR U' B' ι' m' w' (resV ys) v := by
  have all : ∀ (xs : List (W U.El)) (ys : List (W U'.El)) (vs : List Value), xs.length = ys.length → (∀ (j : Nat) (a : W U.El) (b : W U'.El), xs[j]? = some a → ys[j]? = some b → ∀ v, WR U B ι m w a v → WR U' B' ι' m' w' b v) → WsR U B ι m w xs vs → WsR U' B' ι' m' w' ys vs := by
    intro xs
    induction xs with
    | nil => intro ys vs hl _ h; cases ys with
      | nil => exact h
      | cons => simp at hl
    | cons x xs ih =>
      intro ys vs hl hw h
      cases ys with
      | nil => simp at hl
      | cons y ys =>
        obtain ⟨v, r, e, h1, h2⟩ := h
        exact ⟨v, r, e, hw 0 x y rfl rfl v h1, ih ys r (by simpa using hl) (fun j a b ha hb => hw (j + 1) a b (by simpa using ha) (by simpa using hb)) h2⟩
  match xs, ys, hl with
  | [], [], _ => exact h
  | [x], [y], _ => exact hw 0 x y rfl rfl v h
  | x :: x' :: xs, y :: y' :: ys, hl =>
    obtain ⟨vs, e, h1⟩ := h
    exact ⟨vs, e, all _ _ vs hl hw h1⟩
end
end Go.Proofs.Ytigoabhkdipdeaa.AM
