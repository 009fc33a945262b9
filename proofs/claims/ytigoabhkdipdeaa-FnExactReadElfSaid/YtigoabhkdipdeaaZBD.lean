/- A part of the plain reading of Go's code: what a function's code comes to, by a plain function. No condition. -/
import Derived.Test.YtigoabhkdipdeaaZBC
namespace Go.Proofs.Ytigoabhkdipdeaa.AM
open Go.RowKit
variable {ρ : Type}

section
variable {P : Program} {G : Cfg} {B : Nat → Prop} {S : Nat → Prop} {ι ιT : Nat → Value} {m mT : List (Blk G.U.El)} {w : World} {src : List (Option Nat)} {us : List Nat}

theorem rowOf_sc {El : Nat → Type} {m : List (Blk El)} {t : Nat} {v : Value} {l : List (El t)} (h : rowOf m t (.sc v) = some l) : l = [] ∧ v = .slice none 0 0 := by
  simp only [rowOf] at h
  split at h <;> simp_all

/-- A row that is handed out to own. -/
theorem out_own {El : Nat → Type} {m : List (Blk El)} {t : Nat} {c : C El} {l : List (El t)} (h : (if c.own then rowOf m t c else none) = some l) : (∃ id, c = .sl id ∧ m[id]? = some (.da t l)) ∨ (c = .sc (.slice none 0 0) ∧ l = []) := by
  split at h
  case isFalse => cases h
  rename_i ho
  cases c with
  | sl id =>
    simp only [rowOf] at h
    split at h
    · rename_i t' l' hm
      split at h
      · rename_i e
        subst e
        cases h
        exact .inl ⟨id, rfl, hm⟩
      · cases h
    · cases h
  | sc v =>
    obtain ⟨h1, rfl⟩ := rowOf_sc h
    exact .inr ⟨rfl, h1⟩
  | _ => cases ho

theorem out1_ok (hF : Fits P G.U G.ti) (hm : MR G.U B S ι m w) (hSB : ∀ k, S k → B k) (O : Over G.U B B true ι m src us ιT mT) {s : S1} {c : C G.U.El} {x : s.T G.U.El} {vs : List Value} {mk : List (Blk G.U.El)} (h : s.out m c = some x) (hc : CW G.U B ι m w c vs)
    (hpre : ∃ p q, src = p ++ (s.srcs c ++ q) ∧ p.length = mk.length) (hus : ∀ i, i ∈ s.uses c → i ∈ us) : CW G.U B ιT mT w (enc1 true true s x mk).1 vs := by
  have view : ∀ (t : Nat) (l : List (G.U.El t)), (if c.loc then rowOf m t c else none) = some l → (∀ i, i ∈ c.use → i ∈ us) → CW G.U B ιT mT w (.row t l false true) vs := by
    intro t l h hus
    split at h
    case isFalse => cases h
    rename_i hloc
    exact O.view hF hm true h hc (fun _ => hloc) (fun _ id b k hb hl hk => hSB k (hm.inS id b k hb hl hk)) hus
  have given : ∀ (t : Nat) (l : List (G.U.El t)), (if c.own then rowOf m t c else none) = some l → (∃ p q, src = p ++ ([c.src] ++ q) ∧ p.length = mk.length) → CW G.U B ιT mT w (.sl mk.length) vs := by
    rintro t l h ⟨p, q, e, hp⟩
    have hat : src[mk.length]? = some c.src := by
      rw [e, ← hp, List.getElem?_append_right (Nat.le_refl _)]
      simp
    rcases out_own h with ⟨id, rfl, _⟩ | ⟨rfl, _⟩
    · exact O.given hc (.inl ⟨id, rfl⟩) hat
    · exact O.given hc (.inr rfl) hat
  cases s with
  | int k => exact O.sc hc (dec_int h)
  | bool => exact O.sc hc (dec_bool h)
  | str => exact O.sc hc (dec_str h)
  | arr t n => have := dec_arr h; subst this; exact hc
  | row t => exact view t x h hus
  | rol t => exact view t x h hus
  | sl t => exact given t x h hpre
  | ip t => exact given t x h hpre
  | gv t => simp [S1.out] at h

theorem out1_len {s : S1} {c : C G.U.El} : (s.srcs c).length = s.np := by cases s <;> simp [S1.srcs, S1.np]
theorem outs1_len {m : List (Blk G.U.El)} : ∀ {ss : List S1} {cs : List (C G.U.El)} {x : Ts G.U.El ss}, outs1 m ss cs = some x → (srcs1 ss cs).length = np1 ss
  | [], [], _, _ => rfl
  | [], _ :: _, _, h => by simp [outs1] at h
  | _ :: _, [], _, h => by simp [outs1] at h
  | s :: ss, c :: cs, x, h => by
    simp only [outs1] at h
    obtain ⟨y, h3, h⟩ := Option.bind_eq_some_iff.1 h
    obtain ⟨z, h4, h⟩ := Option.bind_eq_some_iff.1 h
    simp only [srcs1, np1, List.length_append]
    rw [outs1_len h4, out1_len]
/-- A pointer to a new struct. -/
theorem out_np {El : Nat → Type} {m : List (Blk El)} {t : Nat} {ss : List S1} {y : W El} {x : Ts El ss} (h : npOut m t ss y = some x) : ∃ id cs, y = .c (.ptr id 0) ∧ m[id]? = some (.st t cs) ∧ outs1 m ss cs = some x := by
  cases y with
  | agg => cases h
  | c c => cases c with
    | ptr id off =>
      unfold npOut at h
      dsimp only at h
      split at h
      case isFalse => cases h
      rename_i h0
      subst h0
      split at h
      · rename_i t' cs hb
        split at h
        · rename_i e
          subst e
          exact ⟨id, cs, rfl, hb, h⟩
        · cases h
      · cases h
    | _ => cases h
theorem ASout_len {m : List (Blk G.U.El)} {s : AS} {y : W G.U.El} {x : s.T G.U.El} (h : s.out m y = some x) : (s.srcs m y).length = s.np' := by
  cases s with
  | c s => cases y with
    | agg => cases h
    | c c => exact out1_len
  | agg ss => cases y with
    | c => cases h
    | agg xs => exact outs1_len h
  | io t ss => cases y with
    | c => cases h
    | agg xs => exact outs1_len h
  | bk t => cases y with
    | agg => cases h
    | c c => rfl
  | np t ss =>
    obtain ⟨id, cs, rfl, hb, h1⟩ := out_np (El := G.U.El) (m := m) (t := t) (ss := ss) (y := y) (x := x) h
    simp only [AS.srcs, hb, AS.np', List.length_append, List.length_singleton]
    rw [outs1_len h1]
  | ptr t => cases y <;> cases h
  | skip => cases y <;> cases h
  | fnp f caps => cases y <;> cases h
theorem Oout_len {m : List (Blk G.U.El)} : ∀ {ss : List AS} {ws : List (W G.U.El)} {x : Os G.U.El ss}, Oout m ss ws = some x → ss.length = ws.length ∧ (srcsOf m ss ws).length = nps ss
  | [], [], _, _ => ⟨rfl, rfl⟩
  | [s], [y], x, h => ⟨rfl, by simp only [srcsOf, nps, List.append_nil, Nat.add_zero]; exact ASout_len h⟩
  | s :: s' :: ss, y :: ys, x, h => by
    change ((s.out m y).bind fun x => (Oout m (s' :: ss) ys).bind fun y => some (x, y)) = some x at h
    obtain ⟨a, h3, h⟩ := Option.bind_eq_some_iff.1 h
    obtain ⟨b, h4, h⟩ := Option.bind_eq_some_iff.1 h
    obtain ⟨h5, h6⟩ := Oout_len h4
    refine ⟨by rw [List.length_cons, h5, List.length_cons], ?_⟩
    show (s.srcs m y ++ srcsOf m (s' :: ss) ys).length = s.np' + nps (s' :: ss)
    rw [List.length_append, ASout_len h3, h6]
  | [], _ :: _, _, h => by cases h
  | [_], [], _, h => by cases h
  | [_], _ :: _ :: _, _, h => by cases h
  | _ :: _ :: _, [], _, h => by cases h

/-- What is handed out is alive. -/
theorem out1_live {s : S1} {c : C G.U.El} {x : s.T G.U.El} (h : s.out m c = some x) {a : Nat} (ha : some a ∈ s.srcs c) : ∃ b, m[a]? = some b ∧ b.live := by
  have one : ∀ t (l : List (G.U.El t)), (if c.own then rowOf m t c else none) = some l → some a ∈ [c.src] → ∃ b, m[a]? = some b ∧ b.live := by
    intro t l h ha
    rcases out_own h with ⟨id, rfl, hb⟩ | ⟨rfl, _⟩
    · simp [C.src] at ha
      subst ha
      exact ⟨_, hb, trivial⟩
    · simp [C.src] at ha
  cases s with
  | sl t => exact one t x h ha
  | ip t => exact one t x h ha
  | _ => simp [S1.srcs] at ha
theorem outs1_live : ∀ {ss : List S1} {cs : List (C G.U.El)} {x : Ts G.U.El ss}, outs1 m ss cs = some x → ∀ {a : Nat}, some a ∈ srcs1 ss cs → ∃ b, m[a]? = some b ∧ b.live
  | [], [], _, _, a, ha => by simp [srcs1] at ha
  | [], _ :: _, _, h, _, _ => by simp [outs1] at h
  | _ :: _, [], _, h, _, _ => by simp [outs1] at h
  | s :: ss, c :: cs, x, h, a, ha => by
    simp only [outs1] at h
    obtain ⟨y, h3, h⟩ := Option.bind_eq_some_iff.1 h
    obtain ⟨z, h4, h⟩ := Option.bind_eq_some_iff.1 h
    rcases List.mem_append.1 ha with ha | ha
    · exact out1_live h3 ha
    · exact outs1_live h4 ha
theorem ASout_live {s : AS} {y : W G.U.El} {x : s.T G.U.El} (h : s.out m y = some x) {a : Nat} (ha : some a ∈ s.srcs m y) : ∃ b, m[a]? = some b ∧ b.live := by
  cases s with
  | c s => cases y with
    | agg => cases h
    | c c => exact out1_live (s := s) h ha
  | agg ss => cases y with
    | c => cases h
    | agg xs => exact outs1_live h ha
  | io t ss => cases y with
    | c => cases h
    | agg xs => exact outs1_live h ha
  | bk t => cases y with
    | agg => cases h
    | c c => simp [AS.srcs] at ha
  | np t ss =>
    obtain ⟨id, cs, rfl, hb, h1⟩ := out_np (El := G.U.El) (m := m) (t := t) (ss := ss) (y := y) (x := x) h
    simp only [AS.srcs, hb] at ha
    rcases List.mem_append.1 ha with ha | ha
    · exact outs1_live h1 ha
    · simp at ha
      subst ha
      exact ⟨_, hb, trivial⟩
  | ptr t => cases y <;> cases h
  | skip => cases y <;> cases h
  | fnp f caps => cases y <;> cases h
theorem Oout_live : ∀ {ss : List AS} {ws : List (W G.U.El)} {x : Os G.U.El ss}, Oout m ss ws = some x → ∀ {a : Nat}, some a ∈ srcsOf m ss ws → ∃ b, m[a]? = some b ∧ b.live
  | [], [], _, _, a, ha => by simp [srcsOf] at ha
  | [s], [y], x, h, a, ha => by
    simp only [srcsOf, List.append_nil] at ha
    exact ASout_live (s := s) h ha
  | s :: s' :: ss, y :: ys, x, h, a, ha => by
    change ((s.out m y).bind fun x => (Oout m (s' :: ss) ys).bind fun y => some (x, y)) = some x at h
    obtain ⟨q, h3, h⟩ := Option.bind_eq_some_iff.1 h
    obtain ⟨b, h4, h⟩ := Option.bind_eq_some_iff.1 h
    have ha' : some a ∈ s.srcs m y ++ srcsOf m (s' :: ss) ys := ha
    rcases List.mem_append.1 ha' with ha | ha
    · exact ASout_live h3 ha
    · exact Oout_live h4 ha
  | [], _ :: _, _, h, _, _ => by cases h
  | [_], [], _, h, _, _ => by cases h
  | [_], _ :: _ :: _, _, h, _, _ => by cases h
  | _ :: _ :: _, [], _, h, _, _ => by cases h

theorem outs1_ok (hF : Fits P G.U G.ti) (hm : MR G.U B S ι m w) (hSB : ∀ k, S k → B k) (O : Over G.U B B true ι m src us ιT mT) : ∀ {ss : List S1} {cs : List (C G.U.El)} {x : Ts G.U.El ss} {vs : List Value} {mk : List (Blk G.U.El)}, outs1 m ss cs = some x → CsR G.U B ι m w cs vs →
    (∃ p q, src = p ++ (srcs1 ss cs ++ q) ∧ p.length = mk.length) → (∀ i, i ∈ uses1 ss cs → i ∈ us) → CsR G.U B ιT mT w (enc2 true true ss x mk).1 vs
  | [], [], _, _, _, _, hc, _, _ => hc
  | [], _ :: _, _, _, _, h, _, _, _ => by simp [outs1] at h
  | _ :: _, [], _, _, _, h, _, _, _ => by simp [outs1] at h
  | s :: ss, c :: cs, x, vs, mk, h, ⟨a, r, e, h1, h2⟩, ⟨p, q, hp, hpl⟩, hus => by
    simp only [outs1] at h
    obtain ⟨y, h3, h⟩ := Option.bind_eq_some_iff.1 h
    obtain ⟨z, h4, h⟩ := Option.bind_eq_some_iff.1 h
    cases h
    exact ⟨a, r, e, out1_ok hF hm hSB O (mk := mk) h3 h1 ⟨p, srcs1 ss cs ++ q, by rw [hp, srcs1, List.append_assoc], hpl⟩ (fun i hi => hus i (List.mem_append_left _ hi)),
      outs1_ok hF hm hSB O (mk := (enc1 true true s y mk).2) h4 h2 ⟨p ++ s.srcs c, q, by rw [hp, srcs1]; simp, by rw [enc1_len, List.length_append, hpl, out1_len]⟩ (fun i hi => hus i (List.mem_append_right _ hi))⟩

theorem out1_push (hm : MR G.U B S ι m w) (O : Over G.U B B true ι m src us ιT mT) {s : S1} {c : C G.U.El} {x : s.T G.U.El} {mk : List (Blk G.U.El)} (h : s.out m c = some x)
    (hpre : ∃ p q, src = p ++ (s.srcs c ++ q) ∧ p.length = mk.length) : Pushed G.U B ι m ιT mT w mk (enc1 true true s x mk).2 := by
  have one : ∀ (t : Nat) (l : List (G.U.El t)), (if c.own then rowOf m t c else none) = some l → (∃ p q, src = p ++ ([c.src] ++ q) ∧ p.length = mk.length) → Pushed G.U B ι m ιT mT w mk (mk ++ [.da t l]) := by
    rintro t l h ⟨p, q, e, hp⟩ i b hb
    have hat : src[mk.length]? = some c.src := by
      rw [e, ← hp, List.getElem?_append_right (Nat.le_refl _)]
      simp
    have hi : i = 0 ∧ b = .da t l := by
      have hlt := (List.getElem?_eq_some_iff.1 hb).1
      simp at hlt
      subst hlt
      exact ⟨rfl, by simpa using hb.symm⟩
    obtain ⟨rfl, rfl⟩ := hi
    rw [Nat.add_zero]
    rcases out_own h with ⟨id, rfl, hb⟩ | ⟨rfl, rfl⟩
    · have := hm.blk _ _ hb
      simp only [BR] at this ⊢
      rw [O.is _ id hat]
      exact this
    · simp only [BR]
      rw [O.no _ hat]
      simpa [flat] using World.ownsRow_nil w 0 t (G.U.sz t)
  cases s with
  | sl t => exact one t x h hpre
  | ip t => exact one t x h hpre
  | _ => exact Pushed.refl
theorem outs1_push (hm : MR G.U B S ι m w) (O : Over G.U B B true ι m src us ιT mT) : ∀ {ss : List S1} {cs : List (C G.U.El)} {x : Ts G.U.El ss} {mk : List (Blk G.U.El)}, outs1 m ss cs = some x →
    (∃ p q, src = p ++ (srcs1 ss cs ++ q) ∧ p.length = mk.length) → Pushed G.U B ι m ιT mT w mk (enc2 true true ss x mk).2
  | [], [], _, _, _, _ => Pushed.refl
  | [], _ :: _, _, _, h, _ => by simp [outs1] at h
  | _ :: _, [], _, _, h, _ => by simp [outs1] at h
  | s :: ss, c :: cs, x, mk, h, ⟨p, q, hp, hpl⟩ => by
    simp only [outs1] at h
    obtain ⟨y, h3, h⟩ := Option.bind_eq_some_iff.1 h
    obtain ⟨z, h4, h⟩ := Option.bind_eq_some_iff.1 h
    cases h
    exact (out1_push hm O h3 ⟨p, srcs1 ss cs ++ q, by rw [hp, srcs1, List.append_assoc], hpl⟩).trans (outs1_push hm O h4 ⟨p ++ s.srcs c, q, by rw [hp, srcs1]; simp, by rw [enc1_len, List.length_append, hpl, out1_len]⟩) (enc1_pre ..) (enc2_pre ..)

theorem ASout_ok (hF : Fits P G.U G.ti) (hm : MR G.U B S ι m w) (hSB : ∀ k, S k → B k) (O : Over G.U B B true ι m src us ιT mT) {s : AS} {y : W G.U.El} {x : s.T G.U.El} {mk : List (Blk G.U.El)} (h : s.out m y = some x)
    (hpre : ∃ p q, src = p ++ (s.srcs m y ++ q) ∧ p.length = mk.length) (hus : ∀ i, i ∈ s.uses m y → i ∈ us) : (isBk s = false → ∀ v, WR G.U B ι m w y v → WR G.U B ιT mT w (encO true true s x mk).1 v) ∧ Pushed G.U B ι m ιT mT w mk (encO true true s x mk).2 := by
  cases s with
  | c s =>
    cases y with
    | agg => cases h
    | c c =>
      refine ⟨fun _ v hv => ?_, out1_push hm O (s := s) h hpre⟩
      have hc : CR G.U B ι m w c v := hv
      have h1 := out1_ok hF hm hSB O (s := s) (mk := mk) h hc.cw hpre hus
      by_cases hs : ∃ t n, s = .arr t n
      · obtain ⟨t, n, rfl⟩ := hs
        have := dec_arr h
        subst this
        exact hc.elim
      · exact CW.cr (enc1_ne true true s x mk fun t n e => hs ⟨t, n, e⟩) h1
  | agg ss =>
    cases y with
    | c => cases h
    | agg xs =>
      refine ⟨fun _ v hv => ?_, outs1_push hm O h hpre⟩
      obtain ⟨vs, e, h1⟩ := hv
      exact ⟨vs, e, outs1_ok hF hm hSB O (mk := mk) h h1 hpre hus⟩
  | io t ss =>
    cases y with
    | c => cases h
    | agg xs =>
      refine ⟨fun _ v hv => ?_, outs1_push hm O h hpre⟩
      obtain ⟨vs, e, h1⟩ := hv
      exact ⟨vs, e, outs1_ok hF hm hSB O (mk := mk) h h1 hpre hus⟩
  | bk t => cases y with
    | agg => cases h
    | c c => exact ⟨fun h => (by cases h), Pushed.refl⟩
  | np t ss =>
    obtain ⟨id, cs, rfl, hb, h1⟩ := out_np (El := G.U.El) (m := m) (t := t) (ss := ss) (y := y) (x := x) h
    simp only [AS.srcs, AS.uses, hb] at hpre hus
    obtain ⟨p, q, hp, hpl⟩ := hpre
    have hp2 : src = p ++ (srcs1 ss cs ++ (some id :: q)) := by rw [hp]; simp
    have hlen : (enc2 true true ss x mk).2.length = mk.length + (srcs1 ss cs).length := (enc2_len true ss x mk).trans (congrArg (mk.length + ·) (outs1_len h1).symm)
    have hat : src[(enc2 true true ss x mk).2.length]? = some (some id) := by
      rw [hp2, hlen, ← hpl, ← List.append_assoc, List.getElem?_append_right (by simp), List.length_append]
      simp
    have hlt : (enc2 true true ss x mk).2.length < mT.length := by rw [O.len]; exact (List.getElem?_eq_some_iff.1 hat).1
    refine ⟨fun _ v hv => ?_, (outs1_push hm O h1 ⟨p, _, hp2, hpl⟩).trans (M2 := (encO true true (.np t ss) x mk).2) ?_ (enc2_pre ..) (List.prefix_append _ _)⟩
    · obtain ⟨_, β, e1, e2⟩ := hv
      exact ⟨hlt, β, (O.is _ _ hat).trans e1, e2⟩
    · intro i b hb'
      have hi : i = 0 ∧ b = .st t (enc2 true true ss x mk).1 := by
        have hlt := (List.getElem?_eq_some_iff.1 hb').1
        simp [encO] at hlt
        subst hlt
        exact ⟨rfl, by simpa [encO] using hb'.symm⟩
      obtain ⟨rfl, rfl⟩ := hi
      rw [Nat.add_zero]
      obtain ⟨β', vs, e1, e2, e3⟩ := hm.blk _ _ hb
      exact ⟨β', vs, (O.is _ _ hat).trans e1, e2, outs1_ok hF hm hSB O (mk := mk) h1 e3 ⟨p, _, hp2, hpl⟩ hus⟩
  | ptr t => cases y <;> cases h
  | skip => cases y <;> cases h
  | fnp f caps => cases y <;> cases h

theorem Oout_ok (hF : Fits P G.U G.ti) (hm : MR G.U B S ι m w) (hSB : ∀ k, S k → B k) (O : Over G.U B B true ι m src us ιT mT) : ∀ {ss : List AS} {ws : List (W G.U.El)} {x : Os G.U.El ss} {mk : List (Blk G.U.El)}, Oout m ss ws = some x →
    (∃ p q, src = p ++ (srcsOf m ss ws ++ q) ∧ p.length = mk.length) → (∀ i, i ∈ usesOf m ss ws → i ∈ us) →
    (∀ (j : Nat) (s : AS) (a b : W G.U.El), ss[j]? = some s → isBk s = false → ws[j]? = some a → (encOs true true ss x mk).1[j]? = some b → ∀ v, WR G.U B ι m w a v → WR G.U B ιT mT w b v) ∧ Pushed G.U B ι m ιT mT w mk (encOs true true ss x mk).2
  | [], [], _, _, _, _, _ => ⟨fun j s a b h => by simp at h, Pushed.refl⟩
  | [s], [y], x, mk, h, hp, hus => by
    have hs : srcsOf m [s] [y] = s.srcs m y := by simp [srcsOf]
    rw [hs] at hp
    obtain ⟨h5, h6⟩ := ASout_ok hF hm hSB O (s := s) (mk := mk) h hp (fun i hi => hus i (List.mem_append_left _ hi))
    refine ⟨fun j s' a b h1 h2 h3 h4 v hv => ?_, h6⟩
    cases j with
    | zero => simp [encOs] at h1 h3 h4; subst h1; subst h3; subst h4; exact h5 h2 v hv
    | succ j => simp at h1
  | s :: s' :: ss, y :: ys, x, mk, h, ⟨p, q, hp, hpl⟩, hus => by
    change ((s.out m y).bind fun x => (Oout m (s' :: ss) ys).bind fun y => some (x, y)) = some x at h
    obtain ⟨a, h3, h⟩ := Option.bind_eq_some_iff.1 h
    obtain ⟨b, h4, h⟩ := Option.bind_eq_some_iff.1 h
    cases h
    obtain ⟨h5, h6⟩ := ASout_ok hF hm hSB O (s := s) (mk := mk) h3 ⟨p, srcsOf m (s' :: ss) ys ++ q, by rw [hp, srcsOf, List.append_assoc], hpl⟩ (fun i hi => hus i (List.mem_append_left _ hi))
    obtain ⟨h7, h8⟩ := Oout_ok hF hm hSB O (mk := (encO true true s a mk).2) h4 ⟨p ++ s.srcs m y, q, by rw [hp, srcsOf]; simp, by rw [encO_len, List.length_append, hpl, ASout_len h3]⟩ (fun i hi => hus i (List.mem_append_right _ hi))
    refine ⟨fun j t c d h1 h2 h3 h4 v hv => ?_, h6.trans h8 (encO_pre ..) (encOs_pre ..)⟩
    cases j with
    | zero => simp [encOs] at h1 h3 h4; subst h1; subst h3; subst h4; exact h5 h2 v hv
    | succ j => exact h7 j t c d (by simpa using h1) h2 (by simpa using h3) (by simpa [encOs] using h4) v hv
  | [], _ :: _, _, _, h, _, _ => by cases h
  | [_], [], _, _, h, _, _ => by cases h
  | [_], _ :: _ :: _, _, _, h, _, _ => by cases h
  | _ :: _ :: _, [], _, _, h, _, _ => by cases h

theorem VsR.get {xs : List (V G.U.El)} {vs : List Value} (h : VsR G.U B ι m w xs vs) : xs.length = vs.length ∧ ∀ i, i < xs.length → VR G.U B ι m w (xs.getD i .und) (vs.getD i undef) := by
  induction xs generalizing vs with
  | nil => cases h; exact ⟨rfl, fun i hi => by simp at hi⟩
  | cons x xs ih =>
    obtain ⟨v, r, rfl, h1, h2⟩ := h
    obtain ⟨h3, h4⟩ := ih h2
    refine ⟨by simp [h3], fun i hi => ?_⟩
    cases i with
    | zero => exact h1
    | succ i => simpa using h4 i (by simpa using hi)


theorem start_SR (hl : ∀ (ins : List AS) (x : ASs G.U.El ins) (mk : List (Blk G.U.El)), (encIs ins x mk).1.length = ins.length) {ins : List AS} {x : ASs G.U.El ins} {vs : List Value} (w0 : Frm) (hw : w0.w0 = w) (hpa : w0.pa = fun i => vs.getD i undef) (h : VsR G.U w0.D ι (encIs ins x []).2 w (encIs ins x []).1 vs) (hM : MR G.U w0.D w0.S ι (encIs ins x []).2 w) (hlv : vs.length ≤ G.ntmps) :
    SR G.U G.ntmps w0 (startOf G ins x) { tmps := vs.toArray ++ Array.replicate (G.ntmps - vs.toArray.size) undef, defers := [] } w := by
  obtain ⟨h1, h2⟩ := VsR.get h
  have key : ∀ t, (vs.toArray ++ Array.replicate (G.ntmps - vs.toArray.size) undef).getD t undef = vs.getD t undef := by
    intro t
    simp only [Array.getD_eq_getD_getElem?]
    by_cases ht : t < vs.length
    · rw [Array.getElem?_append_left (by simp; omega)]
      simp
    · rw [Array.getElem?_append_right (by simp; omega), Array.getElem?_replicate, List.getD_eq_getElem?_getD, List.getElem?_eq_none (by omega)]
      split <;> rfl
  refine ⟨ι, fun t => ?_, by simp; omega, rfl, hM, hw ▸ Fr.refl _ _, fun i _ => by rw [key, hpa]⟩
  rw [key]
  by_cases ht : t < (encIs ins x []).1.length
  · exact h2 t ht
  · have e1 : (startOf G ins x).env t = .und := by simp [startOf, Nat.not_lt.1 ht]
    rw [e1, List.getD_eq_getElem?_getD, List.getElem?_eq_none (by omega)]
    rfl

def resF (a : Act) : ResultVar → Sem Value
  | .tmp t => pure (a.tmps.getD t undef)
  | .cell p t => do loadVar t (← asAddr (a.tmps.getD p undef))

theorem res_ok (hF : Fits P G.U G.ti) {σ : St G.U.El} {a : Act} (hE : ER G.U B ι σ.mem w σ.env a) (hm : MR G.U B S ι σ.mem w) : ∀ {rs : List ResultVar} {ws : List (W G.U.El)}, resOf G rs σ = some ws →
    ∃ vs : List Value, (List.mapM (resF a) rs).run P w = Result.ok vs w ∧ WsR G.U B ι σ.mem w ws vs
  | [], ws, h => by
    cases h
    exact ⟨[], by simp, rfl⟩
  | .tmp t :: rs, ws, h => by
    simp only [resOf] at h
    split at h
    · rename_i x hx
      obtain ⟨ws', h1, rfl⟩ := Option.map_eq_some_iff.1 h
      obtain ⟨vs, h2, h3⟩ := res_ok hF hE hm h1
      have hv := hE t
      rw [hx] at hv
      refine ⟨a.tmps.getD t undef :: vs, ?_, _, vs, rfl, hv, h3⟩
      rw [List.mapM_cons]
      simp only [resF, Sem.run_bind, Sem.run_pure, Result.andThen_ok, h2]
    · cases h
  | .cell p t :: rs, ws, h => by
    simp only [resOf] at h
    obtain ⟨x, h0, h⟩ := Option.bind_eq_some_iff.1 h
    obtain ⟨ws', h1, rfl⟩ := Option.map_eq_some_iff.1 h
    obtain ⟨vs, h2, h3⟩ := res_ok hF hE hm h1
    obtain ⟨y, u, h4, h5, h6⟩ := aLoad_ok (P := P) hF hm (hE p) h0
    cases h5
    have h7 : (resF a (.cell p t)).run P w = .ok u w := by
      simp only [resF]
      cases hp : a.tmps.getD p undef with
      | pointer q =>
        rw [hp] at h4
        cases q with
        | some q => simpa [Instr.loadAt, Instr.sureAddr, asAddr] using h4
        | none => simp [Instr.loadAt, Instr.sureAddr, stuck, Sem.run, Result.andThen] at h4
      | _ => rw [hp] at h4; simp [Instr.loadAt, Instr.sureAddr, stuck, Sem.run, Result.andThen] at h4
    refine ⟨u :: vs, ?_, u, vs, rfl, h6, h3⟩
    rw [List.mapM_cons]
    simp only [Sem.run_bind, Sem.run_pure, Result.andThen_ok, h2, h7]

theorem results_run {fn : Func} {a : Act} {vs : List Value} (h : (List.mapM (resF a) fn.results.toList).run P w = .ok vs w) : (results fn a.tmps).run P w = .ok (if h : vs.length = 1 then vs[0] else .tuple vs.toArray) w := by
  have e : results fn a.tmps = (do let vs ← Array.mapM (resF a) fn.results; pure (if h : vs.size = 1 then vs[0] else .tuple vs)) := by
    unfold results
    congr 1
  rw [e, Array.mapM_eq_mapM_toList]
  simp [h]

theorem resV_single {ws : List (W G.U.El)} {vs : List Value} (h : WsR G.U B ι m w ws vs) : VR G.U B ι m w (resV ws) (if h : vs.length = 1 then vs[0] else .tuple vs.toArray) := by
  match ws, h with
  | [], h => cases h; exact ⟨[], rfl, rfl⟩
  | [x], ⟨v, r, e, h1, h2⟩ =>
    have hr : r = [] := h2
    subst hr
    subst e
    exact h1
  | x :: x' :: xs, ⟨v, r, e, h1, v', r', e', h2, h3⟩ =>
    subst e'
    subst e
    rw [dif_neg (by simp)]
    exact ⟨_, rfl, v, _, rfl, h1, v', r', rfl, h2, h3⟩


theorem bkVs_congr : ∀ {ss : List AS} {us vs : List Value} (pins : List Nat) (i : Nat), us.length = ss.length → vs.length = ss.length → (∀ (j : Nat) (s : AS), ss[j]? = some s → s.bkS ≠ [] → us[j]? = vs[j]?) → bkVs G.U ss us = bkVs G.U ss vs
  | [], [], [], _, _, _, _, _ => rfl
  | s :: ss, u :: us, v :: vs, pins, i, h1, h2, h => by
    simp only [bkVs]
    rw [bkVs_congr pins (i + 1) (by simpa using h1) (by simpa using h2) fun j s hs hb => by simpa using h (j + 1) s (by simpa using hs) hb]
    congr 1
    by_cases hb : s.bkS = []
    · have nob : ∀ w : Value, s.bkV G.U w = [] := by
        intro w
        cases s with
        | c s => exact (bk_none1 (U := G.U) hb (.sc undef) _).2
        | agg ss => cases w <;> first | rfl | exact (bk_none2 (U := G.U) hb [] _).2
        | io t ss => cases hb
        | fnp f caps => cases caps with
          | nil => cases w <;> rfl
          | cons p ps => cases hb
        | _ => cases w <;> rfl
      rw [nob u, nob v]
    · have := h 0 s rfl hb
      simp at this
      rw [this]
  | [], _ :: _, _, _, _, h, _, _ => by simp at h
  | [], [], _ :: _, _, _, _, h, _ => by simp at h
  | _ :: _, [], _, _, _, h, _, _ => by simp at h
  | _ :: _, _ :: _, [], _, _, _, h, _ => by simp at h

theorem bkWs_get : ∀ {ss : List AS} {is : List (Option Nat)} {bs : List (W G.U.El)}, bkWs m ss is = some bs → bs.length = ss.length ∧ ∀ (j : Nat) (s : AS) (b : W G.U.El), ss[j]? = some s → bs[j]? = some b → ∃ i, is[j]? = some i ∧ bkW m s i = some b
  | [], [], bs, h => by cases h; exact ⟨rfl, fun j s b h => by simp at h⟩
  | [], _ :: _, _, h => by simp [bkWs] at h
  | _ :: _, [], _, h => by simp [bkWs] at h
  | s :: ss, i :: is, bs, h => by
    simp only [bkWs] at h
    obtain ⟨w, h1, h⟩ := Option.bind_eq_some_iff.1 h
    obtain ⟨ws, h2, h⟩ := Option.bind_eq_some_iff.1 h
    cases h
    obtain ⟨h3, h4⟩ := bkWs_get h2
    refine ⟨by simp [h3], fun j s' b hs hb => ?_⟩
    cases j with
    | zero => simp at hs hb; subst hs; subst hb; exact ⟨i, rfl, h1⟩
    | succ j => exact h4 j s' b (by simpa using hs) (by simpa using hb)

theorem Oout_get {m : List (Blk G.U.El)} : ∀ {ss : List AS} {ws : List (W G.U.El)} {x : Os G.U.El ss} {mk : List (Blk G.U.El)}, Oout m ss ws = some x → ∀ (j : Nat) (s : AS) (a b : W G.U.El), ss[j]? = some s → ws[j]? = some a → (encOs true true ss x mk).1[j]? = some b → ∃ (y : s.T G.U.El) (mq : List (Blk G.U.El)), s.out m a = some y ∧ b = (encO true true s y mq).1
  | [], [], _, _, _, j, s, a, b, h, _, _ => by simp at h
  | [s], [y], x, mk, h, j, s', a, b, h1, h2, h3 => by
    cases j with
    | zero => simp [encOs] at h1 h2 h3; subst h1; subst h2; subst h3; exact ⟨x, mk, h, rfl⟩
    | succ j => simp at h1
  | s :: s' :: ss, y :: ys, x, mk, h, j, t, a, b, h1, h2, h3 => by
    change ((s.out m y).bind fun x => (Oout m (s' :: ss) ys).bind fun y => some (x, y)) = some x at h
    obtain ⟨q, h4, h⟩ := Option.bind_eq_some_iff.1 h
    obtain ⟨r, h5, h⟩ := Option.bind_eq_some_iff.1 h
    cases h
    cases j with
    | zero => simp [encOs] at h1 h2 h3; subst h1; subst h2; subst h3; exact ⟨q, mk, h4, rfl⟩
    | succ j => exact Oout_get h5 j t a b (by simpa using h1) (by simpa using h2) (by simpa [encOs] using h3)
  | [], _ :: _, _, _, h, _, _, _, _, _, _, _ => by cases h
  | [_], [], _, _, h, _, _, _, _, _, _, _ => by cases h
  | [_], _ :: _ :: _, _, _, h, _, _, _, _, _, _, _ => by cases h
  | _ :: _ :: _, [], _, _, h, _, _, _, _, _, _, _ => by cases h

theorem bkSs_kind : ∀ {ss : List AS} {s : AS}, s ∈ bkSs ss → (∃ t l, s = .io t l) ∨ ∃ t, s = .bk t
  | [], _, h => by simp [bkSs] at h
  | s :: ss, s', h => by
    have k1 : ∀ {ss : List S1} {s : AS}, s ∈ bkS1 ss → ∃ t, s = .bk t := by
      intro ss
      induction ss with
      | nil => intro s h; simp [bkS1] at h
      | cons s ss ih =>
        intro s' h
        rcases List.mem_append.1 h with h | h
        · cases s <;> simp [S1.bkS] at h
          exact ⟨_, h⟩
        · exact ih h
    have k2 : ∀ {caps : List (Nat × List S1)} {s : AS}, s ∈ bkCaps caps → ∃ t l, s = .io t l := by
      intro caps
      induction caps with
      | nil => intro s h; simp [bkCaps] at h
      | cons p ps ih =>
        intro s h
        rcases List.mem_cons.1 h with h | h
        · exact ⟨_, _, h⟩
        · exact ih h
    rcases List.mem_append.1 h with h | h
    · cases s with
      | c s =>
        cases s <;> simp [AS.bkS, S1.bkS] at h
        exact .inr ⟨_, h⟩
      | agg ss => exact .inr (k1 h)
      | io t l => simp [AS.bkS] at h; exact .inl ⟨t, l, h⟩
      | fnp f caps => exact .inl (k2 h)
      | _ => simp [AS.bkS] at h
    · exact bkSs_kind h

/-- What a function's end hands out. -/
theorem end_ok (hF : Fits P G.U G.ti) {w0 : Frm} {fn : Func} {ins outs : List AS} {y : Os G.U.El (outs ++ bkSs ins)} {σ : St G.U.El} {a : Act} {n : Nat} {e : Ex} (hσ : SR G.U G.ntmps w0 σ a w) (hpin : w0.pins = G.pins) {cargs : List Value} (hpa : w0.pa = fun i => cargs.getD i undef) (hcl : cargs.length = ins.length) (hil : ins.length ≤ G.ntmps) (h : kEnd G fn ins outs n e σ = some y) :
    (∀ i, e ≠ .exit i) ∧ a.defers = [] ∧ ∃ v, (results fn a.tmps).run P w = .ok v w ∧ Ended G.U w0.D w0.S ins outs y w0.w0 w cargs v := by
  have hne : ∀ i, e ≠ .exit i := by rintro i rfl; cases h
  have h' : ((resOf G fn.results.toList σ).bind fun vs => (bkWs σ.mem (bkSs ins) (bkIs ins ((List.range ins.length).map σ.env))).bind fun bs =>
      if handsOk (srcsOf σ.mem (outs ++ bkSs ins) (vs ++ bs) ++ bkIs ins ((List.range ins.length).map σ.env)) (usesOf σ.mem (outs ++ bkSs ins) (vs ++ bs)) && (pinsOk G ins 0 && aligns G.U ins ((List.range ins.length).map σ.env) && Nat.beq vs.length outs.length && !(outs.any isBk)) then Oout σ.mem (outs ++ bkSs ins) (vs ++ bs) else none) = some y := by
    cases e with
    | exit i => exact absurd rfl (hne i)
    | normal => exact h
    | ret => exact h
  obtain ⟨ι, hE, hN, hD, hM, hFr, hPn⟩ := hσ
  obtain ⟨ws, h1, h2'⟩ := Option.bind_eq_some_iff.1 h'
  obtain ⟨bs, hbs, h2⟩ := Option.bind_eq_some_iff.1 h2'
  clear h' h2' h
  split at h2
  case isFalse => cases h2
  rename_i hh
  simp only [Bool.and_eq_true, Bool.not_eq_true'] at hh
  obtain ⟨hh, ⟨⟨hpo, hal⟩, hwl⟩, hnb⟩ := hh
  have hwl := Nat.eq_of_beq_eq_true hwl
  obtain ⟨vs, h3, h4⟩ := res_ok hF hE hM h1
  -- what comes back, by the temporaries
  let ps := (List.range ins.length).map σ.env
  let cs := (List.range ins.length).map fun i => a.tmps.getD i undef
  have hps : VsR G.U w0.D ι σ.mem w ps cs := by
    have : ∀ l : List Nat, VsR G.U w0.D ι σ.mem w (l.map σ.env) (l.map fun i => a.tmps.getD i undef) := by
      intro l
      induction l with
      | nil => exact rfl
      | cons i l ih => exact ⟨_, _, rfl, hE i, ih⟩
    exact this _
  obtain ⟨hbl, hbv⟩ := bks_val hF.U hal hps
  have hpin' : ∀ (ss : List AS) (i j : Nat) (s : AS), pinsOk G ss i = true → ss[j]? = some s → s.bkS ≠ [] → i + j ∈ G.pins := by
    intro ss
    induction ss with
    | nil => intro i j s _ h; simp at h
    | cons s ss ih =>
      intro i j s' hp hs hb
      simp only [pinsOk, Bool.and_eq_true, Bool.or_eq_true, List.isEmpty_iff] at hp
      cases j with
      | zero =>
        simp at hs
        subst hs
        rcases hp.1 with h | h
        · exact absurd h hb
        · exact List.contains_iff_mem.1 h
      | succ j =>
        have := ih (i + 1) j s' hp.2 (by simpa using hs) hb
        rwa [show i + 1 + j = i + (j + 1) by omega] at this
  have hcs : bkVs G.U ins cs = bkVs G.U ins cargs := by
    refine bkVs_congr [] 0 (by simp [cs]) hcl fun j s hs hb => ?_
    have hj : j < ins.length := (List.getElem?_eq_some_iff.1 hs).1
    have hp := hpin' ins 0 j s hpo hs hb
    rw [Nat.zero_add] at hp
    have := hPn j (by rw [hpin]; exact hp)
    rw [hpa] at this
    simp only [cs, List.getElem?_map, List.getElem?_range hj, Option.map_some, this]
    rw [List.getD_eq_getElem?_getD, List.getElem?_eq_getElem (by omega)]
    rfl
  rw [hcs] at hbv
  refine ⟨hne, hD, _, results_run h3, hFr, ?_⟩
  obtain ⟨hbsl, hbsg⟩ := bkWs_get hbs
  obtain ⟨hol, hsl⟩ := Oout_len h2
  have hlive1 := fun a ha => Oout_live h2 (a := a) ha
  simp only [handsOk, Bool.and_eq_true, decide_eq_true_eq, List.all_eq_true, Bool.not_eq_true'] at hh
  obtain ⟨hnd, hus⟩ := hh
  generalize hids : bkIs ins ((List.range ins.length).map σ.env) = ids at *
  generalize hpu : (encOs true true (outs ++ bkSs ins) y []).2 = pu at *
  have hpul : pu.length = nps (outs ++ bkSs ins) := by rw [← hpu, encOs_len2]; simp
  generalize hsrc : srcsOf σ.mem (outs ++ bkSs ins) (ws ++ bs) = src0 at *
  have hsl' : src0.length = pu.length := by rw [hpul]; exact hsl
  have hencl : (encOs true true (outs ++ bkSs ins) y []).1.length = outs.length + (bkSs ins).length := by rw [encOs_len, List.length_append]
  let src := src0 ++ ids
  let ιT : Nat → Value := fun i => match src[i]? with
    | some (some a) => ι a
    | _ => .slice none 0 0
  have hmE : endMem ins outs y = pu ++ bkBlks (bkSs ins) ((encOs true true (outs ++ bkSs ins) y []).1.drop outs.length) := by rw [← hpu]; rfl
  have hbkl : (bkBlks (bkSs ins) ((encOs true true (outs ++ bkSs ins) y []).1.drop outs.length)).length = ids.length := by
    rw [bkBlks_len _ _ (by rw [List.length_drop, hencl]; omega), hbl]
  have hmEl : (endMem ins outs y).length = src.length := by
    rw [hmE, List.length_append, hbkl]
    show pu.length + ids.length = (src0 ++ ids).length
    rw [List.length_append, hsl']
  -- the kinds of what comes back
  have bkinfo : ∀ (j : Nat) (b : Blk G.U.El), (bkBlks (bkSs ins) ((encOs true true (outs ++ bkSs ins) y []).1.drop outs.length))[j]? = some b →
      (∃ t ss k cs cs' , (bkSs ins)[j]? = some (.io t ss) ∧ ids[j]? = some (some k) ∧ σ.mem[k]? = some (.st t cs) ∧ b = .st t cs' ∧ (ws ++ bs)[outs.length + j]? = some (.agg cs) ∧ (encOs true true (outs ++ bkSs ins) y []).1[outs.length + j]? = some (.agg cs')) ∨
      (∃ t l, (bkSs ins)[j]? = some (.bk t) ∧ b = .da t l ∧ ((∃ k, ids[j]? = some (some k) ∧ σ.mem[k]? = some (.da t l)) ∨ (ids[j]? = some none ∧ l = []))) := by
    intro j b hb
    have hj : j < (bkSs ins).length := by
      have := (List.getElem?_eq_some_iff.1 hb).1
      omega
    obtain ⟨s, hs⟩ : ∃ s, (bkSs ins)[j]? = some s := ⟨_, List.getElem?_eq_getElem hj⟩
    have hbj : bs[j]? = some (bs[j]'(by omega)) := List.getElem?_eq_getElem (by omega)
    obtain ⟨i, hi, hw⟩ := hbsg j _ _ hs hbj
    have ha : (encOs true true (outs ++ bkSs ins) y []).1[outs.length + j]? = some ((encOs true true (outs ++ bkSs ins) y []).1[outs.length + j]'(by omega)) := List.getElem?_eq_getElem (by omega)
    have hwb : (ws ++ bs)[outs.length + j]? = some (bs[j]'(by omega)) := by
      rw [List.getElem?_append_right (by omega), hwl, show outs.length + j - outs.length = j by omega]
      exact hbj
    have hss : (outs ++ bkSs ins)[outs.length + j]? = some s := by
      rw [List.getElem?_append_right (by omega), show outs.length + j - outs.length = j by omega]
      exact hs
    obtain ⟨yj, mq, hyj, hej⟩ := Oout_get (mk := []) h2 _ _ _ _ hss hwb ha
    have hbb := bkBlks_get (bkSs ins) ((encOs true true (outs ++ bkSs ins) y []).1.drop outs.length) j _ _ hs (by rw [List.getElem?_drop]; exact ha)
    rw [hb] at hbb
    have hbb := Option.some.inj hbb
    rcases bkSs_kind (List.mem_of_getElem? hs) with ⟨t, ss, rfl⟩ | ⟨t, rfl⟩
    · cases i with
      | none => simp [bkW] at hw
      | some k =>
        simp only [bkW] at hw
        split at hw
        · rename_i t' cs hk
          split at hw
          · rename_i e
            subst e
            have hw := Option.some.inj hw
            refine .inl ⟨t', ss, k, cs, (enc2 true true ss yj mq).1, hs, hi, hk, ?_, by rw [hwb, hw], by rw [ha, hej]; rfl⟩
            rw [hbb, hej]
            rfl
          · cases hw
        · cases hw
    · refine .inr ⟨t, yj, hs, by rw [hbb, hej]; rfl, ?_⟩
      cases i with
      | none =>
        simp only [bkW, Option.some.injEq] at hw
        rw [← hw] at hyj
        have hy' : (if C.own (.sc (.slice none 0 0) : C G.U.El) then rowOf σ.mem t (.sc (.slice none 0 0)) else none) = some yj := hyj
        rcases out_own hy' with ⟨id, e, _⟩ | ⟨_, e⟩
        · cases e
        · exact .inr ⟨hi, e⟩
      | some k =>
        simp only [bkW, Option.some.injEq] at hw
        rw [← hw] at hyj
        have hy' : (if C.own (.sl k : C G.U.El) then rowOf σ.mem t (.sl k) else none) = some yj := hyj
        rcases out_own hy' with ⟨id, e, hb⟩ | ⟨e, _⟩
        · cases e
          exact .inl ⟨k, hi, hb⟩
        · cases e
  have hlive : ∀ a, some a ∈ src → ∃ b, σ.mem[a]? = some b ∧ b.live := by
    intro a ha
    rcases List.mem_append.1 ha with ha | ha
    · exact hlive1 a ha
    · obtain ⟨j, hj, hje⟩ := List.getElem_of_mem ha
      have hje' : ids[j]? = some (some a) := by rw [List.getElem?_eq_getElem hj, hje]
      obtain ⟨b, hb⟩ : ∃ b, (bkBlks (bkSs ins) ((encOs true true (outs ++ bkSs ins) y []).1.drop outs.length))[j]? = some b := ⟨_, List.getElem?_eq_getElem (by omega)⟩
      rcases bkinfo j b hb with ⟨t, ss, k, cs, cs', _, e1, e2, _⟩ | ⟨t, l, _, _, ⟨k, e1, e2⟩ | ⟨e1, _⟩⟩
      · rw [hje'] at e1; cases e1; exact ⟨_, e2, trivial⟩
      · rw [hje'] at e1; cases e1; exact ⟨_, e2, trivial⟩
      · rw [hje'] at e1; cases e1
  have own : ∀ id b k, (endMem ins outs y)[id]? = some b → ownOf (ιT id) = some k → ∃ a b', src[id]? = some (some a) ∧ σ.mem[a]? = some b' ∧ b'.live ∧ ownOf (ι a) = some k := by
    intro id b k hb hk
    have hlt : id < src.length := by rw [← hmEl]; exact (List.getElem?_eq_some_iff.1 hb).1
    cases hq : src[id]? with
    | none => simp at hq; omega
    | some o =>
      cases o with
      | none => simp [ιT, hq, ownOf] at hk
      | some a =>
        obtain ⟨b', e1, e2⟩ := hlive a (List.mem_of_getElem? hq)
        exact ⟨a, b', rfl, e1, e2, by simpa [ιT, hq] using hk⟩
  have O : Over G.U w0.D w0.D true ι σ.mem src (usesOf σ.mem (outs ++ bkSs ins) (ws ++ bs)) ιT (endMem ins outs y) := by
    refine ⟨hmEl, fun i a h => by simp [ιT, h], fun i h => by simp [ιT, h], ?_, ?_, hM.inj, own, fun b _ h => h rfl⟩
    · intro b hf id q hq hl hk
      obtain ⟨a, b', _, e2, e3, e4⟩ := own id q b hq hk
      exact hf a b' e2 e3 e4
    · intro i hi hmem
      have := hus i hi
      rw [List.contains_iff_mem.2 hmem] at this
      cases this
  obtain ⟨h5, h6⟩ := Oout_ok hF hM w0.sd O (mk := []) h2 ⟨[], ids, by rw [hsrc]; rfl, rfl⟩ (fun i hi => hi)
  rw [hpu] at h6
  have bat : ∀ j i, ids[j]? = some i → src[pu.length + j]? = some i := by
    intro j i h
    show (src0 ++ ids)[pu.length + j]? = some i
    rw [List.getElem?_append_right (by omega), hsl', show pu.length + j - pu.length = j by omega]
    exact h
  refine ⟨ιT, ?_, ⟨fun id b hb => ?_, ?_, ?_⟩, fun j v hj => ?_⟩
  · refine resV_ok (U' := G.U) (resV_single h4) (by rw [List.length_take, hencl, hwl]; omega) fun j p q hp hq v hv => ?_
    have hj : j < outs.length := by rw [← hwl]; exact (List.getElem?_eq_some_iff.1 hp).1
    rw [List.getElem?_take_of_lt hj] at hq
    refine h5 j outs[j] p q (by rw [List.getElem?_append_left hj, List.getElem?_eq_getElem hj]) ?_ (by rw [List.getElem?_append_left (by omega)]; exact hp) hq v hv
    cases hbk : isBk outs[j] with
    | false => rfl
    | true =>
      have : outs.any isBk = true := List.any_eq_true.2 ⟨_, List.getElem_mem hj, hbk⟩
      rw [this] at hnb
      cases hnb
  · by_cases hlt : id < pu.length
    · rw [hmE, List.getElem?_append_left hlt] at hb
      have := h6 id b (by simpa using hb)
      simpa using this
    · obtain ⟨j, rfl⟩ : ∃ j, id = pu.length + j := ⟨id - pu.length, by omega⟩
      rw [hmE, List.getElem?_append_right (by omega), show pu.length + j - pu.length = j by omega] at hb
      rcases bkinfo j b hb with ⟨t, ss, k, cs, cs', e0, e1, e2, rfl, e4, e5⟩ | ⟨t, l, _, rfl, ⟨k, e1, e2⟩ | ⟨e1, rfl⟩⟩
      · obtain ⟨β, us, e6, e7, e8⟩ := hM.blk _ _ e2
        obtain ⟨us', e9, e10⟩ := h5 (outs.length + j) (.io t ss) _ _ (by rw [List.getElem?_append_right (by omega), show outs.length + j - outs.length = j by omega]; exact e0) rfl e4 e5 (.agg us) ⟨us.toList, by simp, e8⟩
        refine ⟨β, us, (O.is _ _ (bat j _ e1)).trans e6, e7, ?_⟩
        have : us'.toArray = us := by cases e9; rfl
        rw [← this]
        simpa using e10
      · have := hM.blk _ _ e2
        simp only [BR] at this ⊢
        rw [O.is _ _ (bat j _ e1)]
        exact this
      · simp only [BR]
        rw [O.no _ (bat j _ e1)]
        simpa [flat] using World.ownsRow_nil w 0 t (G.U.sz t)
  · intro i j b b' k hi hj hl hl' hk hk'
    obtain ⟨a, q, e1, e2, e3, e4⟩ := own i b k hi hk
    obtain ⟨a', q', e1', e2', e3', e4'⟩ := own j b' k hj hk'
    have haa := hM.inj a a' q q' k e2 e2' e3 e3' e4 e4'
    subst haa
    exact nodup_at hnd e1 e1'
  · intro id b k hb hl hk
    obtain ⟨a, q, e1, e2, e3, e4⟩ := own id b k hb hk
    exact hM.inS a q k e2 e3 e4
  · rw [← hbv, List.getElem?_map] at hj
    obtain ⟨i, hi, rfl⟩ := Option.map_eq_some_iff.1 hj
    cases i with
    | none => exact O.no _ (bat j _ hi)
    | some k => exact O.is _ _ (bat j _ hi)

theorem encIs_len1 : ∀ (ins : List AS) (x : ASs G.U.El ins) (mk : List (Blk G.U.El)), (encIs ins x mk).1.length = ins.length
  | [], _, _ => rfl
  | s :: ss, (x, y), mk => by simp only [encIs, List.length_cons]; rw [encIs_len1 ss]

/-- A function does what its evaluation says. -/
theorem aFun_ok (hF : Fits P G.U G.ti) {con : Nat → Nat → Option (Con G.U.El)} (hcon : ∀ n f c, con n f = some c → ConOk P G.U f c) {f : Nat} {fn : Func} (hf : P.funcs[f % 65536]? = some fn) {c : Code} (hb : fn.body = some c) (hname : (fn.name == "runtime.NumGoroutine") = false)
    (hn : G.ntmps = fn.ntmps) {ins outs : List AS} (hl : ins.length ≤ G.ntmps) {L : Nat → Option (LoopC G.U.El (Os G.U.El (outs ++ bkSs ins)))} (hL : loopsOk G con L c 0 (kEnd G fn ins outs)) {plain : Nat → ASs G.U.El ins → Option (Os G.U.El (outs ++ bkSs ins))}
    (hp : ∀ n x y, plain n x = some y → aev G con L c 0 n (startOf G ins x) (kEnd G fn ins outs) = some y) : ConOk P G.U f ⟨ins, outs, plain⟩ := by
  refine ⟨⟨fn, hf, hname, by simp [hb]⟩, fun n x y hy D S ι vs w hS hSD hv hM => ?_⟩
  have hlen := encIs_len1 (G := G) ins x []
  have hlv : (encIs ins x []).1.length = vs.length := (VsR.get hv).1
  let F : Frm := ⟨w, D, S, G.pins, fun i => vs.getD i undef, hS, hSD⟩
  have hs := start_SR (G := G) encIs_len1 F rfl rfl hv hM (by omega)
  refine calls_of_wp hf hb ?_
  rw [← hn]
  refine aev_ok hF hcon rfl c 0 n _ _ _ _ _ hL (hp n x y hy) hs ?_
  intro n' _ e σ a w' h1 h2
  obtain ⟨h3, h4, v, h5, h6⟩ := end_ok hF h2 rfl (cargs := vs) rfl (by omega) hl h1
  cases e with
  | exit i => exact absurd rfl (h3 i)
  | normal => exact ⟨h4, v, h5, v, rfl, h6⟩
  | ret => exact ⟨h4, v, h5, v, rfl, h6⟩
end
end Go.Proofs.Ytigoabhkdipdeaa.AM
