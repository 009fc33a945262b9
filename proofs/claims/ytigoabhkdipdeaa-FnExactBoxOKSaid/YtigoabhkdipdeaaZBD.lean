/- A part of the plain reading of Go's code: what a function's code comes to, by a plain function. No condition. -/
import Derived.Test.YtigoabhkdipdeaaZBC
namespace Go.Proofs.Ytigoabhkdipdeaa.AM
open Go.RowKit
variable {ρ : Type}

section
variable {U : Univ} {B : Nat} {ι ιT : Nat → Value} {m mT : List (Blk U.El)} {w : World} {src : List (Option Nat)} {us : List Nat}

/-- What is handed out at a function's end: the rows of src, as the blocks of mT. -/
structure Out (U : Univ) (B : Nat) (ι : Nat → Value) (m : List (Blk U.El)) (w : World) (src : List (Option Nat)) (us : List Nat) (ιT : Nat → Value) (mT : List (Blk U.El)) : Prop where
  len : mT.length = src.length
  is : ∀ i a, src[i]? = some (some a) → ιT i = ι a
  no : ∀ i, src[i]? = some none → ιT i = .slice none 0 0
  far : ∀ b, Far U ι m b → Far U ιT mT b
  use : ∀ i, i ∈ us → some i ∉ src
  inS : ∀ id b k, m[id]? = some b → b.live → ownOf (ι id) = some k → B ≤ k
  inj : ∀ i j b b' k, m[i]? = some b → m[j]? = some b' → b.live → b'.live → ownOf (ι i) = some k → ownOf (ι j) = some k → i = j
  own : ∀ id b k, mT[id]? = some b → ownOf (ιT id) = some k → ∃ a b', src[id]? = some (some a) ∧ m[a]? = some b' ∧ b'.live ∧ ownOf (ι a) = some k
end

section
variable {P : Program} {G : Cfg} {B : Nat} {S : Nat → Prop} {ι ιT : Nat → Value} {m mT : List (Blk G.U.El)} {w : World} {src : List (Option Nat)} {us : List Nat}

theorem out1_ok (hF : Fits P G.U G.ti) (hm : MR G.U B S ι m w) (O : Out G.U B ι m w src us ιT mT) {s : S1} {c : C G.U.El} {x : s.T G.U.El} {vs : List Value} {mk : List (Blk G.U.El)} (h : s.out m c = some x) (hc : CW G.U B ι m w c vs)
    (hpre : ∃ p q, src = p ++ (s.srcs c ++ q) ∧ p.length = mk.length) (hus : ∀ i, i ∈ s.uses c → i ∈ us) : CW G.U B ιT mT w (enc1 true s x mk).1 vs ∧ (enc1 true s x mk).2.length = mk.length + (s.srcs c).length := by
  have sc : ∀ v, c = .sc v → CW G.U B ιT mT w (.sc v) vs := by
    rintro v rfl
    exact hc
  have one : ∀ {t : Nat} {l : List (G.U.El t)}, rowOf m t c = some l → ∃ v, vs = [v] ∧ CR G.U B ι m w c v := fun {t l} hl =>
    CsR.single (by intro t n l e; subst e; simp [rowOf] at hl) ⟨vs, [], by simp, hc, rfl⟩
  have key : ∀ (t : Nat) (l : List (G.U.El t)), rowOf m t c = some l → c.loc = true → (∀ i, i ∈ c.use → i ∈ us) → CW G.U B ιT mT w (.row t l false true) vs := by
    intro t l h hloc hus
    obtain ⟨v, rfl, hv⟩ := one h
    obtain ⟨A, cap, rfl, hr, hle⟩ := rowOf_ok hF hm hv h
    refine ⟨_, rfl, A, cap, rfl, hle, ?_, fun h => by cases h⟩
    -- where its cells lie
    have blk : ∀ id t' l', m[id]? = some (.da t' l') → id ∈ us → ∀ g, ownOf (ι id) = some g → Far G.U ιT mT g ∧ B ≤ g := by
      intro id t' l' hb hu g hg
      refine ⟨fun i q hq hl hk => ?_, O.inS id _ g hb trivial hg⟩
      obtain ⟨a, b', e1, e2, e3, e4⟩ := O.own i q g hq hk
      have := O.inj a id b' _ g e2 hb e3 trivial e4 hg
      subst this
      exact O.use a hu (List.mem_of_getElem? e1)
    cases c with
    | row t' l' tg lc =>
      have hlc : lc = true := hloc
      subst hlc
      simp only [rowOf] at h
      split at h
      · rename_i e
        subst e
        cases h
        obtain ⟨A', cap', e1, _, h3, _⟩ := hv
        cases e1
        exact fun j u hu => let ⟨b, o, e1, e2, e3, e4⟩ := h3 j u hu; ⟨b, o, e1, e2, O.far b e3, e4⟩
      · cases h
    | sl id =>
      simp only [rowOf] at h
      split at h
      · rename_i t' l' hb
        obtain ⟨hid, e, _⟩ := hv
        intro j u hu
        obtain ⟨b, o, e1, e2⟩ := hr j u hu
        obtain ⟨h1, h2⟩ := blk id t' l' hb (hus id (by simp [C.use])) b (by rw [← e, e1]; rfl)
        exact ⟨b, o, e1, e2, h1, fun _ => h2⟩
      · cases h
    | sub id e o n =>
      simp only [rowOf] at h
      split at h
      · rename_i t' l' hb
        obtain ⟨hid, A', cap', e1, _, hA⟩ := hv
        cases e1
        intro j u hu
        obtain ⟨b, o', e1, e2⟩ := hr j u hu
        have hn : 0 < l.length := by
          rcases Nat.eq_zero_or_pos l.length with h0 | h0
          · have : l = [] := List.eq_nil_of_length_eq_zero h0
            subst this
            simp [flat] at hu
          · exact h0
        obtain ⟨g, n', c', e3, e4, e5⟩ := hA hn
        rw [e5] at e1
        cases e1
        obtain ⟨h1, h2⟩ := blk id t' l' hb (hus id (by simp [C.use])) b (by rw [e3]; rfl)
        exact ⟨b, _, e5, e2, h1, fun _ => h2⟩
      · cases h
    | sc u =>
      have : l = [] := by
        simp only [rowOf] at h
        split at h <;> simp_all
      subst this
      exact fun j u hu => by simp [flat] at hu
    | _ => simp [rowOf] at h
  cases s with
  | int k => exact ⟨sc _ (dec_int h), rfl⟩
  | bool => exact ⟨sc _ (dec_bool h), rfl⟩
  | str => exact ⟨sc _ (dec_str h), rfl⟩
  | arr t n => have := dec_arr h; subst this; exact ⟨hc, rfl⟩
  | row t =>
    have h' : (if c.loc then rowOf m t c else none) = some (x : List (G.U.El t)) := h
    split at h'
    case isFalse => cases h'
    rename_i hloc
    exact ⟨key t x h' hloc (fun i hi => hus i hi), rfl⟩
  | sl t =>
    change (if c.own then rowOf m t c else none) = some x at h
    split at h
    case isFalse => cases h
    rename_i hown
    obtain ⟨v, rfl, hv⟩ := one h
    obtain ⟨p, q, e, hp⟩ := hpre
    have hlt : mk.length < mT.length := by rw [O.len, e]; simp [S1.srcs]; omega
    have hat : src[mk.length]? = some c.src := by
      rw [e, ← hp, List.getElem?_append_right (Nat.le_refl _)]
      simp [S1.srcs]
    refine ⟨⟨v, rfl, hlt, ?_, hv.one⟩, by simp [enc1, S1.srcs]⟩
    cases c with
    | sl id => rw [O.is _ id hat]; exact hv.2.1
    | sc u =>
      have hu : u = .slice none 0 0 := by
        simp only [rowOf] at h
        split at h <;> simp_all
      rw [O.no _ hat]
      exact hv.1.trans hu
    | _ => cases hown

theorem outs1_ok (hF : Fits P G.U G.ti) (hm : MR G.U B S ι m w) (O : Out G.U B ι m w src us ιT mT) : ∀ {ss : List S1} {cs : List (C G.U.El)} {x : Ts G.U.El ss} {vs : List Value} {mk : List (Blk G.U.El)}, outs1 m ss cs = some x → CsR G.U B ι m w cs vs →
    (∃ p q, src = p ++ (srcs1 ss cs ++ q) ∧ p.length = mk.length) → (∀ i, i ∈ uses1 ss cs → i ∈ us) → CsR G.U B ιT mT w (enc2 true ss x mk).1 vs ∧ (enc2 true ss x mk).2.length = mk.length + (srcs1 ss cs).length
  | [], [], _, _, _, _, hc, _, _ => ⟨hc, rfl⟩
  | [], _ :: _, _, _, _, h, _, _, _ => by simp [outs1] at h
  | _ :: _, [], _, _, _, h, _, _, _ => by simp [outs1] at h
  | s :: ss, c :: cs, x, vs, mk, h, ⟨a, r, e, h1, h2⟩, ⟨p, q, hp, hpl⟩, hus => by
    simp only [outs1] at h
    obtain ⟨y, h3, h⟩ := Option.bind_eq_some_iff.1 h
    obtain ⟨z, h4, h⟩ := Option.bind_eq_some_iff.1 h
    cases h
    obtain ⟨h5, h6⟩ := out1_ok hF hm O (mk := mk) h3 h1 ⟨p, srcs1 ss cs ++ q, by rw [hp, srcs1, List.append_assoc], hpl⟩ (fun i hi => hus i (List.mem_append_left _ hi))
    obtain ⟨h7, h8⟩ := outs1_ok hF hm O (mk := (enc1 true s y mk).2) h4 h2 ⟨p ++ s.srcs c, q, by rw [hp, srcs1]; simp, by rw [h6, List.length_append, hpl]⟩ (fun i hi => hus i (List.mem_append_right _ hi))
    exact ⟨⟨a, r, e, h5, h7⟩, by simp only [enc2, srcs1, List.length_append]; rw [h8, h6]; omega⟩

theorem ASout_ok (hF : Fits P G.U G.ti) (hm : MR G.U B S ι m w) (O : Out G.U B ι m w src us ιT mT) {s : AS} {y : W G.U.El} {x : s.T G.U.El} {v : Value} {mk : List (Blk G.U.El)} (h : s.out m y = some x) (hv : WR G.U B ι m w y v)
    (hpre : ∃ p q, src = p ++ (s.srcs y ++ q) ∧ p.length = mk.length) (hus : ∀ i, i ∈ s.uses y → i ∈ us) : WR G.U B ιT mT w (encO true s x mk).1 v ∧ (encO true s x mk).2.length = mk.length + (s.srcs y).length := by
  cases s with
  | c s =>
    cases y with
    | agg => cases h
    | c c =>
      have hc : CR G.U B ι m w c v := hv
      obtain ⟨h1, h2⟩ := out1_ok hF hm O (s := s) (mk := mk) h hc.cw hpre hus
      refine ⟨?_, h2⟩
      by_cases hs : ∃ t n, s = .arr t n
      · obtain ⟨t, n, rfl⟩ := hs
        have := dec_arr h
        subst this
        exact hc.elim
      · exact CR.of_cw (enc1_ne true s x _ fun t n e => hs ⟨t, n, e⟩) h1
  | agg ss =>
    cases y with
    | c => cases h
    | agg xs =>
      obtain ⟨vs, e, h1⟩ := hv
      obtain ⟨h2, h3⟩ := outs1_ok hF hm O (mk := mk) h h1 hpre hus
      exact ⟨⟨vs, e, h2⟩, h3⟩
  | ptr t => cases y <;> cases h
  | skip => cases y <;> cases h

theorem Oout_ok (hF : Fits P G.U G.ti) (hm : MR G.U B S ι m w) (O : Out G.U B ι m w src us ιT mT) : ∀ {ss : List AS} {ws : List (W G.U.El)} {x : Os G.U.El ss} {vs : List Value} {mk : List (Blk G.U.El)}, Oout m ss ws = some x → WsR G.U B ι m w ws vs →
    (∃ p q, src = p ++ (srcsOf ss ws ++ q) ∧ p.length = mk.length) → (∀ i, i ∈ usesOf ss ws → i ∈ us) → WsR G.U B ιT mT w (encOs true ss x mk).1 vs ∧ (encOs true ss x mk).2.length = mk.length + (srcsOf ss ws).length
  | [], [], _, _, _, _, hc, _, _ => ⟨hc, rfl⟩
  | [s], [y], x, vs, mk, h, ⟨v, r, e, h1, h2⟩, hp, hus => by
    have hs : srcsOf [s] [y] = s.srcs y := by simp [srcsOf]
    rw [hs] at hp ⊢
    obtain ⟨h5, h6⟩ := ASout_ok hF hm O (s := s) (mk := mk) h h1 hp (fun i hi => hus i (List.mem_append_left _ hi))
    exact ⟨⟨v, r, e, h5, h2⟩, h6⟩
  | s :: s' :: ss, y :: ys, x, vs, mk, h, ⟨v, r, e, h1, h2⟩, ⟨p, q, hp, hpl⟩, hus => by
    change ((s.out m y).bind fun x => (Oout m (s' :: ss) ys).bind fun y => some (x, y)) = some x at h
    obtain ⟨a, h3, h⟩ := Option.bind_eq_some_iff.1 h
    obtain ⟨b, h4, h⟩ := Option.bind_eq_some_iff.1 h
    cases h
    obtain ⟨h5, h6⟩ := ASout_ok hF hm O (s := s) (mk := mk) h3 h1 ⟨p, srcsOf (s' :: ss) ys ++ q, by rw [hp, srcsOf, List.append_assoc], hpl⟩ (fun i hi => hus i (List.mem_append_left _ hi))
    obtain ⟨h7, h8⟩ := Oout_ok hF hm O (mk := (encO true s a mk).2) h4 h2 ⟨p ++ s.srcs y, q, by rw [hp, srcsOf]; simp, by rw [h6, List.length_append, hpl]⟩ (fun i hi => hus i (List.mem_append_right _ hi))
    exact ⟨⟨v, r, e, h5, h7⟩, by simp only [encOs, srcsOf, List.length_append]; rw [h8, h6]; omega⟩
  | [], _ :: _, _, _, _, h, _, _, _ => by cases h
  | [_], [], _, _, _, h, _, _, _ => by cases h
  | [_], _ :: _ :: _, _, _, _, h, _, _, _ => by cases h
  | _ :: _ :: _, [], _, _, _, h, _, _, _ => by cases h

/-- The blocks that are handed out, by what they hold. -/
def NewOk {El : Nat → Type} (m mk M : List (Blk El)) (src : List (Option Nat)) : Prop :=
  M.length = mk.length + src.length ∧ mk <+: M ∧ ∀ i b, M[mk.length + i]? = some b → ∃ t l, b = .da t l ∧ ((∃ a, src[i]? = some (some a) ∧ m[a]? = some (.da t l)) ∨ (src[i]? = some none ∧ l = []))

theorem NewOk.refl {El : Nat → Type} {m mk : List (Blk El)} : NewOk m mk mk [] := ⟨rfl, List.prefix_refl _, fun i b h => by simp at h⟩

theorem NewOk.trans {El : Nat → Type} {m mk M1 M2 : List (Blk El)} {s1 s2 : List (Option Nat)} (h : NewOk m mk M1 s1) (k : NewOk m M1 M2 s2) : NewOk m mk M2 (s1 ++ s2) := by
  obtain ⟨h1, h2, h3⟩ := h
  obtain ⟨k1, k2, k3⟩ := k
  refine ⟨by rw [k1, h1, List.length_append]; omega, h2.trans k2, fun i b hb => ?_⟩
  by_cases hi : i < s1.length
  · obtain ⟨q, rfl⟩ := k2
    rw [List.getElem?_append_left (by omega)] at hb
    obtain ⟨t, l, e, h4⟩ := h3 i b hb
    refine ⟨t, l, e, ?_⟩
    rw [List.getElem?_append_left hi]
    exact h4
  · have : mk.length + i = M1.length + (i - s1.length) := by omega
    rw [this] at hb
    obtain ⟨t, l, e, h4⟩ := k3 _ b hb
    refine ⟨t, l, e, ?_⟩
    rw [List.getElem?_append_right (by omega)]
    exact h4

theorem rowOf_sc {El : Nat → Type} {m : List (Blk El)} {t : Nat} {v : Value} {l : List (El t)} (h : rowOf m t (.sc v) = some l) : l = [] := by
  simp only [rowOf] at h
  split at h <;> simp_all

theorem out1_new {El : Nat → Type} {m mk : List (Blk El)} {s : S1} {c : C El} {x : s.T El} (h : s.out m c = some x) : NewOk m mk (enc1 true s x mk).2 (s.srcs c) := by
  cases s with
  | sl t =>
    have h' : (if c.own then rowOf m t c else none) = some (x : List (El t)) := h
    split at h'
    case isFalse => cases h'
    rename_i ho
    refine ⟨by simp [enc1, S1.srcs], by simp [enc1], fun i b hb => ?_⟩
    have hi : i = 0 ∧ b = .da t x := by
      have hlt := (List.getElem?_eq_some_iff.1 hb).1
      simp [enc1] at hlt
      subst hlt
      exact ⟨rfl, by simpa [enc1] using hb.symm⟩
    obtain ⟨rfl, rfl⟩ := hi
    refine ⟨t, x, rfl, ?_⟩
    cases c with
    | sl id =>
      simp only [rowOf] at h'
      split at h'
      · rename_i t' l' hm
        split at h'
        · rename_i e
          subst e
          cases h'
          exact .inl ⟨id, rfl, hm⟩
        · cases h'
      · cases h'
    | sc v =>
      exact .inr ⟨rfl, rowOf_sc (l := x) h'⟩
    | _ => cases ho
  | _ => exact NewOk.refl

theorem outs1_new {El : Nat → Type} {m : List (Blk El)} : ∀ {ss : List S1} {cs : List (C El)} {x : Ts El ss} {mk : List (Blk El)}, outs1 m ss cs = some x → NewOk m mk (enc2 true ss x mk).2 (srcs1 ss cs)
  | [], [], _, _, _ => NewOk.refl
  | [], _ :: _, _, _, h => by simp [outs1] at h
  | _ :: _, [], _, _, h => by simp [outs1] at h
  | s :: ss, c :: cs, x, mk, h => by
    simp only [outs1] at h
    obtain ⟨y, h3, h⟩ := Option.bind_eq_some_iff.1 h
    obtain ⟨z, h4, h⟩ := Option.bind_eq_some_iff.1 h
    cases h
    exact (out1_new h3).trans (outs1_new h4)

theorem ASout_new {El : Nat → Type} {m mk : List (Blk El)} {s : AS} {y : W El} {x : s.T El} (h : s.out m y = some x) : NewOk m mk (encO true s x mk).2 (s.srcs y) := by
  cases s with
  | c s => cases y with
    | agg => cases h
    | c c => exact out1_new h
  | agg ss => cases y with
    | c => cases h
    | agg xs => exact outs1_new h
  | ptr t => cases y <;> cases h
  | skip => cases y <;> cases h

theorem Oout_new {El : Nat → Type} {m : List (Blk El)} : ∀ {ss : List AS} {ws : List (W El)} {x : Os El ss} {mk : List (Blk El)}, Oout m ss ws = some x → NewOk m mk (encOs true ss x mk).2 (srcsOf ss ws)
  | [], [], _, _, _ => NewOk.refl
  | [s], [y], x, mk, h => by
    have hs : srcsOf [s] [y] = s.srcs y := by simp [srcsOf]
    rw [hs]
    exact ASout_new h
  | s :: s' :: ss, y :: ys, x, mk, h => by
    change ((s.out m y).bind fun x => (Oout m (s' :: ss) ys).bind fun y => some (x, y)) = some x at h
    obtain ⟨a, h3, h⟩ := Option.bind_eq_some_iff.1 h
    obtain ⟨b, h4, h⟩ := Option.bind_eq_some_iff.1 h
    cases h
    exact (ASout_new h3).trans (Oout_new h4)
  | [], _ :: _, _, _, h => by cases h
  | [_], [], _, _, h => by cases h
  | [_], _ :: _ :: _, _, _, h => by cases h
  | _ :: _ :: _, [], _, _, h => by cases h

theorem VsR.get {xs : List (V G.U.El)} {vs : List Value} (h : VsR G.U B ι m w xs vs) : xs.length = vs.length ∧ ∀ i, i < xs.length → VR G.U B ι m w (xs.getD i .und) (vs.getD i undef) := by
  induction xs generalizing vs with
  | nil => cases h; exact ⟨rfl, fun i hi => by simp at hi⟩
  | cons x xs ih =>
    obtain ⟨v, r, rfl, h1, h2⟩ := h
    obtain ⟨h3, h4⟩ := ih h2
    refine ⟨by simp [h3], fun i hi => ?_⟩
    cases i with
    | zero => exact h1
    | succ i => simpa using h4 i (by simpa using hi)

theorem start_SR {ins : List AS} {x : ASs G.U.El ins} {vs : List Value} (h : VsR G.U w.heap.size (fun _ => undef) [] w (ASenc ins x) vs) (hl : vs.length ≤ G.ntmps) :
    SR G.U G.ntmps w (startOf G ins x) { tmps := vs.toArray ++ Array.replicate (G.ntmps - vs.toArray.size) undef, defers := [] } w := by
  obtain ⟨h1, h2⟩ := VsR.get h
  refine ⟨fun _ => undef, fun t => ?_, by simp; omega, rfl, ⟨fun id b h => by simp [startOf] at h, fun i j b b' k h => by simp [startOf] at h, fun id b k h => by simp [startOf] at h⟩, Fr.refl _ _⟩
  by_cases ht : t < (ASenc ins x).length
  · have := h2 t ht
    have e : (vs.toArray ++ Array.replicate (G.ntmps - vs.toArray.size) undef).getD t undef = vs.getD t undef := by
      simp only [Array.getD_eq_getD_getElem?]
      rw [Array.getElem?_append_left (by simp; omega)]
      simp
    rw [e]
    exact this
  · have e1 : (startOf G ins x).env t = .und := by simp [startOf, Nat.not_lt.1 ht]
    have e2 : (vs.toArray ++ Array.replicate (G.ntmps - vs.toArray.size) undef).getD t undef = undef := by
      simp only [Array.getD_eq_getD_getElem?]
      rw [Array.getElem?_append_right (by simp; omega), Array.getElem?_replicate]
      split <;> rfl
    rw [e1, e2]
    rfl

def resF (a : Act) : ResultVar → Sem Value
  | .tmp t => pure (a.tmps.getD t undef)
  | .cell p t => do loadVar t (← asAddr (a.tmps.getD p undef))

theorem res_ok (hF : Fits P G.U G.ti) {σ : St G.U.El} {a : Act} (hE : ER G.U B ι σ.mem w σ.env a) (hm : MR G.U B S ι σ.mem w) : ∀ {rs : List ResultVar} {ws : List (W G.U.El)}, resOf G rs σ = some ws →
    ∃ vs : List Value, (List.mapM (resF a) rs).run P w = Result.ok vs w ∧ WsR G.U B ι σ.mem w ws vs
  | [], ws, h => by
    cases h
    exact ⟨[], by simp, rfl⟩
  | .tmp t :: rs, ws, h => by
    simp only [resOf] at h
    split at h
    · rename_i x hx
      obtain ⟨ws', h1, rfl⟩ := Option.map_eq_some_iff.1 h
      obtain ⟨vs, h2, h3⟩ := res_ok hF hE hm h1
      have hv := hE t
      rw [hx] at hv
      refine ⟨a.tmps.getD t undef :: vs, ?_, _, vs, rfl, hv, h3⟩
      rw [List.mapM_cons]
      simp only [resF, Sem.run_bind, Sem.run_pure, Result.andThen_ok, h2]
    · cases h
  | .cell p t :: rs, ws, h => by
    simp only [resOf] at h
    obtain ⟨x, h0, h⟩ := Option.bind_eq_some_iff.1 h
    obtain ⟨ws', h1, rfl⟩ := Option.map_eq_some_iff.1 h
    obtain ⟨vs, h2, h3⟩ := res_ok hF hE hm h1
    obtain ⟨y, u, h4, h5, h6⟩ := aLoad_ok (P := P) hF hm (hE p) h0
    cases h5
    have h7 : (resF a (.cell p t)).run P w = .ok u w := by
      simp only [resF]
      cases hp : a.tmps.getD p undef with
      | pointer q =>
        rw [hp] at h4
        cases q with
        | some q => simpa [Instr.loadAt, Instr.sureAddr, asAddr] using h4
        | none => simp [Instr.loadAt, Instr.sureAddr, stuck, Sem.run, Result.andThen] at h4
      | _ => rw [hp] at h4; simp [Instr.loadAt, Instr.sureAddr, stuck, Sem.run, Result.andThen] at h4
    refine ⟨u :: vs, ?_, u, vs, rfl, h6, h3⟩
    rw [List.mapM_cons]
    simp only [Sem.run_bind, Sem.run_pure, Result.andThen_ok, h2, h7]

theorem results_run {fn : Func} {a : Act} {vs : List Value} (h : (List.mapM (resF a) fn.results.toList).run P w = .ok vs w) : (results fn a.tmps).run P w = .ok (if h : vs.length = 1 then vs[0] else .tuple vs.toArray) w := by
  have e : results fn a.tmps = (do let vs ← Array.mapM (resF a) fn.results; pure (if h : vs.size = 1 then vs[0] else .tuple vs)) := by
    unfold results
    congr 1
  rw [e, Array.mapM_eq_mapM_toList]
  simp [h]

theorem resV_single {ws : List (W G.U.El)} {vs : List Value} (h : WsR G.U B ι m w ws vs) : VR G.U B ι m w (resV ws) (if h : vs.length = 1 then vs[0] else .tuple vs.toArray) := by
  match ws, h with
  | [], h => cases h; exact ⟨[], rfl, rfl⟩
  | [x], ⟨v, r, e, h1, h2⟩ =>
    have hr : r = [] := h2
    subst hr
    subst e
    exact h1
  | x :: x' :: xs, ⟨v, r, e, h1, v', r', e', h2, h3⟩ =>
    subst e'
    subst e
    rw [dif_neg (by simp)]
    exact ⟨_, rfl, v, _, rfl, h1, v', r', rfl, h2, h3⟩

/-- What a function's end hands out. -/
theorem end_ok (hF : Fits P G.U G.ti) {w0 : World} {fn : Func} {outs : List AS} {y : Os G.U.El outs} {σ : St G.U.El} {a : Act} {n : Nat} {e : Ex} (hσ : SR G.U G.ntmps w0 σ a w) (h : kEnd G fn outs n e σ = some y) :
    (∀ i, e ≠ .exit i) ∧ a.defers = [] ∧ ∃ v, (results fn a.tmps).run P w = .ok v w ∧ Ended G.U outs y w0 w v := by
  have hne : ∀ i, e ≠ .exit i := by rintro i rfl; cases h
  have h' : ((resOf G fn.results.toList σ).bind fun vs => if handsOk (srcsOf outs vs) (usesOf outs vs) then Oout σ.mem outs vs else none) = some y := by
    cases e with
    | exit i => exact absurd rfl (hne i)
    | normal => exact h
    | ret => exact h
  obtain ⟨ι, hE, hN, hD, hM, hFr⟩ := hσ
  obtain ⟨ws, h1, h2⟩ := Option.bind_eq_some_iff.1 h'
  split at h2
  case isFalse => cases h2
  rename_i hh
  obtain ⟨vs, h3, h4⟩ := res_ok hF hE hM h1
  refine ⟨hne, hD, _, results_run h3, hFr, ?_⟩
  obtain ⟨hlen, _, hnew⟩ := Oout_new (mk := []) h2
  simp only [List.length_nil, Nat.zero_add] at hlen hnew
  simp only [handsOk, Bool.and_eq_true, decide_eq_true_eq, List.all_eq_true, Bool.not_eq_true'] at hh
  obtain ⟨hnd, hus⟩ := hh
  generalize hsrc : srcsOf outs ws = src at *
  let ιT : Nat → Value := fun i => match src[i]? with
    | some (some a) => ι a
    | _ => .slice none 0 0
  have own : ∀ id b k, (encOs true outs y []).2[id]? = some b → ownOf (ιT id) = some k → ∃ a b', src[id]? = some (some a) ∧ σ.mem[a]? = some b' ∧ b'.live ∧ ownOf (ι a) = some k := by
    intro id b k hb hk
    obtain ⟨t, l, rfl, ⟨a, e1, e2⟩ | ⟨e1, _⟩⟩ := hnew id b hb
    · exact ⟨a, _, e1, e2, trivial, by simpa [ιT, e1] using hk⟩
    · simp [ιT, e1, ownOf] at hk
  have O : Out G.U w0.heap.size ι σ.mem w src (usesOf outs ws) ιT (encOs true outs y []).2 := by
    refine ⟨hlen, fun i a h => by simp [ιT, h], fun i h => by simp [ιT, h], ?_, ?_, hM.inS, hM.inj, own⟩
    · intro b hf id q hq hl hk
      obtain ⟨a, b', _, e2, e3, e4⟩ := own id q b hq hk
      exact hf a b' e2 e3 e4
    · intro i hi hmem
      have := hus i hi
      rw [List.contains_iff_mem.2 hmem] at this
      cases this
  obtain ⟨h5, _⟩ := Oout_ok hF hM O (mk := []) h2 h4 ⟨[], [], by simp [hsrc], rfl⟩ (fun i hi => hi)
  refine ⟨ιT, resV_single h5, ⟨fun id b hb => ?_, ?_, ?_⟩⟩
  · obtain ⟨t, l, rfl, ⟨a, e1, e2⟩ | ⟨e1, rfl⟩⟩ := hnew id b hb
    · have := hM.blk _ _ e2
      simp only [BR] at this ⊢
      rw [O.is _ _ e1]
      exact this
    · simp only [BR]
      rw [O.no _ e1]
      simpa [flat] using World.ownsRow_nil w 0 t (G.U.sz t)
  · intro i j b b' k hi hj hl hl' hk hk'
    obtain ⟨a, q, e1, e2, e3, e4⟩ := own i b k hi hk
    obtain ⟨a', q', e1', e2', e3', e4'⟩ := own j b' k hj hk'
    have haa := hM.inj a a' q q' k e2 e2' e3 e3' e4 e4'
    subst haa
    -- the same source twice
    have key : ∀ (l : List (Option Nat)) (i j : Nat), (l.filterMap id).Nodup → l[i]? = some (some a) → l[j]? = some (some a) → i = j := by
      intro l
      induction l with
      | nil => intro i j _ h; simp at h
      | cons p l ih =>
        intro i j hn h1 h2
        have hmem : ∀ k, l[k]? = some (some a) → a ∈ l.filterMap id := fun k hk => List.mem_filterMap.2 ⟨some a, List.mem_of_getElem? hk, rfl⟩
        cases i with
        | zero =>
          simp at h1
          subst h1
          rw [List.filterMap_cons_some (f := id) (b := a) rfl] at hn
          cases j with
          | zero => rfl
          | succ j => exact absurd (hmem j (by simpa using h2)) (List.nodup_cons.1 hn).1
        | succ i =>
          cases j with
          | zero =>
            simp at h2
            subst h2
            rw [List.filterMap_cons_some (f := id) (b := a) rfl] at hn
            exact absurd (hmem i (by simpa using h1)) (List.nodup_cons.1 hn).1
          | succ j =>
            have hn' : (l.filterMap id).Nodup := by
              cases p with
              | none => rwa [List.filterMap_cons_none (f := id) rfl] at hn
              | some q => rw [List.filterMap_cons_some (f := id) (b := q) rfl] at hn; exact (List.nodup_cons.1 hn).2
            rw [ih i j hn' (by simpa using h1) (by simpa using h2)]
    exact key src i j hnd e1 e1'
  · intro id b k hb hl hk
    obtain ⟨a, q, e1, e2, e3, e4⟩ := own id b k hb hk
    exact hM.inS a q k e2 e3 e4

/-- A function does what its evaluation says. -/
theorem aFun_ok (hF : Fits P G.U G.ti) {con : Nat → Nat → Option (Con G.U.El)} (hcon : ∀ n f c, con n f = some c → ConOk P G.U f c) {f : Nat} {fn : Func} (hf : P.funcs[f]? = some fn) {c : Code} (hb : fn.body = some c) (hname : (fn.name == "runtime.NumGoroutine") = false)
    (hn : G.ntmps = fn.ntmps) {ins outs : List AS} (hl : ins.length ≤ G.ntmps) {L : Nat → Option (LoopC G.U.El (Os G.U.El outs))} (hL : loopsOk G con L c 0 (kEnd G fn outs)) {plain : Nat → ASs G.U.El ins → Option (Os G.U.El outs)}
    (hp : ∀ n x y, plain n x = some y → aev G con L c 0 n (startOf G ins x) (kEnd G fn outs) = some y) : ConOk P G.U f ⟨ins, outs, plain⟩ := by
  refine ⟨⟨fn, hf, hname, by simp [hb]⟩, fun n x y hy vs w hv => ?_⟩
  have hlen : (ASenc ins x).length = ins.length := by
    have : ∀ (ss : List AS) (x : ASs G.U.El ss), (ASenc ss x).length = ss.length := by
      intro ss
      induction ss with
      | nil => intro x; rfl
      | cons s ss ih => rintro ⟨x, y⟩; simp [ASenc, ih]
    exact this ins x
  have hlv : (ASenc ins x).length = vs.length := (VsR.get hv).1
  have hs := start_SR hv (by omega)
  refine calls_of_wp hf hb ?_
  rw [← hn]
  refine aev_ok hF hcon c 0 n _ _ _ _ _ hL (hp n x y hy) hs ?_
  intro n' _ e σ a w' h1 h2
  obtain ⟨h3, h4, v, h5, h6⟩ := end_ok hF h2 h1
  cases e with
  | exit i => exact absurd rfl (h3 i)
  | normal => exact ⟨h4, v, h5, v, rfl, h6⟩
  | ret => exact ⟨h4, v, h5, v, rfl, h6⟩
end
end Go.Proofs.Ytigoabhkdipdeaa.AM
