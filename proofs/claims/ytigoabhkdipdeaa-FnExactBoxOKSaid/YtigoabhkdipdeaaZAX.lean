/- A part of the plain reading of Go's code: what a function's code comes to, by a plain function. No condition. -/
import Derived.Test.YtigoabhkdipdeaaZAW
namespace Go.Proofs.Ytigoabhkdipdeaa.AM
open Go.RowKit
variable {ρ : Type}

section
variable {El : Nat → Type}
theorem enc1_true (s : S1) (x : s.T El) (m mk : List (Blk El)) : (enc1 true s x (m ++ mk)).2 = m ++ (enc1 true s x mk).2 := by
  cases s <;> simp [enc1]
theorem enc2_true : ∀ (ss : List S1) (x : Ts El ss) (m mk : List (Blk El)), (enc2 true ss x (m ++ mk)).2 = m ++ (enc2 true ss x mk).2
  | [], _, _, _ => rfl
  | s :: ss, (x, y), m, mk => by simp only [enc2]; rw [enc1_true, enc2_true]
theorem encO_true : ∀ (s : AS) (x : s.T El) (m mk : List (Blk El)), (encO true s x (m ++ mk)).2 = m ++ (encO true s x mk).2
  | .c s, x, m, mk => enc1_true s x m mk
  | .agg ss, x, m, mk => enc2_true ss x m mk
  | .ptr _, _, _, _ => rfl
  | .skip, _, _, _ => rfl
theorem encOs_true : ∀ (ss : List AS) (x : Os El ss) (m mk : List (Blk El)), (encOs true ss x (m ++ mk)).2 = m ++ (encOs true ss x mk).2
  | [], _, _, _ => rfl
  | [s], x, m, mk => encO_true s x m mk
  | s :: s' :: ss, (x, y), m, mk => by simp only [encOs]; rw [encO_true, encOs_true]

theorem enc1_false (s : S1) (x : s.T El) (m : List (Blk El)) : (enc1 false s x m).2 = m := by cases s <;> rfl
theorem enc2_false : ∀ (ss : List S1) (x : Ts El ss) (m : List (Blk El)), (enc2 false ss x m).2 = m
  | [], _, _ => rfl
  | s :: ss, (x, y), m => by simp only [enc2]; rw [enc1_false, enc2_false]
theorem encO_false : ∀ (s : AS) (x : s.T El) (m : List (Blk El)), (encO false s x m).2 = m
  | .c s, x, m => enc1_false s x m
  | .agg ss, x, m => enc2_false ss x m
  | .ptr _, _, _ => rfl
  | .skip, _, _ => rfl
theorem encOs_false : ∀ (ss : List AS) (x : Os El ss) (m : List (Blk El)), (encOs false ss x m).2 = m
  | [], _, _ => rfl
  | [s], x, m => encO_false s x m
  | s :: s' :: ss, (x, y), m => by simp only [encOs]; rw [encO_false, encOs_false]

theorem enc1_pre (s : S1) (x : s.T El) (m : List (Blk El)) : m <+: (enc1 true s x m).2 := by
  cases s <;> simp [enc1]
theorem enc2_pre : ∀ (ss : List S1) (x : Ts El ss) (m : List (Blk El)), m <+: (enc2 true ss x m).2
  | [], _, _ => List.prefix_refl _
  | s :: ss, (x, y), m => (enc1_pre s x m).trans (enc2_pre ss y _)
theorem encO_pre : ∀ (s : AS) (x : s.T El) (m : List (Blk El)), m <+: (encO true s x m).2
  | .c s, x, m => enc1_pre s x m
  | .agg ss, x, m => enc2_pre ss x m
  | .ptr _, _, _ => List.prefix_refl _
  | .skip, _, _ => List.prefix_refl _
theorem encOs_pre : ∀ (ss : List AS) (x : Os El ss) (m : List (Blk El)), m <+: (encOs true ss x m).2
  | [], _, _ => List.prefix_refl _
  | [s], x, m => encO_pre s x m
  | s :: s' :: ss, (x, y), m => (encO_pre s x m).trans (encOs_pre (s' :: ss) y _)

def AllDa (m : List (Blk El)) : Prop := ∀ b ∈ m, ∃ t l, b = .da t l
theorem enc1_da (s : S1) (x : s.T El) (m : List (Blk El)) (h : AllDa m) : AllDa (enc1 true s x m).2 := by
  cases s <;> simp only [enc1, if_true] <;> first | exact h | skip
  intro b hb
  rcases List.mem_append.1 hb with hb | hb
  · exact h b hb
  · exact ⟨_, _, List.mem_singleton.1 hb⟩
theorem enc2_da : ∀ (ss : List S1) (x : Ts El ss) (m : List (Blk El)), AllDa m → AllDa (enc2 true ss x m).2
  | [], _, _, h => h
  | s :: ss, (x, y), m, h => enc2_da ss y _ (enc1_da s x m h)
theorem encO_da : ∀ (s : AS) (x : s.T El) (m : List (Blk El)), AllDa m → AllDa (encO true s x m).2
  | .c s, x, m, h => enc1_da s x m h
  | .agg ss, x, m, h => enc2_da ss x m h
  | .ptr _, _, _, h => h
  | .skip, _, _, h => h
theorem encOs_da : ∀ (ss : List AS) (x : Os El ss) (m : List (Blk El)), AllDa m → AllDa (encOs true ss x m).2
  | [], _, _, h => h
  | [s], x, m, h => encO_da s x m h
  | s :: s' :: ss, (x, y), m, h => encOs_da (s' :: ss) y _ (encO_da s x m h)
end

section
variable {U : Univ} {B N : Nat} {ι ιc ι' : Nat → Value} {m mT m' : List (Blk U.El)} {w' : World}

/-- What is handed over: the call's side (ιc, mT) and the caller's (ι', m'). -/
structure Hand (U : Univ) (B N : Nat) (ιc : Nat → Value) (mT : List (Blk U.El)) (ι' : Nat → Value) (m' : List (Blk U.El)) (w' : World) : Prop where
  B : B ≤ N
  far : ∀ b, N ≤ b → Far U ιc mT b → Far U ι' m' b
  blk : ∀ id t l, mT[id]? = some (.da t l) → w'.ownsRow 0 t (U.sz t) (ιc id) l.length (flat U t l)
  inS : ∀ id b k, mT[id]? = some b → b.live → ownOf (ιc id) = some k → N ≤ k

theorem Hand.rd (H : Hand U B N ιc mT ι' m' w') {A : Option Addr} {cs : List Value} (h : RD U N ιc mT w' true A cs) : RD U B ι' m' w' true A cs := fun j v hv =>
  let ⟨b, o, h1, h2, h3, h4⟩ := h j v hv
  ⟨b, o, h1, h2, H.far b (h4 rfl) h3, fun _ => Nat.le_trans H.B (h4 rfl)⟩

theorem enc1_own (H : Hand U B N ιc mT ι' m' w') (hlen : m'.length = m.length + mT.length) (hι : ∀ id, ι' (m.length + id) = ιc id) (s : S1) (x : s.T U.El) (mk : List (Blk U.El)) {vs : List Value}
    (h : CW U N ιc mT w' (enc1 true s x mk).1 vs) : CW U B ι' m' w' (enc1 true s x (m ++ mk)).1 vs := by
  cases s with
  | sl t =>
    obtain ⟨v, e, h1, h2, h3⟩ := h
    exact ⟨v, e, by simp only [List.length_append]; omega, by rw [List.length_append, hι]; exact h2, h3⟩
  | row t =>
    obtain ⟨v, e, A, cap, h1, h2, h3, h4⟩ := h
    exact ⟨v, e, A, cap, h1, h2, H.rd h3, h4⟩
  | _ => exact h

theorem enc1_view (H : Hand U B N ιc mT ι' m' w') (hfar : ∀ b, N ≤ b → Far U ι' m' b) (s : S1) (x : s.T U.El) (mk mq : List (Blk U.El)) (hp : (enc1 true s x mk).2 <+: mT) {vs : List Value}
    (h : CW U N ιc mT w' (enc1 true s x mk).1 vs) : CW U B ι' m' w' (enc1 false s x mq).1 vs := by
  cases s with
  | sl t =>
    obtain ⟨v, e, h1, h2, h3⟩ := h
    have hb : mT[mk.length]? = some (.da t x) := by
      obtain ⟨r, hr⟩ := hp
      rw [← hr]
      simp [enc1]
    have ho := H.blk _ _ _ hb
    rw [← h2] at ho
    refine ⟨v, e, ?_⟩
    rcases ho.2 with ⟨h4, h5⟩ | ⟨g, cap, cur, h4, _, _, h5, _⟩
    · have hx : x = [] := List.eq_nil_of_length_eq_zero h5
      subst hx
      exact ⟨none, 0, h4, Nat.le_refl _, fun j u hu => by simp [flat] at hu, fun h => by cases h⟩
    · have hg : N ≤ g := H.inS _ _ g hb trivial (by rw [← h2, h4]; rfl)
      refine ⟨some ⟨g, 0, none⟩, cap, h4, h5, fun j u hu => ⟨g, 0, rfl, ?_, hfar g hg, fun _ => Nat.le_trans H.B hg⟩, fun h => by cases h⟩
      rw [h4] at ho
      have hlt := (List.getElem?_eq_some_iff.1 hu).1
      have hl := ho.1
      rw [Nat.zero_add, World.ownsRow.cellAt ho j (by rw [← hl]; exact hlt), hu]
  | row t =>
    obtain ⟨v, e, A, cap, h1, h2, h3, h4⟩ := h
    exact ⟨v, e, A, cap, h1, h2, H.rd h3, h4⟩
  | _ => exact h

theorem enc2_own (H : Hand U B N ιc mT ι' m' w') (hlen : m'.length = m.length + mT.length) (hι : ∀ id, ι' (m.length + id) = ιc id) : ∀ (ss : List S1) (x : Ts U.El ss) (mk : List (Blk U.El)) {vs : List Value},
    CsR U N ιc mT w' (enc2 true ss x mk).1 vs → CsR U B ι' m' w' (enc2 true ss x (m ++ mk)).1 vs
  | [], _, _, _, h => h
  | s :: ss, (x, y), mk, vs, ⟨a, r, e, h1, h2⟩ => ⟨a, r, e, enc1_own H hlen hι s x mk h1, by
      show CsR U B ι' m' w' (enc2 true ss y (enc1 true s x (m ++ mk)).2).1 r
      rw [enc1_true]
      exact enc2_own H hlen hι ss y _ h2⟩

theorem enc2_view (H : Hand U B N ιc mT ι' m' w') (hfar : ∀ b, N ≤ b → Far U ι' m' b) : ∀ (ss : List S1) (x : Ts U.El ss) (mk mq : List (Blk U.El)) {vs : List Value}, (enc2 true ss x mk).2 <+: mT →
    CsR U N ιc mT w' (enc2 true ss x mk).1 vs → CsR U B ι' m' w' (enc2 false ss x mq).1 vs
  | [], _, _, _, _, _, h => h
  | s :: ss, (x, y), mk, mq, vs, hp, ⟨a, r, e, h1, h2⟩ => ⟨a, r, e, enc1_view H hfar s x mk mq ((enc2_pre ss y _).trans hp) h1, enc2_view H hfar ss y _ _ hp h2⟩

theorem CR.of_cw {U : Univ} {B : Nat} {ι : Nat → Value} {m : List (Blk U.El)} {w : World} {c : C U.El} {v : Value} (hne : ∀ t n l, c ≠ .arr t n l) (h : CW U B ι m w c [v]) : CR U B ι m w c v := by
  obtain ⟨u, e, hu⟩ := CsR.single hne (vs := [v]) ⟨[v], [], rfl, h, rfl⟩
  cases e
  exact hu

theorem enc1_ne (own : Bool) (s : S1) (x : s.T U.El) (mk : List (Blk U.El)) (hs : ∀ t n, s ≠ .arr t n) : ∀ t n l, (enc1 own s x mk).1 ≠ .arr t n l := by
  cases s <;> cases own <;> simp_all [enc1, S1.enc]

theorem encO_own (H : Hand U B N ιc mT ι' m' w') (hlen : m'.length = m.length + mT.length) (hι : ∀ id, ι' (m.length + id) = ιc id) (s : AS) (x : s.T U.El) (mk : List (Blk U.El)) {v : Value}
    (h : WR U N ιc mT w' (encO true s x mk).1 v) : WR U B ι' m' w' (encO true s x (m ++ mk)).1 v := by
  cases s with
  | c s =>
    have h0 : CR U N ιc mT w' (enc1 true s x mk).1 v := h
    by_cases hs : ∃ t n, s = .arr t n
    · obtain ⟨t, n, rfl⟩ := hs
      exact h0.elim
    · have hs' : ∀ t n, s ≠ .arr t n := fun t n e => hs ⟨t, n, e⟩
      exact CR.of_cw (enc1_ne true s x _ hs') (enc1_own H hlen hι s x mk h0.cw)
  | agg ss =>
    obtain ⟨vs, e, h1⟩ := h
    exact ⟨vs, e, enc2_own H hlen hι ss x mk h1⟩
  | ptr t => exact h
  | skip => exact h

theorem encO_view (H : Hand U B N ιc mT ι' m' w') (hfar : ∀ b, N ≤ b → Far U ι' m' b) (s : AS) (x : s.T U.El) (mk mq : List (Blk U.El)) (hp : (encO true s x mk).2 <+: mT) {v : Value}
    (h : WR U N ιc mT w' (encO true s x mk).1 v) : WR U B ι' m' w' (encO false s x mq).1 v := by
  cases s with
  | c s =>
    have h0 : CR U N ιc mT w' (enc1 true s x mk).1 v := h
    by_cases hs : ∃ t n, s = .arr t n
    · obtain ⟨t, n, rfl⟩ := hs
      exact h0.elim
    · have hs' : ∀ t n, s ≠ .arr t n := fun t n e => hs ⟨t, n, e⟩
      exact CR.of_cw (enc1_ne false s x _ hs') (enc1_view H hfar s x mk mq hp h0.cw)
  | agg ss =>
    obtain ⟨vs, e, h1⟩ := h
    exact ⟨vs, e, enc2_view H hfar ss x mk mq hp h1⟩
  | ptr t => exact h
  | skip => exact h

theorem encOs_own (H : Hand U B N ιc mT ι' m' w') (hlen : m'.length = m.length + mT.length) (hι : ∀ id, ι' (m.length + id) = ιc id) : ∀ (ss : List AS) (x : Os U.El ss) (mk : List (Blk U.El)) {vs : List Value},
    WsR U N ιc mT w' (encOs true ss x mk).1 vs → WsR U B ι' m' w' (encOs true ss x (m ++ mk)).1 vs
  | [], _, _, _, h => h
  | [s], x, mk, vs, ⟨v, r, e, h1, h2⟩ => ⟨v, r, e, encO_own H hlen hι s x mk h1, h2⟩
  | s :: s' :: ss, (x, y), mk, vs, ⟨v, r, e, h1, h2⟩ => ⟨v, r, e, encO_own H hlen hι s x mk h1, by
      show WsR U B ι' m' w' (encOs true (s' :: ss) y (encO true s x (m ++ mk)).2).1 r
      rw [encO_true]
      exact encOs_own H hlen hι (s' :: ss) y _ h2⟩

theorem encOs_view (H : Hand U B N ιc mT ι' m' w') (hfar : ∀ b, N ≤ b → Far U ι' m' b) : ∀ (ss : List AS) (x : Os U.El ss) (mk mq : List (Blk U.El)) {vs : List Value}, (encOs true ss x mk).2 <+: mT →
    WsR U N ιc mT w' (encOs true ss x mk).1 vs → WsR U B ι' m' w' (encOs false ss x mq).1 vs
  | [], _, _, _, _, _, h => h
  | [s], x, mk, mq, vs, hp, ⟨v, r, e, h1, h2⟩ => ⟨v, r, e, encO_view H hfar s x mk mq hp h1, h2⟩
  | s :: s' :: ss, (x, y), mk, mq, vs, hp, ⟨v, r, e, h1, h2⟩ => ⟨v, r, e, encO_view H hfar s x mk mq ((encOs_pre (s' :: ss) y _).trans hp) h1, encOs_view H hfar (s' :: ss) y _ _ hp h2⟩

theorem resV_ok {U : Univ} {B : Nat} {ι : Nat → Value} {m : List (Blk U.El)} {w : World} {U' : Univ} {B' : Nat} {ι' : Nat → Value} {m' : List (Blk U.El)} {w' : World} {xs ys : List (W U.El)} {v : Value}
    (h : VR U B ι m w (resV xs) v) (hl : xs.length = ys.length) (hw : ∀ vs, WsR U B ι m w xs vs → WsR U B' ι' m' w' ys vs) : VR U B' ι' m' w' (resV ys) v := by
  match xs, ys, hl with
  | [], [], _ =>
    obtain ⟨vs, e, h1⟩ := h
    exact ⟨vs, e, hw vs h1⟩
  | [x], [y], _ =>
    obtain ⟨v', r, e, h1, h2⟩ := hw [v] ⟨v, [], rfl, h, rfl⟩
    cases e
    exact h1
  | x :: x' :: xs, y :: y' :: ys, _ =>
    obtain ⟨vs, e, h1⟩ := h
    exact ⟨vs, e, hw vs h1⟩

theorem encOs_len (own : Bool) : ∀ (ss : List AS) (x : Os U.El ss) (m : List (Blk U.El)), (encOs own ss x m).1.length = ss.length
  | [], _, _ => rfl
  | [_], _, _ => rfl
  | s :: s' :: ss, (x, y), m => by simp only [encOs, List.length_cons]; rw [encOs_len own (s' :: ss)]; rfl
end

section
variable {P : Program} {G : Cfg} {B : Nat} {S : Nat → Prop} {ι : Nat → Value} {m : List (Blk G.U.El)} {w w' : World}

/-- A call's end, at the caller. -/
theorem ended_ok (hm : MR G.U B S ι m w) (hS : ∀ k, w.heap.size ≤ k → S k) (hB : B ≤ w.heap.size) {outs : List AS} {y : Os G.U.El outs} {u : Value} (h : Ended G.U outs y w w' u) (own : Bool) :
    ∃ ι', VR G.U B ι' (encOs own outs y m).2 w' (resV (encOs own outs y m).1) u ∧ Grow G.U ι m w ι' (encOs own outs y m).2 w' ∧ MR G.U B S ι' (encOs own outs y m).2 w' ∧ Fr S w w' := by
  obtain ⟨hfr, ιc, hv, hmc⟩ := h
  have hda := encOs_da outs y [] (fun b hb => by cases hb)
  have hheap : ∀ k, k < w.heap.size → w'.heap[k]? = w.heap[k]? := fun k hk => hfr.block k hk (by omega)
  have hFr : Fr S w w' := ⟨hfr.os, hfr.tape, hfr.output, hfr.size, fun k hk _ => hheap k hk⟩
  have hold : ∀ b, w.heap.size ≤ b → Far G.U ι m b := fun b hb id q hq hl hk => by
    have := own_lt (hm.blk id q hq) hl hk
    omega
  cases own with
  | false =>
    rw [encOs_false]
    have hq := hm.quiet hfr.size hheap
    have H : Hand G.U B w.heap.size ιc (encOs true outs y []).2 ι m w' := ⟨hB, fun b hb _ => hold b hb, fun id t l hb => hmc.blk id _ hb, fun id b k hb hl hk => hmc.inS id b k hb hl hk⟩
    refine ⟨ι, ?_, hq.1, hq.2, hFr⟩
    exact resV_ok (U' := G.U) hv (by rw [encOs_len, encOs_len]) fun vs hvs => encOs_view H hold outs y [] m (List.prefix_refl _) hvs
  | true =>
    have hmem : (encOs true outs y m).2 = m ++ (encOs true outs y []).2 := by
      have := encOs_true outs y m []
      rwa [List.append_nil] at this
    generalize hmT : (encOs true outs y []).2 = mT at *
    let ι' : Nat → Value := fun id => if id < m.length then ι id else ιc (id - m.length)
    have hι : ∀ id, ι' (m.length + id) = ιc id := fun id => by simp [ι']; omega
    have hget : ∀ id b, (m ++ mT)[id]? = some b → m.length ≤ id → mT[id - m.length]? = some b := fun id b hb hle => by rwa [List.getElem?_append_right hle] at hb
    have hιi : ∀ id, m.length ≤ id → ι' id = ιc (id - m.length) := fun id h => by simp [ι', Nat.not_lt.2 h]
    have hup := hm.upd (m' := m ++ mT) (ι' := ι') (w' := w') (fun _ => False) (by simp) (fun id hi => by simp [ι', hi]) hfr.size (fun k hk _ => hheap k hk) (fun _ h => h.elim) (fun id => m.length ≤ id)
      (fun id b hb hl hn => by
        have hlt : id < m.length := by omega
        rw [List.getElem?_append_left hlt] at hb
        exact ⟨hlt, hb, fun _ _ h => h⟩)
      (fun id b k hb hl hn hk => by
        rw [hιi id hn] at hk
        have := hmc.inS _ b k (hget id b hb hn) hl hk
        exact ⟨.inr this, hS k this⟩)
      (fun i j b b' k hb hb' hl hl' hi hj hk hk' => by
        rw [hιi i hi] at hk
        rw [hιi j hj] at hk'
        have := hmc.inj _ _ b b' k (hget i b hb hi) (hget j b' hb' hj) hl hl' hk hk'
        omega)
      (fun _ id b hb hl hn => by
        have hb' := hget id b hb hn
        obtain ⟨t, l, rfl⟩ := hda b (List.mem_of_getElem? hb')
        have := hmc.blk _ _ hb'
        simp only [BR] at this ⊢
        rw [hιi id hn]
        exact this)
    have H : Hand G.U B w.heap.size ιc mT ι' (m ++ mT) w' := ⟨hB, fun b hb hf id q hq hl hk => by
        by_cases hn : m.length ≤ id
        · rw [hιi id hn] at hk
          exact hf _ q (hget id q hq hn) hl hk
        · have hlt : id < m.length := by omega
          rw [List.getElem?_append_left hlt] at hq
          simp only [ι', if_pos hlt] at hk
          exact hold b hb id q hq hl hk, fun id t l hb => hmc.blk id _ hb, fun id b k hb hl hk => hmc.inS id b k hb hl hk⟩
    refine ⟨ι', ?_, ?_, ?_, hFr⟩
    · refine resV_ok (U' := G.U) hv (by rw [encOs_len, encOs_len]) fun vs hvs => ?_
      have := encOs_own H (by simp) hι outs y [] hvs
      rw [List.append_nil] at this
      rw [hmem]
      exact this
    · rw [hmem]; exact hup.1
    · rw [hmem]; exact hup.2
end
end Go.Proofs.Ytigoabhkdipdeaa.AM
