/- A part of the plain reading of Go's code: what a function's code comes to, by a plain function. No condition. -/
import Derived.Test.YtigoabhkdipdeaaZAV
namespace Go.Proofs.Ytigoabhkdipdeaa.AM
open Go.RowKit
variable {ρ : Type}

section
variable {P : Program} {G : Cfg} {B : Nat} {S : Nat → Prop} {ι : Nat → Value} {m : List (Blk G.U.El)} {w : World}

theorem noFar (k : Nat) : Far G.U (fun _ => undef) [] k := fun id b h => by simp at h

theorem Rd.toRD {B' : Nat} {A : Option Addr} {cs : List Value} (h : Rd w A cs) : RD G.U B' (fun _ => undef) [] w false A cs := fun j v hv =>
  let ⟨b, o, h1, h2⟩ := h j v hv
  ⟨b, o, h1, h2, noFar b, fun h => by cases h⟩

theorem dec_int {El : Nat → Type} {k : IntKind} {c : C El} {x : Int} (h : C.int? k c = some x) : c = .sc (.int k x) := by
  unfold C.int? at h
  split at h
  · split at h
    · rename_i hk
      cases h
      rw [hk]
    · cases h
  · cases h
theorem dec_bool {El : Nat → Type} {c : C El} {x : Bool} (h : C.bool? c = some x) : c = .sc (.bool x) := by
  unfold C.bool? at h
  split at h
  · cases h; rfl
  · cases h
theorem dec_str {El : Nat → Type} {c : C El} {x : ByteArray} (h : C.str? c = some x) : c = .sc (.string x) := by
  unfold C.str? at h
  split at h
  · cases h; rfl
  · cases h
theorem dec_arr {El : Nat → Type} {t n : Nat} {c : C El} {x : List (El t)} (h : C.arr? t n c = some x) : c = .arr t n x := by
  unfold C.arr? at h
  split at h
  · split at h
    · rename_i ht
      subst ht
      split at h
      · rename_i hn
        subst hn
        cases h
        rfl
      · cases h
    · cases h
  · cases h

theorem dec1_ok (hF : Fits P G.U G.ti) (hm : MR G.U B S ι m w) : ∀ {s : S1} {c : C G.U.El} {x : s.T G.U.El} {vs : List Value}, s.dec m c = some x → CW G.U B ι m w c vs → CW G.U w.heap.size (fun _ => undef) [] w (s.enc x false) vs := by
  intro s c x vs h hc
  have row : ∀ (t : Nat) (l : List (G.U.El t)), rowOf m t c = some l → CW G.U w.heap.size (fun _ => undef) [] w (.row t l false false) vs := by
    intro t l hl
    have hne : ∀ t n l, c ≠ .arr t n l := by intro t n l e; subst e; simp [rowOf] at hl
    have : ∃ v, vs = [v] ∧ CR G.U B ι m w c v := by
      have := CsR.single (w := w) (B := B) (ι := ι) (m := m) hne (vs := vs) ⟨vs, [], by simp, hc, rfl⟩
      exact this
    obtain ⟨v, rfl, hv⟩ := this
    obtain ⟨A, cap, rfl, h1, h2⟩ := rowOf_ok hF hm hv hl
    exact ⟨_, rfl, A, cap, rfl, h2, h1.toRD, fun h => by cases h⟩
  have sc : ∀ v, c = .sc v → CW G.U w.heap.size (fun _ => undef) [] w (.sc v) vs := by
    intro v e
    subst e
    obtain ⟨v, e1, e2, e3⟩ := hc
    exact ⟨v, e1, e2, e3⟩
  cases s with
  | int k => exact sc _ (dec_int h)
  | bool => exact sc _ (dec_bool h)
  | str => exact sc _ (dec_str h)
  | row t => exact row t x h
  | sl t => exact row t x h
  | arr t n =>
    have := dec_arr h
    subst this
    exact hc


theorem decs_ok (hF : Fits P G.U G.ti) (hm : MR G.U B S ι m w) : ∀ {ss : List S1} {cs : List (C G.U.El)} {x : Ts G.U.El ss} {vs : List Value}, decs m ss cs = some x → CsR G.U B ι m w cs vs → CsR G.U w.heap.size (fun _ => undef) [] w (encs ss x false) vs
  | [], [], x, vs, h, hc => hc
  | [], _ :: _, _, _, h, _ => by simp [decs] at h
  | _ :: _, [], _, _, h, _ => by simp [decs] at h
  | s :: ss, c :: cs, x, vs, h, ⟨a, r, e, h1, h2⟩ => by
    simp only [decs] at h
    obtain ⟨y, h3, h⟩ := Option.bind_eq_some_iff.1 h
    obtain ⟨z, h4, h⟩ := Option.bind_eq_some_iff.1 h
    cases h
    exact ⟨a, r, e, dec1_ok hF hm h3 h1, decs_ok hF hm h4 h2⟩

theorem prow_one (hU : UOk G.U) {t : Nat} {y : G.U.El t} {v : Value} {b o : Nat} (hv : v = .pointer (some ⟨b, o, none⟩)) (hr : Rd w (some ⟨b, o, none⟩) (G.U.cells t y)) :
    CR G.U w.heap.size (fun _ => undef) [] w (.prow t [y] 0 0) v :=
  ⟨by simp, b, o, by simpa using hv, (by simpa [flat] using hr : Rd w (some ⟨b, o, none⟩) (flat G.U t [y])).toRD⟩

theorem ptrElem_ok (hF : Fits P G.U G.ti) (hm : MR G.U B S ι m w) {t : Nat} {c : C G.U.El} {y : G.U.El t} {v : Value} (hc : CR G.U B ι m w c v) (h : ptrElem G.U m t c = some y) :
    CR G.U w.heap.size (fun _ => undef) [] w (.prow t [y] 0 0) v := by
  -- a part of a row's element
  have part : ∀ {e : Nat} {l : List (G.U.El e)} {i off b o : Nat}, i < l.length → v = .pointer (some ⟨b, o + (i * G.U.sz e + off), none⟩) → (∀ j u, (flat G.U e l)[j]? = some u → w.cell? ⟨b, o + j, none⟩ = some u) →
      G.U.back t (((G.U.cells e (rd (G.U.dflt e) l i)).drop off).take (G.U.sz t)) = some y → CR G.U w.heap.size (fun _ => undef) [] w (.prow t [y] 0 0) v := by
    intro e l i off b o hi hv hr hb
    refine prow_one hF.U hv fun j u hj => ⟨b, _, rfl, ?_⟩
    rw [hF.U.back _ _ _ hb, List.getElem?_take] at hj
    split at hj
    · rw [List.getElem?_drop] at hj
      have := hr _ _ (flat_get hF.U e l i hi _ _ _ hj)
      rwa [show o + (i * G.U.sz e + off) + j = o + (i * G.U.sz e + (off + j)) by omega]
    · cases hj
  unfold ptrElem at h
  split at h
  · rename_i id off
    obtain ⟨hid, β, h1, h2⟩ := hc
    split at h
    · rename_i t' cs hm'
      obtain ⟨β', vs, h3, h4, h5⟩ := hm.blk _ _ hm'
      rw [h1] at h3
      cases h3
      obtain ⟨cs', h6, h⟩ := Option.bind_eq_some_iff.1 h
      obtain ⟨us, h7, h⟩ := Option.bind_eq_some_iff.1 h
      obtain ⟨h8, h9⟩ := getAt_ok hF.U h6 h5
      have hus := scs_ok h7 h9
      refine prow_one hF.U h2 fun j u hj => ⟨β, _, rfl, ?_⟩
      rw [hF.U.back _ _ _ h, ← hus, List.getElem?_take] at hj
      split at hj
      · rw [List.getElem?_drop] at hj
        simp [World.cell?, h4, ← hj]
      · cases hj
    · cases h
  · rename_i id e i off
    obtain ⟨hid, g, n, c, h1, h2, h3⟩ := hc
    split at h
    · rename_i e' l hm'
      split at h
      · rename_i he
        subst he
        split at h
        · have hb := hm.blk _ _ hm'
          simp only [BR, h1] at hb
          have hn : l.length = n := by
            rcases hb.2 with ⟨h', _⟩ | ⟨g', cap', cur, h', _⟩
            · simp at h'
            · simp at h'; exact h'.2.1.symm
          subst hn
          refine part (o := 0) h2 (by simpa using h3) (fun j u hj => ?_) h
          have hlt := (List.getElem?_eq_some_iff.1 hj).1
          rw [flat_len hF.U] at hlt
          rw [Nat.zero_add, World.ownsRow.cellAt hb j hlt, hj]
        · cases h
      · cases h
    · cases h
  · rename_i e l i off
    obtain ⟨hi, b, o, h1, h2⟩ := hc
    split at h
    · exact part hi h1 (fun j u hj => by
        obtain ⟨b', o', h3, h4, _⟩ := h2 j u hj
        cases h3
        exact h4) h
    · cases h
  · cases h

theorem CW.cr {c : C G.U.El} {v : Value} (hne : ∀ t n l, c ≠ .arr t n l) (h : CW G.U B ι m w c [v]) : CR G.U B ι m w c v := by
  obtain ⟨u, e, hu⟩ := CsR.single hne (vs := [v]) ⟨[v], [], rfl, h, rfl⟩
  cases e
  exact hu

theorem AS.dec_ok (hF : Fits P G.U G.ti) (hm : MR G.U B S ι m w) {s : AS} {v : V G.U.El} {x : s.T G.U.El} {u : Value} (h : s.dec G.U m v = some x) (hv : VR G.U B ι m w v u) : VR G.U w.heap.size (fun _ => undef) [] w (s.enc x) u := by
  cases s with
  | c s =>
    cases v with
    | w y =>
      cases y with
      | c c =>
        have hc : CR G.U B ι m w c u := hv
        have := dec1_ok hF hm (s := s) h hc.cw
        refine vr_w ?_
        cases s with
        | arr t n =>
          have := dec_arr h
          subst this
          exact hc.elim
        | _ => exact CW.cr (by intro t n l e; cases e) this
      | agg => cases h
    | _ => cases h
  | agg ss =>
    cases v with
    | w y =>
      cases y with
      | agg xs =>
        obtain ⟨vs, e, h1⟩ := hv
        exact ⟨vs, e, decs_ok hF hm h h1⟩
      | c => cases h
    | _ => cases h
  | ptr t =>
    cases v with
    | w y =>
      cases y with
      | c c => exact vr_w (ptrElem_ok hF hm hv h)
      | agg => cases h
    | _ => cases h
  | skip => trivial

theorem ASdec_ok (hF : Fits P G.U G.ti) (hm : MR G.U B S ι m w) : ∀ {ss : List AS} {vs : List (V G.U.El)} {x : ASs G.U.El ss} {us : List Value}, ASdec G.U m ss vs = some x → VsR G.U B ι m w vs us → VsR G.U w.heap.size (fun _ => undef) [] w (ASenc ss x) us
  | [], [], x, us, h, hv => hv
  | [], _ :: _, _, _, h, _ => by simp [ASdec] at h
  | _ :: _, [], _, _, h, _ => by simp [ASdec] at h
  | s :: ss, v :: vs, x, us, h, ⟨u, r, e, h1, h2⟩ => by
    simp only [ASdec] at h
    obtain ⟨y, h3, h⟩ := Option.bind_eq_some_iff.1 h
    obtain ⟨z, h4, h⟩ := Option.bind_eq_some_iff.1 h
    cases h
    exact ⟨u, r, e, AS.dec_ok hF hm h3 h1, ASdec_ok hF hm h4 h2⟩
end
end Go.Proofs.Ytigoabhkdipdeaa.AM
