/- A part of the plain reading of Go's code: what a function's code comes to, by a plain function. No condition. -/
import Derived.Test.YtigoabhkdipdeaaZAX
namespace Go.Proofs.Ytigoabhkdipdeaa.AM
open Go.RowKit
variable {ρ : Type}

section
variable {El : Nat → Type}
theorem kill_len : ∀ (is : List (Option Nat)) (m : List (Blk El)), (kill m is).length = m.length
  | [], _ => rfl
  | some i :: is, m => by rw [kill, kill_len is]; simp
  | none :: is, m => kill_len is m
theorem kill_get : ∀ (is : List (Option Nat)) (m : List (Blk El)) (i : Nat), (kill m is)[i]? = if some i ∈ is then (m[i]?).map (fun _ => .dead) else m[i]?
  | [], m, i => by simp [kill]
  | none :: is, m, i => by
    rw [kill, kill_get is]
    simp
  | some j :: is, m, i => by
    rw [kill, kill_get is]
    by_cases hj : j = i
    · subst hj
      by_cases hi : some j ∈ is
      · simp [hi, List.getElem?_set]
        by_cases hl : j < m.length <;> simp [hl]
      · simp [hi, List.getElem?_set]
        by_cases hl : j < m.length <;> simp [hl]
    · have hne : (some i : Option Nat) ≠ some j := fun h => hj (Option.some.inj h).symm
      simp only [List.mem_cons, hne, false_or, List.getElem?_set_ne hj]
theorem putBk_len : ∀ (is : List (Option Nat)) (bs : List (Blk El)) (m : List (Blk El)), (putBk m is bs).length = m.length
  | [], [], _ | [], _ :: _, _ => rfl
  | some i :: is, b :: bs, m => by rw [putBk, putBk_len is bs]; simp
  | none :: is, _ :: bs, m => by rw [putBk, putBk_len is bs]
  | some _ :: _, [], _ | none :: _, [], _ => rfl
theorem putBk_other : ∀ (is : List (Option Nat)) (bs : List (Blk El)) (m : List (Blk El)) (i : Nat), some i ∉ is → (putBk m is bs)[i]? = m[i]?
  | [], [], _, _, _ | [], _ :: _, _, _, _ => rfl
  | some j :: is, b :: bs, m, i, h => by
    rw [List.mem_cons, not_or] at h
    rw [putBk, putBk_other is bs _ i h.2, List.getElem?_set_ne (fun e => h.1 (by rw [e]))]
  | none :: is, _ :: bs, m, i, h => by
    rw [List.mem_cons, not_or] at h
    rw [putBk, putBk_other is bs _ i h.2]
  | some _ :: _, [], _, _, _ | none :: _, [], _, _, _ => rfl
theorem putBk_at : ∀ (is : List (Option Nat)) (bs : List (Blk El)) (m : List (Blk El)) (j i : Nat) (b : Blk El), (is.filterMap id).Nodup → is[j]? = some (some i) → bs[j]? = some b → i < m.length → (putBk m is bs)[i]? = some b
  | [], bs, _, j, _, _, _, h, _, _ => by simp at h
  | some k :: is, b' :: bs, m, j, i, b, hn, h1, h2, hl => by
    rw [List.filterMap_cons_some (f := id) (b := k) rfl, List.nodup_cons] at hn
    cases j with
    | zero =>
      simp at h1 h2
      subst h1
      subst h2
      rw [putBk, putBk_other is bs _ k (fun h => hn.1 (List.mem_filterMap.2 ⟨some k, h, rfl⟩))]
      simp [hl]
    | succ j => exact putBk_at is bs _ j i b hn.2 (by simpa using h1) (by simpa using h2) (by simpa using hl)
  | none :: is, b' :: bs, m, j, i, b, hn, h1, h2, hl => by
    cases j with
    | zero => simp at h1
    | succ j => exact putBk_at is bs m j i b (by simpa using hn) (by simpa using h1) (by simpa using h2) hl
  | some _ :: _, [], _, _, _, _, _, _, h, _ | none :: _, [], _, _, _, _, _, _, h, _ => by simp at h
theorem bkBlks_len : ∀ (ss : List AS) (ws : List (W El)), ss.length = ws.length → (bkBlks ss ws).length = ss.length
  | [], [], _ => rfl
  | s :: ss, w :: ws, h => by simp only [bkBlks, List.length_cons]; rw [bkBlks_len ss ws (by simpa using h)]
  | [], _ :: _, h | _ :: _, [], h => by simp at h
theorem bkBlks_get : ∀ (ss : List AS) (ws : List (W El)) (j : Nat) (s : AS) (w : W El), ss[j]? = some s → ws[j]? = some w → (bkBlks ss ws)[j]? = some (bkBlk s w)
  | [], _, j, _, _, h, _ => by simp at h
  | _ :: _, [], j, _, _, _, h => by simp at h
  | s :: ss, w :: ws, j, s', w', h1, h2 => by
    cases j with
    | zero => simp at h1 h2; subst h1; subst h2; rfl
    | succ j => exact bkBlks_get ss ws j s' w' (by simpa using h1) (by simpa using h2)
end

section
variable {U : Univ} {D : Nat → Prop} {S : Nat → Prop} {ι : Nat → Value} {m : List (Blk U.El)} {w : World}

/-- What is handed over is alive. -/
theorem mv_live1 {s : S1} {c : C U.El} {x : s.T U.El} (h : s.dec m c = some x) {a : Nat} (ha : some a ∈ s.mv c) : ∃ b, m[a]? = some b ∧ b.live := by
  cases s with
  | ip t =>
    have h' : ownRow m t c = some (x : List (U.El t)) := h
    rcases dec_own h' with ⟨id, rfl, hb⟩ | ⟨rfl, _⟩
    · simp [S1.mv, C.src] at ha
      subst ha
      exact ⟨_, hb, trivial⟩
    · simp [S1.mv, C.src] at ha
  | gv t =>
    have h' : ownRow m t c = some (x : List (U.El t)) := h
    rcases dec_own h' with ⟨id, rfl, hb⟩ | ⟨rfl, _⟩
    · simp [S1.mv, C.src] at ha
      subst ha
      exact ⟨_, hb, trivial⟩
    · simp [S1.mv, C.src] at ha
  | _ => simp [S1.mv] at ha
theorem mv_live2 : ∀ {ss : List S1} {cs : List (C U.El)} {x : Ts U.El ss}, decs m ss cs = some x → ∀ {a : Nat}, some a ∈ mv1 ss cs → ∃ b, m[a]? = some b ∧ b.live
  | [], [], _, _, a, ha => by simp [mv1] at ha
  | [], _ :: _, _, h, _, _ => by simp [decs] at h
  | _ :: _, [], _, h, _, _ => by simp [decs] at h
  | s :: ss, c :: cs, x, h, a, ha => by
    simp only [decs] at h
    obtain ⟨y, h3, h⟩ := Option.bind_eq_some_iff.1 h
    obtain ⟨z, h4, h⟩ := Option.bind_eq_some_iff.1 h
    rcases List.mem_append.1 ha with ha | ha
    · exact mv_live1 h3 ha
    · exact mv_live2 h4 ha
theorem mv_liveIo {t : Nat} {ss : List S1} {id : Nat} {x : Ts U.El ss} (h : ioDec m t ss id = some x) {a : Nat} (ha : some a ∈ mvIo m ss id) : ∃ b, m[a]? = some b ∧ b.live := by
  obtain ⟨cs, hb, hd⟩ := ioDec_some h
  simp only [mvIo, hb] at ha
  rcases List.mem_append.1 ha with ha | ha
  · exact mv_live2 hd ha
  · simp at ha
    subst ha
    exact ⟨_, hb, trivial⟩
theorem mv_liveCaps : ∀ {caps : List (Nat × List S1)} {cs : List (Nat × Nat)} {x : CapT U.El caps}, capsDec m caps cs = some x → ∀ {a : Nat}, some a ∈ mvCaps m caps cs → ∃ b, m[a]? = some b ∧ b.live
  | [], [], _, _, a, ha => by simp [mvCaps] at ha
  | [], _ :: _, _, h, _, _ => by simp [capsDec] at h
  | _ :: _, [], _, h, _, _ => by simp [capsDec] at h
  | p :: ps, c :: cs, x, h, a, ha => by
    simp only [capsDec] at h
    split at h
    case isFalse => cases h
    obtain ⟨y, h3, h⟩ := Option.bind_eq_some_iff.1 h
    obtain ⟨z, h4, h⟩ := Option.bind_eq_some_iff.1 h
    rcases List.mem_append.1 ha with ha | ha
    · exact mv_liveIo h3 ha
    · exact mv_liveCaps h4 ha
theorem mv_liveA {s : AS} {v : V U.El} {x : s.T U.El} (h : s.dec U m v = some x) {a : Nat} (ha : some a ∈ s.mv m v) : ∃ b, m[a]? = some b ∧ b.live := by
  cases s with
  | c s => cases v with
    | w y => cases y with
      | c c => exact mv_live1 (s := s) h ha
      | agg => simp [AS.mv] at ha
    | _ => simp [AS.mv] at ha
  | agg ss => cases v with
    | w y => cases y with
      | agg xs => exact mv_live2 h ha
      | c => simp [AS.mv] at ha
    | _ => simp [AS.mv] at ha
  | io t ss => cases v with
    | w y => cases y with
      | c c => cases c with
        | ptr id off =>
          change (if off = 0 then ioDec m t ss id else none) = some x at h
          split at h
          · exact mv_liveIo h ha
          · cases h
        | _ => simp [AS.mv] at ha
      | agg => simp [AS.mv] at ha
    | _ => simp [AS.mv] at ha
  | fnp f caps => cases v with
    | w y => cases y with
      | c c => cases c with
        | fn f' cs =>
          change (if f' = f then capsDec m caps cs else none) = some x at h
          split at h
          · exact mv_liveCaps h ha
          · cases h
        | _ => simp [AS.mv] at ha
      | agg => simp [AS.mv] at ha
    | _ => simp [AS.mv] at ha
  | _ => simp [AS.mv] at ha
theorem mvs_live : ∀ {ss : List AS} {vs : List (V U.El)} {x : ASs U.El ss}, ASdec U m ss vs = some x → ∀ {a : Nat}, some a ∈ mvs m ss vs → ∃ b, m[a]? = some b ∧ b.live
  | [], [], _, _, a, ha => by simp [mvs] at ha
  | [], _ :: _, _, h, _, _ => by simp [ASdec] at h
  | _ :: _, [], _, h, _, _ => by simp [ASdec] at h
  | s :: ss, v :: vs, x, h, a, ha => by
    simp only [ASdec] at h
    obtain ⟨y, h3, h⟩ := Option.bind_eq_some_iff.1 h
    obtain ⟨z, h4, h⟩ := Option.bind_eq_some_iff.1 h
    rcases List.mem_append.1 ha with ha | ha
    · exact mv_liveA h3 ha
    · exact mvs_live h4 ha

theorem encI1_len' {El : Nat → Type} {mk : List (Blk El)} (s : S1) (c : C El) (x : s.T El) : (encI1 s x mk).2.length = mk.length + (s.mv c).length := by
  cases s <;> simp [encI1, S1.mv]
theorem encIo_len {t : Nat} {ss : List S1} {id : Nat} {x : Ts U.El ss} {mk : List (Blk U.El)} (h : ioDec m t ss id = some x) : (encIo t ss x mk).2.length = mk.length + (mvIo m ss id).length := by
  obtain ⟨cs, hb, hd⟩ := ioDec_some h
  have : ∀ {ss : List S1} {cs : List (C U.El)} {x : Ts U.El ss} (mk : List (Blk U.El)), decs m ss cs = some x → (encI2 ss x mk).2.length = mk.length + (mv1 ss cs).length := by
    intro ss
    induction ss with
    | nil => intro cs x mk h; cases cs with
      | nil => rfl
      | cons => simp [decs] at h
    | cons s ss ih =>
      intro cs x mk h
      cases cs with
      | nil => simp [decs] at h
      | cons c cs =>
        simp only [decs] at h
        obtain ⟨y, h3, h⟩ := Option.bind_eq_some_iff.1 h
        obtain ⟨z, h4, h⟩ := Option.bind_eq_some_iff.1 h
        cases h
        simp only [encI2, mv1, List.length_append]
        rw [ih (mk := (encI1 s y mk).2) h4, encI1_len' s c y]
        omega
  simp only [encIo, mvIo, hb, List.length_append, List.length_singleton]
  rw [this mk hd]
  omega
theorem encIs_len : ∀ {ss : List AS} {vs : List (V U.El)} {x : ASs U.El ss} {mk : List (Blk U.El)}, ASdec U m ss vs = some x → (encIs ss x mk).2.length = mk.length + (mvs m ss vs).length := by
  have e2 : ∀ {ss : List S1} {cs : List (C U.El)} {x : Ts U.El ss} (mk : List (Blk U.El)), decs m ss cs = some x → (encI2 ss x mk).2.length = mk.length + (mv1 ss cs).length := by
    intro ss
    induction ss with
    | nil => intro cs x mk h; cases cs with
      | nil => rfl
      | cons => simp [decs] at h
    | cons s ss ih =>
      intro cs x mk h
      cases cs with
      | nil => simp [decs] at h
      | cons c cs =>
        simp only [decs] at h
        obtain ⟨y, h3, h⟩ := Option.bind_eq_some_iff.1 h
        obtain ⟨z, h4, h⟩ := Option.bind_eq_some_iff.1 h
        cases h
        simp only [encI2, mv1, List.length_append]
        rw [ih (mk := (encI1 s y mk).2) h4, encI1_len' s c y]
        omega
  have e3 : ∀ {caps : List (Nat × List S1)} {cs : List (Nat × Nat)} {x : CapT U.El caps} {mk : List (Blk U.El)}, capsDec m caps cs = some x → (encICaps caps x mk).2.length = mk.length + (mvCaps m caps cs).length := by
    intro caps
    induction caps with
    | nil => intro cs x mk h; cases cs with
      | nil => rfl
      | cons => simp [capsDec] at h
    | cons p ps ih =>
      intro cs x mk h
      cases cs with
      | nil => simp [capsDec] at h
      | cons c cs =>
        simp only [capsDec] at h
        split at h
        case isFalse => cases h
        obtain ⟨y, h3, h⟩ := Option.bind_eq_some_iff.1 h
        obtain ⟨z, h4, h⟩ := Option.bind_eq_some_iff.1 h
        cases h
        simp only [encICaps, mvCaps, List.length_append]
        rw [ih h4, encIo_len h3]
        omega
  have e4 : ∀ {s : AS} {v : V U.El} {x : s.T U.El} {mk : List (Blk U.El)}, s.dec U m v = some x → (encI s x mk).2.length = mk.length + (s.mv m v).length := by
    intro s v x mk h
    cases s with
    | c s => cases v with
      | w y => cases y with
        | c c => exact encI1_len' s c x
        | agg => cases h
      | _ => cases h
    | agg ss => cases v with
      | w y => cases y with
        | agg xs => exact e2 mk h
        | c => cases h
      | _ => cases h
    | ptr t => cases v with
      | w y => cases y <;> rfl
      | _ => rfl
    | skip => cases v <;> rfl
    | io t ss => cases v with
      | w y => cases y with
        | c c => cases c with
          | ptr id off =>
            change (if off = 0 then ioDec m t ss id else none) = some x at h
            split at h
            · exact encIo_len h
            · cases h
          | _ => cases h
        | agg => cases h
      | _ => cases h
    | bk t => cases v with
      | w y => cases y <;> cases h
      | _ => cases h
    | np t ss => cases v with
      | w y => cases y <;> cases h
      | _ => cases h
    | fnp f caps => cases v with
      | w y => cases y with
        | c c => cases c with
          | fn f' cs =>
            change (if f' = f then capsDec m caps cs else none) = some x at h
            split at h
            · exact e3 h
            · cases h
          | _ => cases h
        | agg => cases h
      | _ => cases h
  intro ss
  induction ss with
  | nil => intro vs x mk h; cases vs with
    | nil => rfl
    | cons => simp [ASdec] at h
  | cons s ss ih =>
    intro vs x mk h
    cases vs with
    | nil => simp [ASdec] at h
    | cons v vs =>
      simp only [ASdec] at h
      obtain ⟨y, h3, h⟩ := Option.bind_eq_some_iff.1 h
      obtain ⟨z, h4, h⟩ := Option.bind_eq_some_iff.1 h
      cases h
      simp only [encIs, mvs, List.length_append]
      rw [ih h4, e4 h3]
      omega

/-- What is handed over has its place. -/
theorem dec_align1 {s : S1} {c : C U.El} {x : s.T U.El} (h : s.dec m c = some x) : s.align U c = true := by
  have sc : ∀ {v : Value}, c = .sc v → Nat.beq 1 (c.width U) = true := by rintro v rfl; rfl
  cases s with
  | int k => simp only [S1.align, S1.width, Bool.and_true]; exact sc (dec_int h)
  | bool => simp only [S1.align, S1.width, Bool.and_true]; exact sc (dec_bool h)
  | str => simp only [S1.align, S1.width, Bool.and_true]; exact sc (dec_str h)
  | row t => cases c <;> first | rfl | (simp [S1.dec, rowOf] at h)
  | sl t => cases c <;> first | rfl | (simp [S1.dec, rowOf] at h)
  | rol t => cases c <;> first | rfl | (simp [S1.dec, rolOf] at h)
  | arr t n => have := dec_arr h; subst this; simp [S1.align, S1.width, C.width]
  | ip t =>
    have h' : ownRow m t c = some (x : List (U.El t)) := h
    rcases dec_own h' with ⟨id, rfl, hb⟩ | ⟨rfl, _⟩ <;> rfl
  | gv t =>
    have h' : ownRow m t c = some (x : List (U.El t)) := h
    rcases dec_own h' with ⟨id, rfl, hb⟩ | ⟨rfl, _⟩ <;> rfl
theorem decs_align : ∀ {ss : List S1} {cs : List (C U.El)} {x : Ts U.El ss}, decs m ss cs = some x → align1 U ss cs = true
  | [], [], _, _ => rfl
  | [], _ :: _, _, h => by simp [decs] at h
  | _ :: _, [], _, h => by simp [decs] at h
  | s :: ss, c :: cs, x, h => by
    simp only [decs] at h
    obtain ⟨y, h3, h⟩ := Option.bind_eq_some_iff.1 h
    obtain ⟨z, h4, h⟩ := Option.bind_eq_some_iff.1 h
    simp only [align1, Bool.and_eq_true]
    exact ⟨dec_align1 h3, decs_align h4⟩
theorem caps_align : ∀ {caps : List (Nat × List S1)} {cs : List (Nat × Nat)} {x : CapT U.El caps}, capsDec m caps cs = some x → caps.length = cs.length ∧ (cs.all fun c => Nat.beq c.2 0) = true
  | [], [], _, _ => ⟨rfl, rfl⟩
  | [], _ :: _, _, h => by simp [capsDec] at h
  | _ :: _, [], _, h => by simp [capsDec] at h
  | p :: ps, c :: cs, x, h => by
    simp only [capsDec] at h
    split at h
    case isFalse => cases h
    rename_i h0
    obtain ⟨y, h3, h⟩ := Option.bind_eq_some_iff.1 h
    obtain ⟨z, h4, h⟩ := Option.bind_eq_some_iff.1 h
    obtain ⟨h5, h6⟩ := caps_align h4
    exact ⟨by simp [h5], by simp only [List.all_cons, h6, h0, Bool.and_true]; rfl⟩
theorem ASdec_align : ∀ {ss : List AS} {vs : List (V U.El)} {x : ASs U.El ss}, ASdec U m ss vs = some x → aligns U ss vs = true
  | [], [], _, _ => rfl
  | [], _ :: _, _, h => by simp [ASdec] at h
  | _ :: _, [], _, h => by simp [ASdec] at h
  | s :: ss, v :: vs, x, h => by
    simp only [ASdec] at h
    obtain ⟨y, h3, h⟩ := Option.bind_eq_some_iff.1 h
    obtain ⟨z, h4, h⟩ := Option.bind_eq_some_iff.1 h
    simp only [aligns, Bool.and_eq_true]
    refine ⟨?_, ASdec_align h4⟩
    clear h h4
    cases s with
    | c s => cases v with
      | w y => cases y with
        | c c => simp only [AS.align, Bool.or_eq_true]; exact .inr (dec_align1 (s := s) h3)
        | agg => cases h3
      | _ => cases h3
    | agg ss => cases v with
      | w y => cases y with
        | agg xs => simp only [AS.align, Bool.or_eq_true]; exact .inr (decs_align h3)
        | c => cases h3
      | _ => cases h3
    | io t ss => cases v with
      | w y => cases y with
        | c c => cases c with
          | ptr id off =>
            change (if off = 0 then ioDec m t ss id else none) = some y at h3
            split at h3
            · rename_i h0; subst h0; rfl
            · cases h3
          | _ => cases h3
        | agg => cases h3
      | _ => cases h3
    | fnp f caps => cases v with
      | w y => cases y with
        | c c => cases c with
          | fn f' cs =>
            change (if f' = f then capsDec m caps cs else none) = some y at h3
            split at h3
            · obtain ⟨h5, h6⟩ := caps_align h3
              simp only [AS.align, h5, h6, Bool.and_true]
              exact Nat.beq_refl _
            · cases h3
          | _ => cases h3
        | agg => cases h3
      | _ => cases h3
    | ptr t => cases v <;> rfl
    | skip => cases v <;> rfl
    | bk t => cases v <;> rfl
    | np t ss => cases v <;> rfl

/-- The value of what comes back. -/
def idv (ι : Nat → Value) : Option Nat → Value
  | some a => ι a
  | none => .slice none 0 0
theorem isIp_val {c : C U.El} {v : Value} (h : c.isIp = true) (hv : CR U D ι m w c v) : idv ι c.src = v := by
  cases c with
  | sl id => exact hv.2.1.symm
  | sc u =>
    have hu : u = .slice none 0 0 := by
      unfold C.isIp at h
      split at h <;> simp_all
    exact (hv.1.trans hu).symm
  | _ => cases h
theorem bk_none1 {s : S1} (h : s.bkS = []) (c : C U.El) (vs : List Value) : s.bki c = [] ∧ s.bkV vs = [] := by
  cases s <;> first | exact ⟨rfl, rfl⟩ | cases h
theorem bk_none2 : ∀ {ss : List S1}, bkS1 ss = [] → ∀ (cs : List (C U.El)) (vs : List Value), bki1 ss cs = [] ∧ bkV1 U ss vs = []
  | [], _, cs, vs => by cases cs <;> exact ⟨rfl, rfl⟩
  | s :: ss, h, cs, vs => by
    simp only [bkS1, List.append_eq_nil_iff] at h
    cases cs with
    | nil => exact ⟨rfl, by rw [bkV1, (bk_none1 (U := U) h.1 (.sc undef) vs).2, (bk_none2 h.2 [] _).2]; rfl⟩
    | cons c cs => exact ⟨by rw [bki1, (bk_none1 h.1 c vs).1, (bk_none2 h.2 cs vs).1]; rfl, by rw [bkV1, (bk_none1 h.1 c vs).2, (bk_none2 h.2 cs _).2]; rfl⟩
theorem bk_len1 : ∀ {ss : List S1} {cs : List (C U.El)}, align1 U ss cs = true → (bki1 ss cs).length = (bkS1 ss).length
  | [], [], _ => rfl
  | [], _ :: _, h => by simp [align1] at h
  | _ :: _, [], h => by simp [align1] at h
  | s :: ss, c :: cs, h => by
    simp only [align1, Bool.and_eq_true] at h
    simp only [bki1, bkS1, List.length_append]
    rw [bk_len1 h.2]
    cases s <;> rfl
theorem bk_val1 (hU : UOk U) : ∀ {ss : List S1} {cs : List (C U.El)} {vs : List Value}, align1 U ss cs = true → CsR U D ι m w cs vs → (bki1 ss cs).map (idv ι) = bkV1 U ss vs
  | [], [], vs, _, _ => rfl
  | [], _ :: _, _, h, _ => by simp [align1] at h
  | _ :: _, [], _, h, _ => by simp [align1] at h
  | s :: ss, c :: cs, vs, h, ⟨a, r, e, h1, h2⟩ => by
    simp only [align1, Bool.and_eq_true, S1.align] at h
    obtain ⟨⟨hw, hip⟩, h⟩ := h
    have hl : a.length = s.width U := (h1.len hU).trans (Nat.eq_of_beq_eq_true hw).symm
    have ih := bk_val1 hU h h2
    simp only [bki1, bkV1, List.map_append]
    rw [ih, e, ← hl, List.drop_left]
    congr 1
    cases s with
    | ip t =>
      have hip' : c.isIp = true := hip
      obtain ⟨v, e2, h3⟩ := CsR.single (by intro t n l e; subst e; cases hip') (vs := a) ⟨a, [], by simp, h1, rfl⟩
      subst e2
      simp [S1.bki, S1.bkV, isIp_val hip' h3]
    | _ => rfl
theorem caps_val : ∀ {cs : List (Nat × Nat)} {vs : List Value}, vs.length = cs.length → (cs.all fun c => Nat.beq c.2 0) = true → (∀ (j : Nat) (p : Nat × Nat) (u : Value), cs[j]? = some p → vs[j]? = some u → PR U ι m p.1 p.2 u) → (cs.map fun c => some c.1).map (idv ι) = vs
  | [], [], _, _, _ => rfl
  | [], _ :: _, h, _, _ => by simp at h
  | _ :: _, [], h, _, _ => by simp at h
  | c :: cs, v :: vs, hl, h0, h => by
    simp only [List.all_cons, Bool.and_eq_true] at h0
    have ih := caps_val (by simpa using hl) h0.2 fun j p u hp hu => h (j + 1) p u (by simpa using hp) (by simpa using hu)
    simp only [List.map_cons, ih]
    congr 1
    obtain ⟨_, β, h1, h2⟩ := h 0 c v rfl rfl
    rw [Nat.eq_of_beq_eq_true h0.1] at h2
    exact h1.trans h2.symm
theorem bk_val (hU : UOk U) {s : AS} {v : V U.El} {u : Value} (h : s.align U v = true) (hv : VR U D ι m w v u) : (s.bkI v).length = s.bkS.length ∧ (s.bkI v).map (idv ι) = s.bkV U u := by
  have nc : ∀ {s : S1}, s.bkS.isEmpty = true → ([] : List (Option Nat)).length = s.bkS.length ∧ ([] : List (Option Nat)).map (idv ι) = s.bkV [u] := by
    intro s hs
    rw [List.isEmpty_iff] at hs
    rw [hs, (bk_none1 (U := U) hs (.sc undef) [u]).2]
    exact ⟨rfl, rfl⟩
  have na : ∀ {ss : List S1}, (bkS1 ss).isEmpty = true → ([] : List (Option Nat)).length = (bkS1 ss).length ∧ ([] : List (Option Nat)).map (idv ι) = (AS.agg ss).bkV U u := by
    intro ss hs
    rw [List.isEmpty_iff] at hs
    rw [hs]
    refine ⟨rfl, ?_⟩
    cases u <;> first | rfl | exact (bk_none2 (U := U) hs [] _).2.symm
  cases s with
  | c s =>
    cases v with
    | w y => cases y with
      | c c =>
        simp only [AS.align, Bool.or_eq_true, List.isEmpty_iff] at h
        rcases h with h | h
        · have := bk_none1 (U := U) h c [u]
          simp only [AS.bkI, AS.bkS, AS.bkV, this.1, this.2, h]
          exact ⟨rfl, rfl⟩
        · cases s with
          | ip t =>
            simp only [S1.align, Bool.and_eq_true] at h
            exact ⟨rfl, by simp [AS.bkI, S1.bki, AS.bkV, S1.bkV, isIp_val h.2 hv]⟩
          | _ => exact ⟨rfl, rfl⟩
      | agg => exact nc h
    | _ => exact nc h
  | agg ss =>
    cases v with
    | w y => cases y with
      | agg xs =>
        obtain ⟨vs, rfl, h1⟩ := hv
        simp only [AS.align, Bool.or_eq_true, List.isEmpty_iff] at h
        rcases h with h | h
        · have := bk_none2 (U := U) h xs vs
          simp only [AS.bkI, AS.bkS, AS.bkV, this.1, this.2, h]
          exact ⟨rfl, rfl⟩
        · exact ⟨bk_len1 h, bk_val1 hU h h1⟩
      | c => exact na h
    | _ => exact na h
  | io t ss =>
    cases v with
    | w y => cases y with
      | c c => cases c with
        | ptr id off =>
          have h0 : off = 0 := Nat.eq_of_beq_eq_true h
          subst h0
          obtain ⟨_, β, h1, h2⟩ := hv
          exact ⟨rfl, by simp [AS.bkI, AS.bkV, idv, h1, h2]⟩
        | _ => cases h
      | agg => cases h
    | _ => cases h
  | fnp f caps =>
    have hcl : ∀ caps : List (Nat × List S1), (bkCaps caps).length = caps.length := by
      intro caps
      induction caps with
      | nil => rfl
      | cons p ps ih => simp [bkCaps, ih]
    have hn : caps.isEmpty = true → ([] : List (Option Nat)).length = (bkCaps caps).length ∧ ([] : List (Option Nat)).map (idv ι) = (AS.fnp f caps).bkV U u := by
      intro h
      rw [List.isEmpty_iff] at h
      subst h
      exact ⟨rfl, by cases u <;> rfl⟩
    cases v with
    | w y => cases y with
      | c c => cases c with
        | fn f' cs =>
          simp only [AS.align, Bool.and_eq_true] at h
          obtain ⟨vs, rfl, h1, h2⟩ := hv
          have hl := Nat.eq_of_beq_eq_true h.1
          refine ⟨by simp only [AS.bkI, AS.bkS, List.length_map, hcl]; exact hl.symm, ?_⟩
          have := caps_val h1 h.2 h2
          cases caps with
          | nil =>
            have : cs = [] := List.eq_nil_of_length_eq_zero hl.symm
            subst this
            rfl
          | cons p ps => exact this
        | _ => exact hn h
      | agg => exact hn h
    | _ => exact hn h
  | ptr t => cases v <;> exact ⟨rfl, by cases u <;> rfl⟩
  | skip => cases v <;> exact ⟨rfl, by cases u <;> rfl⟩
  | bk t => cases v <;> exact ⟨rfl, by cases u <;> rfl⟩
  | np t ss => cases v <;> exact ⟨rfl, by cases u <;> rfl⟩
theorem bks_val (hU : UOk U) : ∀ {ss : List AS} {vs : List (V U.El)} {us : List Value}, aligns U ss vs = true → VsR U D ι m w vs us → (bkIs ss vs).length = (bkSs ss).length ∧ (bkIs ss vs).map (idv ι) = bkVs U ss us
  | [], [], _, _, h => by cases h; exact ⟨rfl, rfl⟩
  | [], _ :: _, _, h, _ => by simp [aligns] at h
  | _ :: _, [], _, h, _ => by simp [aligns] at h
  | s :: ss, v :: vs, us, h, ⟨u, r, e, h1, h2⟩ => by
    simp only [aligns, Bool.and_eq_true] at h
    obtain ⟨h3, h4⟩ := bk_val hU h.1 h1
    obtain ⟨h5, h6⟩ := bks_val hU h.2 h2
    subst e
    simp only [bkIs, bkSs, bkVs, List.length_append, List.map_append, h3, h4, h5, h6]
    exact ⟨trivial, trivial⟩

theorem caps_sub : ∀ {caps : List (Nat × List S1)} {cs : List (Nat × Nat)} {x : CapT U.El caps}, capsDec m caps cs = some x → (cs.map fun c => some c.1).Sublist (mvCaps m caps cs)
  | [], [], _, _ => List.Sublist.refl _
  | [], _ :: _, _, h => by simp [capsDec] at h
  | _ :: _, [], _, h => by simp [capsDec] at h
  | p :: ps, c :: cs, x, h => by
    simp only [capsDec] at h
    split at h
    case isFalse => cases h
    obtain ⟨y, h3, h⟩ := Option.bind_eq_some_iff.1 h
    obtain ⟨z, h4, h⟩ := Option.bind_eq_some_iff.1 h
    obtain ⟨cs', hb, _⟩ := ioDec_some h3
    simp only [List.map_cons, mvCaps, mvIo, hb]
    exact (List.sublist_append_right (mv1 p.2 cs') [some c.1]).append (caps_sub h4)
theorem bki_sub (s : S1) (c : C U.El) : (s.bki c).Sublist (s.mv c) := by
  cases s <;> first | exact List.Sublist.refl _ | exact List.nil_sublist _
theorem bki1_sub : ∀ (ss : List S1) (cs : List (C U.El)), (bki1 ss cs).Sublist (mv1 ss cs)
  | [], [] | [], _ :: _ | _ :: _, [] => List.Sublist.refl _
  | s :: ss, c :: cs => (bki_sub s c).append (bki1_sub ss cs)
/-- What comes back was handed over. -/
theorem bk_sub {s : AS} {v : V U.El} {x : s.T U.El} (h : s.dec U m v = some x) : (s.bkI v).Sublist (s.mv m v) := by
  cases s with
  | c s => cases v with
    | w y => cases y with
      | c c => exact bki_sub s c
      | agg => exact List.Sublist.refl _
    | _ => exact List.Sublist.refl _
  | agg ss => cases v with
    | w y => cases y with
      | agg xs => exact bki1_sub ss xs
      | c => exact List.Sublist.refl _
    | _ => exact List.Sublist.refl _
  | io t ss => cases v with
    | w y => cases y with
      | c c => cases c with
        | ptr id off =>
          change (if off = 0 then ioDec m t ss id else none) = some x at h
          split at h
          · obtain ⟨cs, hb, _⟩ := ioDec_some h
            simp only [AS.bkI, AS.mv, mvIo, hb]
            exact List.sublist_append_right _ _
          · cases h
        | _ => exact List.nil_sublist _
      | agg => exact List.nil_sublist _
    | _ => exact List.nil_sublist _
  | fnp f caps => cases v with
    | w y => cases y with
      | c c => cases c with
        | fn f' cs =>
          change (if f' = f then capsDec m caps cs else none) = some x at h
          split at h
          · exact caps_sub h
          · cases h
        | _ => exact List.nil_sublist _
      | agg => exact List.nil_sublist _
    | _ => exact List.nil_sublist _
  | _ => cases v <;> exact List.nil_sublist _
theorem bks_sub : ∀ {ss : List AS} {vs : List (V U.El)} {x : ASs U.El ss}, ASdec U m ss vs = some x → (bkIs ss vs).Sublist (mvs m ss vs)
  | [], [], _, _ => List.Sublist.refl _
  | [], _ :: _, _, h => by simp [ASdec] at h
  | _ :: _, [], _, h => by simp [ASdec] at h
  | s :: ss, v :: vs, x, h => by
    simp only [ASdec] at h
    obtain ⟨y, h3, h⟩ := Option.bind_eq_some_iff.1 h
    obtain ⟨z, h4, h⟩ := Option.bind_eq_some_iff.1 h
    exact (bk_sub h3).append (bks_sub h4)
theorem no_mv1 {s : S1} (h : s.bkS = []) (hg : s.isGv = false) (c : C U.El) : s.mv c = [] := by
  cases s <;> first | rfl | (cases hg; done) | (cases h; done)
theorem no_mv2 : ∀ {ss : List S1}, bkS1 ss = [] → ss.any S1.isGv = false → ∀ (cs : List (C U.El)), mv1 ss cs = []
  | [], _, _, cs => by cases cs <;> rfl
  | s :: ss, h, hg, cs => by
    simp only [bkS1, List.append_eq_nil_iff] at h
    rw [List.any_cons, Bool.or_eq_false_iff] at hg
    cases cs with
    | nil => rfl
    | cons c cs => rw [mv1, no_mv1 h.1 hg.1, no_mv2 h.2 hg.2]; rfl
theorem quiet_mv : ∀ {ss : List AS} {vs : List (V U.El)} {x : ASs U.El ss}, ASdec U m ss vs = some x → bkSs ss = [] → ss.any AS.isGv = false → mvs m ss vs = []
  | [], [], _, _, _, _ => rfl
  | [], _ :: _, _, h, _, _ => by simp [ASdec] at h
  | _ :: _, [], _, h, _, _ => by simp [ASdec] at h
  | s :: ss, v :: vs, x, h, hq, hg => by
    simp only [ASdec] at h
    obtain ⟨y, h3, h⟩ := Option.bind_eq_some_iff.1 h
    obtain ⟨z, h4, h⟩ := Option.bind_eq_some_iff.1 h
    simp only [bkSs, List.append_eq_nil_iff] at hq
    rw [List.any_cons, Bool.or_eq_false_iff] at hg
    rw [mvs, quiet_mv h4 hq.2 hg.2, List.append_nil]
    cases s with
    | c s => cases v with
      | w y => cases y with
        | c c => exact no_mv1 hq.1 hg.1 c
        | agg => rfl
      | _ => rfl
    | agg ss => cases v with
      | w y => cases y with
        | agg xs => exact no_mv2 hq.1 hg.1 xs
        | c => rfl
      | _ => rfl
    | io t ss => cases hq.1
    | fnp f caps => cases caps with
      | nil => cases v with
        | w y => cases y with
          | c c => cases c <;> rfl
          | agg => rfl
        | _ => rfl
      | cons p ps => cases hq.1
    | _ => cases v <;> rfl
end
end Go.Proofs.Ytigoabhkdipdeaa.AM
