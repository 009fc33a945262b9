/- A part of the plain reading of Go's code: what a function's code comes to, by a plain function. No condition. -/
import Derived.Test.YtigoabhkdipdeaaZBE
namespace Go.Proofs.Ytigoabhkdipdeaa.AM
open Go.RowKit
variable {ρ : Type}

section
variable {El : Nat → Type}
theorem upd_none (e : Nat → V El) (v : V El) : upd e none v = e := rfl

theorem upd_comm (e : Nat → V El) {x y : Option Nat} (v u : V El) (h : ∀ d, x = some d → y ≠ some d) : upd (upd e x v) y u = upd (upd e y u) x v := by
  cases x with
  | none => rfl
  | some d => cases y with
    | none => rfl
    | some d' =>
      have hne : d ≠ d' := fun hd => h d rfl (hd ▸ rfl)
      funext t
      simp only [upd]
      cases h1 : Nat.beq t d with
      | false => rfl
      | true =>
        have h1' := Nat.eq_of_beq_eq_true h1
        subst h1'
        cases h2 : Nat.beq t d' with
        | false => rfl
        | true => exact absurd (Nat.eq_of_beq_eq_true h2) hne

theorem upd_ne (e : Nat → V El) {x : Option Nat} (v : V El) {t : Nat} (h : x ≠ some t) : upd e x v t = e t := by
  cases x with
  | none => rfl
  | some d =>
    simp only [upd]
    cases h1 : Nat.beq t d with
    | false => rfl
    | true => exact absurd (congrArg some (Nat.eq_of_beq_eq_true h1).symm) h

theorem opv_upd (e : Nat → V El) {x : Option Nat} (v : V El) {y : Operand} (h : ∀ d, x = some d → y ≠ .tmp d) : opv (upd e x v) y = opv e y := by
  cases y with
  | tmp t => exact upd_ne e v fun hx => h t hx rfl
  | _ => rfl
end

section
variable {G : Cfg} {con : Nat → Option (Con G.U.El)} {n : Nat} {ops : Array Oper}

/-- Is the operation asked for? 'none': not told. -/
def asked (ops : List Oper) (o : Oper) (e : Nat → V G.U.El) : Option Bool := match o.guard with
  | none => some true
  | some (j, want) => ((ops[j]?).bind (·.dst)).bind fun t => if Nat.blt t G.ntmps && !(G.pins.contains t) then match e t with
    | .und => some false
    | .w (.c (.sc (.bool b))) => some (b == want)
    | _ => none else none

def step (G : Cfg) (con : Nat → Option (Con G.U.El)) (n : Nat) (ops : List Oper) (o : Oper) (σ : St G.U.El) : Option (St G.U.El) :=
  if dstOk G.ntmps G.pins o.dst then (asked (G := G) ops o σ.env).bind fun b => if b then (aOp1 G con n o σ.env σ.mem).bind fun p => some ⟨upd σ.env o.dst p.1, p.2⟩ else some ⟨upd σ.env o.dst .und, σ.mem⟩
  else none

theorem aOper_nat (ops : List Oper) (o : Oper) (σ : St G.U.El) (K : St G.U.El → Option ρ) : aOper G con n ops o σ K = (step G con n ops o σ).bind K := by
  have same : ∀ {t : Nat} {v : V G.U.El}, σ.env t = v → upd σ.env (some t) v = σ.env := fun h => h ▸ upd_same σ.env _
  unfold aOper step asked
  by_cases hd : dstOk G.ntmps G.pins o.dst = true
  · rw [if_pos hd, if_pos hd]
    cases o.guard with
    | none =>
      dsimp only
      rw [aOp_nat, Option.bind_some, if_pos rfl]
      cases aOp1 G con n o σ.env σ.mem <;> rfl
    | some g =>
      obtain ⟨j, want⟩ := g
      dsimp only
      cases (ops[j]?).bind (·.dst) with
      | none => rfl
      | some t =>
        dsimp only [Option.bind_some]
        by_cases ht : (Nat.blt t G.ntmps && !(G.pins.contains t)) = true
        · rw [if_pos ht, if_pos ht]
          generalize hv : σ.env t = v
          cases v with
          | w y => cases y with
            | c c => cases c with
              | sc u => cases u <;> try rfl
                        rename_i b
                        have hs := same hv
                        cases b <;> cases want <;> dsimp only [cond_true, cond_false, Option.bind_some, bool] <;> rw [hs] <;> try rfl
                        all_goals
                          rw [aOp_nat]
                          cases aOp1 G con n o σ.env σ.mem <;> rfl
              | _ => rfl
            | _ => rfl
          | _ => rfl
        · rw [if_neg ht, if_neg ht]
          rfl
  · rw [if_neg hd, if_neg hd]
    rfl

theorem asked_upd {x y : Oper} {e : Nat → V G.U.El} {v : V G.U.El} (h : ∀ d, x.dst = some d → d ∉ y.looksAt ops) : asked (G := G) ops.toList y (upd e x.dst v) = asked (G := G) ops.toList y e := by
  unfold asked
  cases hg : y.guard with
  | none => rfl
  | some g =>
    obtain ⟨j, want⟩ := g
    dsimp only
    cases hj : (ops.toList[j]?).bind (·.dst) with
    | none => rfl
    | some t =>
      dsimp only [Option.bind_some]
      rw [upd_ne e v fun hx => h t hx (by
        rw [Array.getElem?_toList] at hj
        simp [Oper.looksAt, hg, hj])]

theorem aOp1_upd {x y : Oper} {e : Nat → V G.U.El} {v : V G.U.El} {m : List (Blk G.U.El)} (h : ∀ d, x.dst = some d → d ∉ y.looksAt ops) : aOp1 G con n y (upd e x.dst v) m = aOp1 G con n y e m :=
  aOp_congr G con n y m _ fun z hz => opv_upd e v fun d hd hzd => h d hd (by
    subst hzd
    exact List.mem_append_left _ (List.mem_filterMap.2 ⟨.tmp d, by simpa using hz, rfl⟩))

theorem step_inv {o : Oper} {σ σ' : St G.U.El} (h : step G con n ops.toList o σ = some σ') : dstOk G.ntmps G.pins o.dst = true ∧
    ((asked (G := G) ops.toList o σ.env = some true ∧ ∃ v, aOp1 G con n o σ.env σ.mem = some (v, σ'.mem) ∧ σ'.env = upd σ.env o.dst v) ∨
     (asked (G := G) ops.toList o σ.env = some false ∧ σ' = ⟨upd σ.env o.dst .und, σ.mem⟩)) := by
  unfold step at h
  split at h
  · rename_i hd
    refine ⟨hd, ?_⟩
    obtain ⟨b, hb, h⟩ := Option.bind_eq_some_iff.1 h
    cases b with
    | true =>
      rw [if_pos rfl] at h
      obtain ⟨p, hp, h⟩ := Option.bind_eq_some_iff.1 h
      cases h
      exact .inl ⟨hb, p.1, hp, rfl⟩
    | false =>
      cases h
      exact .inr ⟨hb, rfl⟩
  · cases h

theorem step_run {o : Oper} {σ : St G.U.El} {v : V G.U.El} {m : List (Blk G.U.El)} (hd : dstOk G.ntmps G.pins o.dst = true) (hb : asked (G := G) ops.toList o σ.env = some true) (hv : aOp1 G con n o σ.env σ.mem = some (v, m)) : step G con n ops.toList o σ = some ⟨upd σ.env o.dst v, m⟩ := by
  unfold step
  rw [if_pos hd, hb, Option.bind_some, if_pos rfl, hv]
  rfl

theorem step_skip {o : Oper} {σ : St G.U.El} (hd : dstOk G.ntmps G.pins o.dst = true) (hb : asked (G := G) ops.toList o σ.env = some false) : step G con n ops.toList o σ = some ⟨upd σ.env o.dst .und, σ.mem⟩ := by
  unfold step
  rw [if_pos hd, hb]
  rfl

/-- Two operations that do not touch change their order. -/
theorem step_swap {x y : Oper} {σ σ1 σ2 : St G.U.El} (hx : opKind G x ≤ 1) (hxy : opKind G x = 0 ∨ opKind G y ≤ 2) (ha : x.apart ops y = true)
    (h1 : step G con n ops.toList x σ = some σ1) (h2 : step G con n ops.toList y σ1 = some σ2) :
    ∃ σ1', step G con n ops.toList y σ = some σ1' ∧ step G con n ops.toList x σ1' = some σ2 := by
  obtain ⟨a1, a2, a3⟩ := Oper.apart_spec ha
  obtain ⟨hdx, h1⟩ := step_inv h1
  obtain ⟨hdy, h2⟩ := step_inv h2
  obtain ⟨e, m⟩ := σ
  obtain ⟨e1, m1⟩ := σ1
  obtain ⟨e2, m2⟩ := σ2
  dsimp only at h1 h2
  -- what x has done
  obtain ⟨vx, rfl, rfl, hb⟩ : ∃ v, e1 = upd e x.dst v ∧ m1 = m ∧ ((asked (G := G) ops.toList x e = some true ∧ aOp1 G con n x e m = some (v, m)) ∨ (asked (G := G) ops.toList x e = some false ∧ v = .und)) := by
    rcases h1 with ⟨hb, v, hv, he⟩ | ⟨hb, h1⟩
    · have hm := (kind1 hx hv).1
      exact ⟨v, he, hm, .inl ⟨hb, hm ▸ hv⟩⟩
    · cases h1
      exact ⟨.und, rfl, rfl, .inr ⟨hb, rfl⟩⟩
  rw [asked_upd a1, aOp1_upd a1] at h2
  obtain ⟨vy, he, hy, hmm⟩ : ∃ v, e2 = upd (upd e x.dst vx) y.dst v ∧ step G con n ops.toList y ⟨e, m1⟩ = some ⟨upd e y.dst v, m2⟩ ∧ (opKind G x = 0 ∨ ∃ mm, m2 = m1 ++ mm) := by
    rcases h2 with ⟨hb', v, hv, he⟩ | ⟨hb', h2⟩
    · exact ⟨v, he, step_run hdy hb' hv, hxy.imp id fun hk => kind2 hk hv⟩
    · cases h2
      exact ⟨.und, rfl, step_skip hdy hb', .inr ⟨[], by simp⟩⟩
  refine ⟨_, hy, ?_⟩
  subst he
  rw [upd_comm e vx vy fun d hd hd' => a2 d hd hd']
  rcases hb with ⟨hb, hv⟩ | ⟨hb, rfl⟩
  · refine step_run hdx (by rw [asked_upd a3]; exact hb) ?_
    dsimp only
    rw [aOp1_upd a3]
    obtain ⟨_, k1, k0⟩ := kind1 hx hv
    rcases hmm with h0 | ⟨mm, rfl⟩
    · exact k0 h0 _
    · exact k1 mm
  · exact step_skip hdx (by rw [asked_upd a3]; exact hb)

def steps (G : Cfg) (con : Nat → Option (Con G.U.El)) (n : Nat) (ops : Array Oper) : List Nat → St G.U.El → Option (St G.U.El)
  | [], σ => some σ
  | i :: is, σ => match ops.toList[i]? with
    | none => none
    | some o => (step G con n ops.toList o σ).bind (steps G con n ops is)

theorem aOps_steps (K : St G.U.El → Option ρ) : ∀ (is : List Nat) (σ : St G.U.El), aOps G con n ops.toList is σ K = (steps G con n ops is σ).bind K
  | [], σ => rfl
  | i :: is, σ => by
    simp only [aOps, steps]
    cases ops.toList[i]? with
    | none => rfl
    | some o =>
      dsimp only
      rw [aOper_nat]
      cases step G con n ops.toList o σ with
      | none => rfl
      | some σ' => exact aOps_steps K is σ'

/-- What may be put off. -/
def Free (G : Cfg) (ops : Array Oper) (x y : Nat) : Prop := ∃ a b, ops[x]? = some a ∧ ops[y]? = some b ∧ opKind G a ≤ 1 ∧ (opKind G a = 0 ∨ opKind G b ≤ 2) ∧ a.apart ops b = true

theorem steps_front {i : Nat} {post : List Nat} : ∀ {pre : List Nat} {σ σ' : St G.U.El}, (∀ p ∈ pre, Free G ops p i) → steps G con n ops (pre ++ i :: post) σ = some σ' → steps G con n ops (i :: (pre ++ post)) σ = some σ'
  | [], _, _, _, h => h
  | p :: pre, σ, σ', hp, h => by
    obtain ⟨a, b, ha, hb, k1, k2, hab⟩ := hp p (by simp)
    rw [List.cons_append] at h
    simp only [steps, Array.getElem?_toList, ha] at h
    obtain ⟨σ1, h1, h⟩ := Option.bind_eq_some_iff.1 h
    have h2 := steps_front (pre := pre) (fun q hq => hp q (by simp [hq])) h
    simp only [steps, Array.getElem?_toList, hb] at h2
    obtain ⟨σ2, h2, h3⟩ := Option.bind_eq_some_iff.1 h2
    obtain ⟨σ1', h4, h5⟩ := step_swap k1 k2 hab h1 h2
    simp only [List.cons_append, steps, Array.getElem?_toList, hb, ha]
    rw [h4, Option.bind_some, h5, Option.bind_some, h3]
end
end Go.Proofs.Ytigoabhkdipdeaa.AM
