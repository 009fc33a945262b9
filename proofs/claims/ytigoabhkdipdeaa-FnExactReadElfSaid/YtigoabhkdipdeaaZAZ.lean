/- A part of the plain reading of Go's code: what a function's code comes to, by a plain function. No condition. -/
import Derived.Test.YtigoabhkdipdeaaZAY
import Derived.Deep.LoopGhost
namespace Go.Proofs.Ytigoabhkdipdeaa.AM
open Go.RowKit
variable {ρ : Type}

/-- What a function runs in: the world at its start, what it may hand on, what it may write, the temporaries that nobody writes. -/
structure Frm where
  w0 : World
  D : Nat → Prop
  S : Nat → Prop
  pins : List Nat
  pa : Nat → Value
  fresh : ∀ k, w0.heap.size ≤ k → S k
  sd : ∀ k, S k → D k

/-- The state is what the machine's is. -/
def SR (U : Univ) (N : Nat) (w0 : Frm) (σ : St U.El) (a : Act) (w : World) : Prop :=
  ∃ ι, ER U w0.D ι σ.mem w σ.env a ∧ a.tmps.size = N ∧ a.defers = [] ∧ MR U w0.D w0.S ι σ.mem w ∧ Fr w0.S w0.w0 w ∧ ∀ i ∈ w0.pins, a.tmps.getD i undef = w0.pa i

section
variable {P : Program} {G : Cfg} {w0 : Frm} {w : World} {a : Act} {r : ρ}

theorem ER.put {U : Univ} {B : Nat → Prop} {ι : Nat → Value} {m : List (Blk U.El)} {w : World} {e : Nat → V U.El} {a : Act} (h : ER U B ι m w e a) {dst : Option Nat} {v : V U.El} {u : Value} (hv : VR U B ι m w v u) (hd : ∀ d, dst = some d → d < a.tmps.size) :
    ER U B ι m w (upd e dst v) (a.put dst u) := by
  intro t
  cases dst with
  | none => exact h t
  | some d =>
    have hlt := hd d rfl
    simp only [upd, Act.put]
    by_cases htd : t = d
    · subst htd
      simpa [hlt] using hv
    · have h1 : Nat.beq t d = false := by
        cases hb : Nat.beq t d with
        | false => rfl
        | true => exact absurd (Nat.eq_of_beq_eq_true hb) htd
      rw [h1]
      have := h t
      simp only [cond_false]
      rw [show (a.tmps.setIfInBounds d u).getD t undef = a.tmps.getD t undef by
        simp only [Array.getD_eq_getD_getElem?, Array.getElem?_setIfInBounds_ne (Ne.symm htd)]]
      exact this

theorem dstOk_lt {N : Nat} {pins : List Nat} {dst : Option Nat} (h : dstOk N pins dst = true) : ∀ d, dst = some d → d < N ∧ d ∉ pins := by
  rintro d rfl
  simp only [dstOk, Bool.and_eq_true, Bool.not_eq_true'] at h
  exact ⟨Nat.le_of_ble_eq_true h.1, fun hm => by rw [List.contains_iff_mem.2 hm] at h; cases h.2⟩

theorem put_pin {a : Act} {pins : List Nat} {dst : Option Nat} {u : Value} (hd : ∀ d, dst = some d → d ∉ pins) {i : Nat} (hi : i ∈ pins) : (a.put dst u).tmps.getD i undef = a.tmps.getD i undef := by
  cases dst with
  | none => rfl
  | some d =>
    have hne : d ≠ i := fun e => hd d rfl (e ▸ hi)
    simp only [Act.put, Array.getD_eq_getD_getElem?, Array.getElem?_setIfInBounds_ne hne]

theorem upd_same {El : Nat → Type} (e : Nat → V El) (t : Nat) : upd e (some t) (e t) = e := by
  funext s
  simp only [upd]
  cases hb : Nat.beq s t with
  | false => rfl
  | true => rw [Nat.eq_of_beq_eq_true hb]; rfl

/-- One operation. -/
theorem aOper_ok (hF : Fits P G.U G.ti) {con : Nat → Option (Con G.U.El)} (hcon : ∀ f c, con f = some c → ConOk P G.U f c) {n : Nat} {ops : Array Oper} {o : Oper} {σ : St G.U.El} {K : St G.U.El → Option ρ} {next : Act → World → Prop}
    {Q : Exit → Act → World → Prop} (hσ : SR G.U G.ntmps w0 σ a w) (hpin : w0.pins = G.pins) (h : aOper G con n ops.toList o σ K = some r) (hk : ∀ σ' a' w', K σ' = some r → SR G.U G.ntmps w0 σ' a' w' → next a' w') :
    if Region.wanted o (yielded ops a.tmps) then o.wp P a w next Q ∨ (o.asks P a w ∧ LetsOut Q) else next (a.put o.dst undef) w := by
  obtain ⟨ι, hE, hN, hD, hM, hFr, hPn⟩ := hσ
  unfold aOper at h
  split at h
  case isFalse => cases h
  rename_i hd
  have hlt : ∀ d, o.dst = some d → d < a.tmps.size := fun d hd' => by rw [hN]; exact (dstOk_lt hd d hd').1
  have hnp : ∀ d, o.dst = some d → d ∉ w0.pins := fun d hd' => by rw [hpin]; exact (dstOk_lt hd d hd').2
  have skip : ∀ {e : Nat → V G.U.El}, e = σ.env → K ⟨upd e o.dst .und, σ.mem⟩ = some r → next (a.put o.dst undef) w := by
    rintro e rfl hK
    refine hk _ _ _ hK ⟨ι, hE.put rfl hlt, ?_, ?_, hM, hFr, fun i hi => (put_pin hnp hi).trans (hPn i hi)⟩
    · cases o.dst <;> simp [Act.put, hN]
    · cases o.dst <;> exact hD
  have run : ∀ {e : Nat → V G.U.El}, e = σ.env → (aOp G con n o e σ.mem fun v m => K ⟨upd e o.dst v, m⟩) = some r → o.wp P a w next Q := by
    rintro e rfl hr
    have hop := aOp_ok hF hcon hE hM (fun k hk' => w0.fresh k (Nat.le_trans hFr.size hk')) w0.sd hr
    have fin : ∀ {v : V G.U.El} {u : Value} {ι' : Nat → Value} {m' : List (Blk G.U.El)} {w' : World}, K ⟨upd σ.env o.dst v, m'⟩ = some r → VR G.U w0.D ι' m' w' v u → Grow G.U ι σ.mem w ι' m' w' → MR G.U w0.D w0.S ι' m' w' → Fr w0.S w w' → next (a.put o.dst u) w' := by
      intro v u ι' m' w' h1 h2 h3 h4 h5
      refine hk _ _ _ h1 ⟨ι', ?_, ?_, ?_, h4, hFr.trans h5, fun i hi => (put_pin hnp hi).trans (hPn i hi)⟩
      · exact ER.put (fun t => (hE t).grow h3) h2 hlt
      · cases o.dst <;> simp [Act.put, hN]
      · cases o.dst <;> exact hD
    unfold Oper.wp
    rcases hop with ⟨v, u, ι', m', w', hrun, h1, h2, h3, h4, h5⟩ | ⟨f, args, hrun, hcall⟩
    · rcases hrun with hrun | ⟨hrun, rfl⟩
      · rw [hrun]; exact fin h1 h2 h3 h4 h5
      · rw [hrun]; exact fin h1 h2 h3 h4 h5
    · rw [hrun]
      refine Calls.mono hcall ?_
      rintro e w' ⟨v, u, ι', m', rfl, h1, h2, h3, h4, h5⟩
      exact fin h1 h2 h3 h4 h5
  split at h
  · rename_i hg
    rw [if_pos (by simp [Region.wanted, hg])]
    exact .inl (run rfl h)
  · rename_i j want hg
    split at h
    · cases h
    · rename_i t ht
      split at h
      case isFalse => cases h
      rename_i htN
      rw [Bool.and_eq_true] at htN
      have htlt : t < a.tmps.size := by rw [hN]; exact Nat.le_of_ble_eq_true htN.1
      have ht' : (ops[j]?).bind (·.dst) = some t := by rw [← Array.getElem?_toList]; exact ht
      have hget : a.tmps[t]? = some (a.tmps.getD t undef) := by simp [htlt]
      have hv := hE t
      split at h
      · rename_i hu
        rw [hu] at hv
        have hy : yielded ops a.tmps j = none := by
          unfold yielded
          rw [ht', Option.bind_some, hget, show a.tmps.getD t undef = undef from hv]
          rfl
        rw [if_neg (by simp [Region.wanted, hg, hy])]
        exact skip rfl h
      · rename_i b hu
        rw [hu] at hv
        have hy : yielded ops a.tmps j = some b := by
          unfold yielded
          rw [ht', Option.bind_some, hget, vr_sc hv]
        have he : ∀ c, b = c → upd σ.env (some t) (.w (bool c)) = σ.env := by
          rintro c rfl
          have := upd_same σ.env t
          rwa [hu] at this
        rcases cond_some.1 h with ⟨hb, h⟩ | ⟨hb, h⟩
        · split at h
          · rename_i hw
            rw [if_pos (by simp [Region.wanted, hg, hy, hb, hw])]
            exact .inl (run (he _ hb) h)
          · rename_i hw
            rw [if_neg (by simp [Region.wanted, hg, hy, hb]; simpa using hw)]
            exact skip (he _ hb) h
        · split at h
          · rename_i hw
            rw [if_neg (by simp [Region.wanted, hg, hy, hb, hw])]
            exact skip (he _ hb) h
          · rename_i hw
            rw [if_pos (by simp [Region.wanted, hg, hy, hb]; simpa using hw)]
            exact .inl (run (he _ hb) h)
      · cases h

theorem aOps_ok (hF : Fits P G.U G.ti) {con : Nat → Option (Con G.U.El)} (hcon : ∀ f c, con f = some c → ConOk P G.U f c) {n : Nat} {ops : Array Oper} {K : St G.U.El → Option ρ} {Q : Exit → Act → World → Prop}
    (hpin : w0.pins = G.pins) (hk : ∀ σ' a' w', K σ' = some r → SR G.U G.ntmps w0 σ' a' w' → Q .normal a' w') : ∀ {is : List Nat} {σ : St G.U.El} {a : Act} {w : World}, SR G.U G.ntmps w0 σ a w → aOps G con n ops.toList is σ K = some r → wpOps P ops Q is a w
  | [], σ, a, w, hσ, h => hk σ a w h hσ
  | i :: is, σ, a, w, hσ, h => by
    simp only [aOps] at h
    simp only [wpOps]
    rw [Array.getElem?_toList] at h
    split at h
    · cases h
    · rename_i o ho
      rw [ho]
      exact aOper_ok hF hcon hσ hpin h fun σ' a' w' h1 h2 => aOps_ok hF hcon hpin hk h2 h1
end
end Go.Proofs.Ytigoabhkdipdeaa.AM
