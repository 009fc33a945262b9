/- A part of the plain reading of Go's code: what a function's code comes to, by a plain function. No condition. -/
import Derived.Test.YtigoabhkdipdeaaZAU
namespace Go.Proofs.Ytigoabhkdipdeaa.AM
open Go.RowKit
variable {ρ : Type}

def VsR (U : Univ) (B : Nat → Prop) (ι : Nat → Value) (m : List (Blk U.El)) (w : World) : List (V U.El) → List Value → Prop
  | [], vs => vs = []
  | x :: xs, vs => ∃ v r, vs = v :: r ∧ VR U B ι m w x v ∧ VsR U B ι m w xs r

/-- The function can be entered. -/
def Enters (P : Program) (f : Nat) : Prop := ∃ fn, P.funcs[f]? = some fn ∧ (fn.name == "runtime.NumGoroutine") = false ∧ fn.body.isSome = true

/-- The concrete values of what comes back. -/
def S1.bkV : S1 → List Value → List Value
  | .ip _, vs => vs.take 1
  | _, _ => []
def bkV1 (U : Univ) : List S1 → List Value → List Value
  | [], _ => []
  | s :: ss, vs => s.bkV vs ++ bkV1 U ss (vs.drop (s.width U))
def AS.bkV (U : Univ) : AS → Value → List Value
  | .c s, v => s.bkV [v]
  | .agg ss, .agg vs => bkV1 U ss vs.toList
  | .io _ _, v => [v]
  | .fnp _ (_ :: _), .func _ _ vs => vs.toList
  | _, _ => []
def bkVs (U : Univ) : List AS → List Value → List Value
  | s :: ss, v :: vs => s.bkV U v ++ bkVs U ss vs
  | _, _ => []

/-- The blocks that a call hands out, and those that come back behind them. -/
def endMem {El : Nat → Type} (ins outs : List AS) (y : Os El (outs ++ bkSs ins)) : List (Blk El) :=
  (encOs true true (outs ++ bkSs ins) y []).2 ++ bkBlks (bkSs ins) ((encOs true true (outs ++ bkSs ins) y []).1.drop outs.length)

/-- What a call's end must hold: of the new blocks, and of those that it was handed. -/
def Ended (U : Univ) (D S : Nat → Prop) (ins outs : List AS) (y : Os U.El (outs ++ bkSs ins)) (w w' : World) (cargs : List Value) (u : Value) : Prop :=
  Fr S w w' ∧ ∃ ι', VR U D ι' (endMem ins outs y) w' (resV ((encOs true true (outs ++ bkSs ins) y []).1.take outs.length)) u ∧ MR U D S ι' (endMem ins outs y) w' ∧
    ∀ j v, (bkVs U ins cargs)[j]? = some v → ι' ((encOs true true (outs ++ bkSs ins) y []).2.length + j) = v

structure ConOk (P : Program) (U : Univ) (key : Nat) (c : Con U.El) : Prop where
  enters : Enters P (key % 65536)
  sound : ∀ n x y, c.plain n x = some y → ∀ (D S : Nat → Prop) (ι : Nat → Value) (cargs : List Value) (w : World), (∀ k, w.heap.size ≤ k → S k) → (∀ k, S k → D k) →
    VsR U D ι (encIs c.ins x []).2 w (encIs c.ins x []).1 cargs → MR U D S ι (encIs c.ins x []).2 w →
    Calls P (key % 65536) cargs.toArray w fun e w' => ∃ u, e = .returned u ∧ Ended U D S c.ins c.outs y w w' cargs u

section
variable {P : Program} {G : Cfg} {B : Nat → Prop} {S : Nat → Prop} {ι : Nat → Value} {m : List (Blk G.U.El)} {w : World} {r : ρ}

theorem vr_w {x : W G.U.El} {v : Value} (h : WR G.U B ι m w x v) : VR G.U B ι m w (.w x) v := h

theorem ofConst_ok (v : Value) : VR G.U B ι m w (ofConst v) v := by
  cases v
  case agg cs =>
    simp only [ofConst]
    split
    · rename_i h
      exact ⟨cs.toList, rfl, CsR.scs fun v hv => List.all_eq_true.1 h v hv⟩
    · trivial
  case tuple => trivial
  all_goals exact vr_w (wr_sc rfl)

/-- The temporaries are what the environment says. -/
def ER (U : Univ) (B : Nat → Prop) (ι : Nat → Value) (m : List (Blk U.El)) (w : World) (e : Nat → V U.El) (a : Act) : Prop := ∀ t, VR U B ι m w (e t) (a.tmps.getD t undef)

theorem opv_ok {e : Nat → V G.U.El} {a : Act} (h : ER G.U B ι m w e a) (x : Operand) : VR G.U B ι m w (opv e x) (a.eval x) := by
  cases x with
  | tmp t => exact h t
  | const v => exact ofConst_ok v
  | func f => exact ⟨[], rfl, rfl, fun j p u hp _ => by simp at hp⟩
  | global g => trivial

theorem ps_ok {e : Nat → V G.U.El} {a : Act} (h : ER G.U B ι m w e a) : ∀ ps : List (Nat × Operand), PsR G.U B ι m w (ps.map fun p => (p.1, opv e p.2)) (ps.map fun p => (p.1, a.eval p.2))
  | [] => rfl
  | p :: ps => ⟨_, _, rfl, opv_ok h p.2, ps_ok h ps⟩

theorem vs_ok {e : Nat → V G.U.El} {a : Act} (h : ER G.U B ι m w e a) : ∀ xs : List Operand, VsR G.U B ι m w (xs.map (opv e)) (xs.map a.eval)
  | [] => rfl
  | x :: xs => ⟨_, _, rfl, opv_ok h x, vs_ok h xs⟩

theorem ovr_ok {e : Nat → V G.U.El} {a : Act} (h : ER G.U B ι m w e a) (x : Option Operand) : OVR G.U B ι m w (x.map (opv e)) (x.map a.eval) := by
  cases x with
  | none => trivial
  | some x => exact opv_ok h x

/-- What an operation must come to. -/
def OpOk (P : Program) (G : Cfg) (B : Nat → Prop) (S : Nat → Prop) (ι : Nat → Value) (m : List (Blk G.U.El)) (w : World) (s : Sem Next) (K : V G.U.El → List (Blk G.U.El) → Option ρ) (r : ρ) : Prop :=
  (∃ v u ι' m' w', (s.run P w = .ok (.value u) w' ∨ (s.run P w = .ok .skip w' ∧ u = undef)) ∧ K v m' = some r ∧ VR G.U B ι' m' w' v u ∧ Grow G.U ι m w ι' m' w' ∧ MR G.U B S ι' m' w' ∧ Fr S w w') ∨
  (∃ f args, s.run P w = .ok (.enter f args) w ∧ Calls P f args w fun e w' => ∃ v u ι' m', e = .returned u ∧ K v m' = some r ∧ VR G.U B ι' m' w' v u ∧ Grow G.U ι m w ι' m' w' ∧ MR G.U B S ι' m' w' ∧ Fr S w w')

variable {K : V G.U.El → List (Blk G.U.El) → Option ρ}

theorem OpOk.ofP (hm : MR G.U B S ι m w) {s : Sem Value} {s' : Sem Next} (hs : ∀ u w', s.run P w = .ok u w' → s'.run P w = .ok (.value u) w') (h : RunsP P G B ι m w s (fun x => K (.w x) m) r) : OpOk P G B S ι m w s' K r :=
  let ⟨x, u, h1, h2, h3⟩ := h
  .inl ⟨.w x, u, ι, m, w, .inl (hs _ _ h1), h2, h3, Grow.refl, hm, Fr.refl _ _⟩

theorem OpOk.ofM {s : Sem Value} {s' : Sem Next} (hs : ∀ u w', s.run P w = .ok u w' → s'.run P w = .ok (.value u) w') (h : RunsM P G B S ι m w s (fun x m' => K (.w x) m') r) : OpOk P G B S ι m w s' K r :=
  let ⟨x, u, ι', m', w', h1, h2, h3⟩ := h
  .inl ⟨.w x, u, ι', m', w', .inl (hs _ _ h1), h2, h3⟩

theorem WsR.get {xs : List (W G.U.El)} {vs : List Value} (h : WsR G.U B ι m w xs vs) : ∀ {i : Nat} {x : W G.U.El}, xs[i]? = some x → ∃ v, vs[i]? = some v ∧ WR G.U B ι m w x v := by
  induction xs generalizing vs with
  | nil => intro i x h; simp at h
  | cons y ys ih =>
    intro i x hx
    obtain ⟨v, r', rfl, h1, h2⟩ := h
    cases i with
    | zero => simp at hx; subst hx; exact ⟨v, rfl, h1⟩
    | succ i => exact ih h2 (by simpa using hx)

theorem caps_ok : ∀ {vs : List (V G.U.El)} {us : List Value} {cs : List (Nat × Nat)}, VsR G.U B ι m w vs us → capsOf vs = some cs → us.length = cs.length ∧ ∀ (j : Nat) (p : Nat × Nat) (u : Value), cs[j]? = some p → us[j]? = some u → PR G.U ι m p.1 p.2 u
  | [], us, cs, h, hc => by
    cases h
    cases hc
    exact ⟨rfl, fun j p u hp _ => by simp at hp⟩
  | .w (.c (.ptr a b)) :: vs, us, cs, ⟨u, us', e, h1, h2⟩, hc => by
    subst e
    obtain ⟨cs', h3, rfl⟩ := Option.map_eq_some_iff.1 (by simpa [capsOf] using hc)
    obtain ⟨h4, h5⟩ := caps_ok h2 h3
    refine ⟨by simp [h4], fun j p u' hp hu => ?_⟩
    cases j with
    | zero => simp at hp hu; subst hp; subst hu; exact h1
    | succ j => exact h5 j p u' (by simpa using hp) (by simpa using hu)
  | .un :: _, _, _, _, hc | .und :: _, _, _, _, hc | .tup _ :: _, _, _, _, hc | .w (.agg _) :: _, _, _, _, hc => by simp [capsOf] at hc
  | .w (.c (.sc _)) :: _, _, _, _, hc | .w (.c (.row ..)) :: _, _, _, _, hc | .w (.c (.sl _)) :: _, _, _, _, hc | .w (.c (.sub ..)) :: _, _, _, _, hc | .w (.c (.arr ..)) :: _, _, _, _, hc | .w (.c (.pda ..)) :: _, _, _, _, hc
  | .w (.c (.parr ..)) :: _, _, _, _, hc | .w (.c (.prow ..)) :: _, _, _, _, hc | .w (.c (.fn ..)) :: _, _, _, _, hc => by simp [capsOf] at hc
end
end Go.Proofs.Ytigoabhkdipdeaa.AM
