/- A part of the plain reading of Go's code: what a function's code comes to, by a plain function. No condition. -/
import Derived.Test.YtigoabhkdipdeaaZBD
import Derived.Test.YtigoabhkdipdeaaZBG
import Derived.KernelRfl
namespace Go.Proofs.Ytigoabhkdipdeaa.AM
variable {ρ : Type}

/-! The rounds of loops and the joins as one list of equations. -/
structure Sides (ρ : Type) where
  X : Type
  l : Nat → X → Option ρ
  r : Nat → X → Option ρ
def Sides.left (s : Sides ρ) : Σ X : Type, Nat → X → Option ρ := ⟨s.X, s.l⟩
def Sides.right (s : Sides ρ) : Σ X : Type, Nat → X → Option ρ := ⟨s.X, s.r⟩

section
variable (G : Cfg) (con : Nat → Nat → Option (Con G.U.El)) (L : Nat → Option (LoopC G.U.El ρ))
noncomputable def sides (c : Code) : Nat → Kt G.U ρ → List (Sides ρ) :=
  Code.rec (motive := fun _ => Nat → Kt G.U ρ → List (Sides ρ))
    (fun _ _ => [])
    (fun id ops draw _ K => match L (2 * id + 1) with
      | some c => [⟨c.shape.X G.U.El, c.l, fun n x => aRegion G con ops draw n (c.shape.enc x) K⟩]
      | none => [])
    (fun _ b a' b' k K => a' k (fun n e σ => match e with | .normal => aev G con L b k n σ K | .ret => K n .ret σ | .exit i => K n (.exit i) σ) ++ b' k K)
    (fun _ _ _ x y k K => x k K ++ y k K)
    (fun id _ c _ K => c id fun n e σ => match e with | .exit i => cond (Nat.beq i id) (K n .normal σ) (K n (.exit i) σ) | .normal => K n .normal σ | .ret => K n .ret σ)
    (fun body b k K => (match L (2 * k) with
      | some c => [⟨c.shape.X G.U.El, fun _ x => c.l 0 x, fun _ _ => none⟩, ⟨c.shape.X G.U.El, fun n x => c.l (n + 1) x, fun n x => aev G con L body k n (c.shape.enc x) (fun n e σ => match e with | .normal => headOf G L (2 * k) n σ | .ret => K n .ret σ | .exit i => K n (.exit i) σ)⟩]
      | none => []) ++ b k fun n e σ => match e with | .normal => headOf G L (2 * k) n σ | .ret => K n .ret σ | .exit i => K n (.exit i) σ)
    (fun _ _ _ _ _ _ _ _ => [])
    (fun _ _ _ => [])
    (fun _ _ _ _ => [])
    (fun _ _ _ => [])
    (fun _ _ _ => [])
    (fun _ _ => [])
    (fun _ _ _ => []) c
end

theorem map_sides {l : List (Sides ρ)} (h : l.map Sides.left = l.map Sides.right) : ∀ s ∈ l, s.l = s.r := by
  induction l with
  | nil => intro s hs; cases hs
  | cons a l ih =>
    simp only [List.map_cons, List.cons.injEq] at h
    intro s hs
    rcases List.mem_cons.1 hs with rfl | hs
    · obtain ⟨X, f, g⟩ := s
      have := h.1
      simp only [Sides.left, Sides.right, Sigma.mk.injEq, heq_eq_eq, true_and] at this
      exact this
    · exact ih h.2 s hs

section
variable {G : Cfg} {con : Nat → Nat → Option (Con G.U.El)} {L : Nat → Option (LoopC G.U.El ρ)}
theorem loopsOk_of (c : Code) : ∀ (k : Nat) (K : Kt G.U ρ), (∀ s ∈ sides G con L c k K, s.l = s.r) → loopsOk G con L c k K := by
  induction c with
  | skip => exact fun _ _ _ => trivial
  | region id ops draw =>
    intro k K h c hc n x r hr
    have h' : ∀ s ∈ (match L (2 * id + 1) with | some c => [(⟨c.shape.X G.U.El, c.l, fun n x => aRegion G con ops draw n (c.shape.enc x) K⟩ : Sides ρ)] | none => []), s.l = s.r := h
    rw [hc] at h'
    have := h' _ (List.mem_singleton.2 rfl)
    exact (congrFun (congrFun this n) x).symm.trans hr
  | seq x y ihx ihy =>
    intro k K h
    have h' : ∀ s ∈ sides G con L x k _ ++ sides G con L y k K, s.l = s.r := h
    exact ⟨ihx k _ fun s hs => h' s (List.mem_append_left _ hs), ihy k K fun s hs => h' s (List.mem_append_right _ hs)⟩
  | cond c x y ihx ihy =>
    intro k K h
    have h' : ∀ s ∈ sides G con L x k K ++ sides G con L y k K, s.l = s.r := h
    exact ⟨ihx k _ fun s hs => h' s (List.mem_append_left _ hs), ihy k K fun s hs => h' s (List.mem_append_right _ hs)⟩
  | block id c ih => exact fun k K h => ih id _ h
  | loop body ih =>
    intro k K h
    have h' : ∀ s ∈ (match L (2 * k) with
      | some c => [(⟨c.shape.X G.U.El, fun _ x => c.l 0 x, fun _ _ => none⟩ : Sides ρ), ⟨c.shape.X G.U.El, fun n x => c.l (n + 1) x, fun n x => aev G con L body k n (c.shape.enc x) (fun n e σ => match e with | .normal => headOf G L (2 * k) n σ | .ret => K n .ret σ | .exit i => K n (.exit i) σ)⟩]
      | none => []) ++ sides G con L body k (fun n e σ => match e with | .normal => headOf G L (2 * k) n σ | .ret => K n .ret σ | .exit i => K n (.exit i) σ), s.l = s.r := h
    refine ⟨fun c hc => ?_, ih k _ fun s hs => h' s (List.mem_append_right _ hs)⟩
    have h1 := fun s hs => h' s (List.mem_append_left _ hs)
    rw [hc] at h1
    refine ⟨fun x => ?_, fun n x r hr => ?_⟩
    · exact congrFun (congrFun (h1 _ (List.mem_cons_self ..)) 0) x
    · exact (congrFun (congrFun (h1 _ (List.mem_cons_of_mem _ (List.mem_singleton.2 rfl))) n) x).symm.trans hr
  | exit id => exact fun _ _ _ => trivial
  | ret => exact fun _ _ _ => trivial
  | rangeFunc => exact fun _ _ _ => trivial
  | scope => exact fun _ _ _ => trivial
  | label => exact fun _ _ _ => trivial
  | goto => exact fun _ _ _ => trivial
  | refuse => exact fun _ _ _ => trivial
end

def lk {α : Type _} : List (Nat × α) → Nat → Option α
  | [], _ => none
  | p :: ps, k => cond (Nat.beq p.1 k) (some p.2) (lk ps k)

def ConsOk (P : Program) (U : Univ) : List (Nat × Con U.El) → Prop
  | [] => True
  | p :: ps => ConOk P U p.1 p.2 ∧ ConsOk P U ps
theorem consOk {P : Program} {U : Univ} : ∀ {l : List (Nat × Con U.El)}, ConsOk P U l → ∀ f c, lk l f = some c → ConOk P U f c
  | [], _, _, _, h => by cases h
  | p :: ps, hl, f, c, h => by
    unfold lk at h
    cases hb : Nat.beq p.1 f with
    | true =>
      rw [hb] at h
      cases h
      rw [← Nat.eq_of_beq_eq_true hb]
      exact hl.1
    | false => rw [hb] at h; exact consOk hl.2 f c h

def fnB (G : Cfg) (fn : Func) (ins : List AS) : Bool := fn.body.isSome && !(fn.name == "runtime.NumGoroutine") && Nat.beq G.ntmps fn.ntmps && Nat.ble ins.length G.ntmps

noncomputable def sidesF (G : Cfg) (con : Nat → Nat → Option (Con G.U.El)) (fn : Func) (ins outs : List AS) (L : Nat → Option (LoopC G.U.El (Os G.U.El (outs ++ bkSs ins)))) : List (Sides (Os G.U.El (outs ++ bkSs ins))) :=
  match fn.body with
  | some c => sides G con L c 0 (kEnd G fn ins outs)
  | none => []

/-- A function is what its plain function says: three equations that the kernel checks. -/
theorem fun_ok {P : Program} {U : Univ} {ti : Nat → Option TI} {own : List Nat} {N : Nat} {ios pins : List Nat} (hF : Fits P U ti) {cs : List (Nat × Con U.El)} (hcs : ConsOk P U cs) {f : Nat} {fn : Func} (hf : P.funcs[f % 65536]? = some fn) {ins outs : List AS} {L : Nat → Option (LoopC U.El (Os U.El (outs ++ bkSs ins)))} {plain : Nat → ASs U.El ins → Option (Os U.El (outs ++ bkSs ins))}
    (hb : fnB ⟨U, ti, own, N, ios, pins⟩ fn ins = true)
    (hs : (sidesF ⟨U, ti, own, N, ios, pins⟩ (fun _ => lk cs) fn ins outs L).map Sides.left = (sidesF ⟨U, ti, own, N, ios, pins⟩ (fun _ => lk cs) fn ins outs L).map Sides.right)
    (hp : plain = fun n x => aFun ⟨U, ti, own, N, ios, pins⟩ (fun _ => lk cs) fn ins outs L n x) : ConOk P U f ⟨ins, outs, plain⟩ := by
  unfold fnB at hb
  simp only [Bool.and_eq_true, Bool.not_eq_true'] at hb
  obtain ⟨⟨⟨h1, h2⟩, h3⟩, h4⟩ := hb
  obtain ⟨c, hc⟩ := Option.isSome_iff_exists.1 h1
  have hs' := map_sides hs
  unfold sidesF at hs'
  rw [hc] at hs'
  refine aFun_ok (G := ⟨U, ti, own, N, ios, pins⟩) hF (fun _ => consOk hcs) hf hc h2 (Nat.eq_of_beq_eq_true h3) (Nat.le_of_ble_eq_true h4) (loopsOk_of c 0 _ hs') (plain := plain) fun n x y h => ?_
  rw [hp] at h
  unfold aFun at h
  rw [hc] at h
  exact h
end Go.Proofs.Ytigoabhkdipdeaa.AM
