/- A part of the plain reading of Go's code: what a function's code comes to, by a plain function. No condition. -/
import Derived.Test.YtnjmkkgmlkhjeaaZA1
import Derived.Deep.LoopGhost
import Derived.LoopN
import Derived.Test.YtnjmkkgmlkhjeaaZA0
import Derived.KernelRfl
namespace Go.Proofs.Ytnjmkkgmlkhjeaa.AM
open Go.RowKit
variable {ρ : Type}

section
variable {P : Program} {G : Cfg} {B : Nat → Prop} {S : Nat → Prop} {ι : Nat → Value} {m : List (Blk G.U.El)} {w : World} {r : ρ} {K : V G.U.El → List (Blk G.U.El) → Option ρ}

theorem VsR.app : ∀ {xs ys : List (V G.U.El)} {us vs : List Value}, VsR G.U B ι m w xs us → VsR G.U B ι m w ys vs → VsR G.U B ι m w (xs ++ ys) (us ++ vs)
  | [], _, _, _, h, h' => by cases h; exact h'
  | _ :: _, _, _, _, ⟨u, r, e, h1, h2⟩, h' => ⟨u, r ++ _, by rw [e]; rfl, h1, VsR.app h2 h'⟩

theorem ptrsOf_ok : ∀ {caps : List (Nat × Nat)} {vs : List Value}, vs.length = caps.length → (∀ (j : Nat) (p : Nat × Nat) (u : Value), caps[j]? = some p → vs[j]? = some u → PR G.U ι m p.1 p.2 u) → VsR G.U B ι m w (ptrsOf caps) vs
  | [], [], _, _ => rfl
  | p :: caps, v :: vs, hl, h => ⟨v, vs, rfl, h 0 p v rfl rfl, ptrsOf_ok (by simpa using hl) fun j q u hq hu => h (j + 1) q u (by simpa using hq) (by simpa using hu)⟩
  | [], _ :: _, hl, _ => by simp at hl
  | _ :: _, [], hl, _ => by simp at hl

theorem enters_run {f : Nat} (h : Enters P f) (args : Array Value) (w : World) : (callFunc f args).run P w = .ok (.enter f args) w := by
  obtain ⟨fn, hf, hn, hb⟩ := h
  have h1 : fn.name ≠ "runtime.NumGoroutine" := by simpa using hn
  obtain ⟨c, hc⟩ := Option.isSome_iff_exists.1 hb
  simp [callFunc, hf, h1, hc]

theorem aOp_ok (hF : Fits P G.U G.ti) {con : Nat → Option (Con G.U.El)} (hcon : ∀ f c, con f = some c → ConOk P G.U f c) {n : Nat} {o : Oper} {e : Nat → V G.U.El} {a : Act} (hE : ER G.U B ι m w e a)
    (hm : MR G.U B S ι m w) (hS : ∀ k, w.heap.size ≤ k → S k) (hSB : ∀ k, S k → B k) (h : aOp G con n o e m K = some r) : OpOk P G B S ι m w (execOp a.eval o) K r := by
  unfold aOp at h
  unfold execOp
  simp only [] at h ⊢
  split at h <;> (try (rename_i heq; rw [heq]; dsimp only))
  · exact .inl ⟨_, _, ι, m, w, .inl rfl, h, opv_ok hE _, Grow.refl, hm, Fr.refl _ _⟩
  · exact .inl ⟨_, _, ι, m, w, .inl rfl, h, opv_ok hE _, Grow.refl, hm, Fr.refl _ _⟩
  · -- pick
    rename_i c x y
    split at h
    · rename_i t hc
      have hv := opv_ok hE c
      rw [hc] at hv
      have hcv := vr_sc hv
      rcases cond_some.1 h with ⟨rfl, h⟩ | ⟨rfl, h⟩
      · exact .inl ⟨_, _, ι, m, w, .inl (by simp [hcv, asBool]), h, opv_ok hE _, Grow.refl, hm, Fr.refl _ _⟩
      · exact .inl ⟨_, _, ι, m, w, .inl (by simp [hcv, asBool]), h, opv_ok hE _, Grow.refl, hm, Fr.refl _ _⟩
    · cases h
  · -- alloc
    split at h
    · rename_i t x hx
      exact .ofM (fun u w' hr => by simp [hr]) (aAlloc_ok (K2 := fun x m' => K (.w x) m') hF hm hS hx h)
    · cases h
  · -- box
    rename_i t x
    split at h
    · rename_i y z hv hz
      split at h
      · have hv' := opv_ok hE x
        rw [hv] at hv'
        exact .ofM (fun u w' hr => by simp [hr]) (aBox_ok (K2 := fun x m' => K (.w x) m') hF hm hS hv' h)
      · cases h
    · cases h
  · -- build
    rename_i t ps
    refine .ofP hm (s := Instr.build t (ps.map fun p => (p.1, a.eval p.2))) (fun u w' hr => by simp [hr]) (aBuild_ok hF ?_ h)
    have := ps_ok hE ps.toList
    simpa using this
  · -- buildSlice
    rename_i t len ps
    have := ps_ok hE ps.toList
    split at h
    · exact .ofM (s := Instr.buildSlice t len (ps.map fun p => (p.1, a.eval p.2))) (fun u w' hr => by simp [hr]) (aBuildFns_ok (K2 := fun x m' => K (.w x) m') hF hm hS (by simpa using this) h)
    · exact .ofM (s := Instr.buildSlice t len (ps.map fun p => (p.1, a.eval p.2))) (fun u w' hr => by simp [hr]) (aBuildSlice_ok (K2 := fun x m' => K (.w x) m') hF hm hS (fun k hk => hSB k (hS k hk)) (by simpa using this) h)
  · -- load
    rename_i t x
    exact .ofP hm (s := Instr.loadAt t (a.eval x)) (fun u w' hr => by simp [hr]) (aLoad_ok hF hm (opv_ok hE x) h)
  · -- store
    rename_i t x y
    split at h
    · rename_i m' hst
      obtain ⟨w', h1, h2, h3, h4⟩ := aStore_ok hF hm (opv_ok hE x) (opv_ok hE y) hst
      exact .inl ⟨.und, undef, ι, m', w', .inr ⟨by simp [h1], rfl⟩, h, rfl, h2, h3, h4⟩
    · cases h
  · -- nilCheck
    rename_i x
    have hv := opv_ok hE x
    split at h
    · rename_i p q hx
      rw [hx] at hv
      obtain ⟨h1, β, h2, h3⟩ := hv
      exact .inl ⟨_, _, ι, m, w, .inl (by rw [h3]; rfl), h, ⟨h1, β, h2, rfl⟩, Grow.refl, hm, Fr.refl _ _⟩
    · rename_i p q i off hx
      rw [hx] at hv
      obtain ⟨h1, g, n, c, h2, h3, h4⟩ := hv
      exact .inl ⟨_, _, ι, m, w, .inl (by rw [h4]; rfl), h, ⟨h1, g, n, c, h2, h3, rfl⟩, Grow.refl, hm, Fr.refl _ _⟩
    · rename_i p q i off hx
      rw [hx] at hv
      obtain ⟨h1, b, o, h2, h3⟩ := hv
      exact .inl ⟨_, _, ι, m, w, .inl (by rw [h2]; rfl), h, ⟨h1, b, o, rfl, h3⟩, Grow.refl, hm, Fr.refl _ _⟩
    · rename_i f cs hx
      rw [hx] at hv
      obtain ⟨vs, h1, h2, h3⟩ := hv
      exact .inl ⟨_, _, ι, m, w, .inl (by rw [h1]; rfl), h, ⟨vs, rfl, h2, h3⟩, Grow.refl, hm, Fr.refl _ _⟩
    · cases h
  · -- binOp
    rename_i op t x y ty
    exact .ofP hm (s := do eqGuard op t x y (a.eval x) (a.eval y); binOp op t (a.eval x) (a.eval y)) (fun u w' hr => by simp only [Sem.run_bind] at hr ⊢; rw [hr]; rfl) (aBin_ok hF (opv_ok hE x) (opv_ok hE y) h)
  · -- unOp
    rename_i op t x
    exact .ofP hm (s := Op.unary op (a.eval x)) (fun u w' hr => by simp [hr]) (aUn_ok (opv_ok hE x) h)
  · -- convert
    rename_i s d x
    exact .ofP hm (s := convert s d (a.eval x)) (fun u w' hr => by simp [hr]) (aConvert_ok hF hm (opv_ok hE x) h)
  · -- makeFunc
    rename_i f first caps
    split at h
    · rename_i hfs
      split at h
      · rename_i cs hcs
        obtain ⟨h1, h2⟩ := caps_ok (vs_ok hE caps.toList) hcs
        have hfe : first = #[] := Array.eq_empty_of_size_eq_zero hfs
        subst hfe
        refine .inl ⟨_, .func (.func f) #[] (caps.map a.eval), ι, m, w, .inl (by simp [Instr.makeFunc]), h, ⟨caps.toList.map a.eval, by rw [← Array.toList_map, Array.toArray_toList], h1, h2⟩, Grow.refl, hm, Fr.refl _ _⟩
      · cases h
    · split at h
      · rename_i hcs
        split at h
        · rename_i x hx
          have hce : caps = #[] := Array.eq_empty_of_size_eq_zero hcs
          subst hce
          have hvs := vs_ok hE first.toList
          unfold bound at hx
          split at hx
          · rename_i i j hij
            cases hx
            rw [hij] at hvs
            obtain ⟨u, us, e1, e2, e3⟩ := hvs
            have e3' : us = [] := e3
            subst e3'
            have e4 : first.map a.eval = #[u] := Array.ext' (by rw [Array.toList_map, e1])
            exact .inl ⟨_, .func (.func f) (first.map a.eval) #[], ι, m, w, .inl (by simp [Instr.makeFunc]), h, ⟨u, by rw [e4], e2⟩, Grow.refl, hm, Fr.refl _ _⟩
          · cases hx
        · cases h
      · cases h
  · -- makeSlice
    rename_i t x y
    exact .ofM (s := Instr.makeSlice t (a.eval x) (a.eval y)) (fun u w' hr => by simp [hr]) (aMake_ok (K2 := fun x m' => K (.w x) m') hF hm hS (fun k hk => hSB k (hS k hk)) (opv_ok hE x) (opv_ok hE y) h)
  · -- slice
    rename_i t x lo hi mx
    exact .ofP hm (s := Instr.sliceAt t (a.eval x) (lo.map a.eval) (hi.map a.eval) (mx.map a.eval)) (fun u w' hr => by simp [hr]) (aSlice_ok hF hm (opv_ok hE x) (ovr_ok hE lo) (ovr_ok hE hi) (ovr_ok hE mx) h)
  · -- fieldAddr
    rename_i t x f
    exact .ofP hm (s := Instr.fieldAt t (a.eval x) f) (fun u w' hr => by simp [hr]) (aFieldAddr_ok hF (opv_ok hE x) h)
  · -- field
    rename_i t x f
    exact .ofP hm (s := Instr.field t (a.eval x) f) (fun u w' hr => by simp [hr]) (aField_ok hF (opv_ok hE x) h)
  · -- indexAddr
    rename_i t x i
    exact .ofP hm (s := Instr.indexAt t (a.eval x) (a.eval i)) (fun u w' hr => by simp [hr]) (aIndexAddr_ok hF hm (opv_ok hE x) (opv_ok hE i) h)
  · -- index
    rename_i t x i
    exact .ofP hm (s := Instr.index t (a.eval x) (a.eval i)) (fun u w' hr => by simp [hr]) (aIndex_ok hF (opv_ok hE x) (opv_ok hE i) h)
  · -- extract
    rename_i t i
    have hv := opv_ok hE t
    split at h
    · rename_i ws ht
      rw [ht] at hv
      obtain ⟨vs, h1, h2⟩ := hv
      split at h
      · rename_i x hx
        obtain ⟨v, h3, h4⟩ := h2.get hx
        exact .inl ⟨.w x, v, ι, m, w, .inl (by rw [h1]; simp [Instr.extract, h3]), h, h4, Grow.refl, hm, Fr.refl _ _⟩
      · cases h
    · cases h
  · -- a call
    rename_i c
    have bi : ∀ b, c.callee = .builtin b → (do let d ← resolve a.eval c o.type; invoke d.target d.args : Sem Next) = builtin b c.argTypes o.type (c.args.map fun | .const _ => true | _ => false) (c.args.map a.eval) := by
      intro b hb
      simp only [resolve, hb]
      rfl
    split at h
    · rename_i hc
      split at h
      · rename_i t x ht hx
        have e1 : c.argTypes = #[t] := Array.ext' (by simpa using ht)
        have e2 : c.args = #[x] := Array.ext' (by simpa using hx)
        rw [bi _ hc, e1, e2]
        exact .ofP hm (s := Builtin.len_ #[t] o.type #[a.eval x]) (fun u w' hr => by simp [builtin, hr]) (aLen_ok hF hm (opv_ok hE x) h)
      · cases h
    · rename_i hc
      split at h
      · rename_i t t' s x ht hx
        split at h
        · rename_i htt
          subst htt
          have e1 : c.argTypes = #[t', t'] := Array.ext' (by simpa using ht)
          have e2 : c.args = #[s, x] := Array.ext' (by simpa using hx)
          rw [bi _ hc, e1, e2]
          exact .ofM (s := Builtin.append_ #[t', t'] o.type #[a.eval s, a.eval x]) (fun u w' hr => by simp [builtin, hr]) (aAppend_ok (K2 := fun x m' => K (.w x) m') hF hm hS (opv_ok hE s) (opv_ok hE x) h)
        · cases h
      · cases h
    · rename_i hc
      split at h
      · rename_i x y hx
        have e2 : c.args = #[x, y] := Array.ext' (by simpa using hx)
        rw [bi _ hc, e2]
        have := aMinMax_ok (P := P) (ts := c.argTypes) (t := o.type) (opv_ok hE x) (opv_ok hE y) h
        exact .ofP hm (fun u w' hr => by simp only [if_true] at hr; simp [builtin, hr]) this
      · cases h
    · rename_i hc
      split at h
      · rename_i x y hx
        have e2 : c.args = #[x, y] := Array.ext' (by simpa using hx)
        rw [bi _ hc, e2]
        have := aMinMax_ok (P := P) (ts := c.argTypes) (t := o.type) (opv_ok hE x) (opv_ok hE y) h
        exact .ofP hm (fun u w' hr => by simp only [Bool.false_eq_true, if_false] at hr; simp [builtin, hr]) this
      · cases h
    · rename_i f hc
      split at h
      · rename_i pr hpr
        obtain ⟨g, as⟩ := pr
        have hv := opv_ok hE f
        obtain ⟨us, hargs, hres⟩ : ∃ us : List Value, VsR G.U B ι m w as us ∧ ∀ hen : Enters P g, (do let d ← resolve a.eval c o.type; invoke d.target d.args : Sem Next).run P w = .ok (.enter g us.toArray) w := by
          unfold calleeOf at hpr
          split at hpr
          · rename_i g caps hg
            cases hpr
            rw [hg] at hv
            obtain ⟨vs, h1, h2, h3⟩ := hv
            refine ⟨c.args.toList.map a.eval ++ vs, (vs_ok hE c.args.toList).app (ptrsOf_ok h2 h3), fun hen => ?_⟩
            have : c.args.map a.eval ++ vs.toArray = ((c.args.toList.map a.eval) ++ vs).toArray := by
              apply Array.ext'
              simp
            simp only [resolve, hc, h1, Deferred.ofValue, Sem.run_bind, Sem.run_pure, Result.andThen_ok, invoke, Array.empty_append, this]
            exact enters_run hen _ _
          · rename_i g i j hg
            cases hpr
            rw [hg] at hv
            obtain ⟨u, h1, h2⟩ := hv
            refine ⟨u :: c.args.toList.map a.eval, ⟨u, _, rfl, h2, vs_ok hE c.args.toList⟩, fun hen => ?_⟩
            have : #[u] ++ c.args.map a.eval ++ #[] = (u :: c.args.toList.map a.eval).toArray := by
              apply Array.ext'
              simp
            simp only [resolve, hc, h1, Deferred.ofValue, Sem.run_bind, Sem.run_pure, Result.andThen_ok, invoke, this]
            exact enters_run hen _ _
          · cases hpr
        dsimp only at h
        unfold aCall at h
        split at h
        · cases h
        · rename_i cn hcn
          split at h
          · cases h
          · rename_i x hx
            split at h
            case isFalse => cases h
            rename_i hco
            obtain ⟨y, hy, h⟩ := Option.bind_eq_some_iff.1 h
            simp only [callOk, Bool.and_eq_true, decide_eq_true_eq, List.all_eq_true, Bool.not_eq_true'] at hco
            obtain ⟨⟨hlt, _⟩, hnd, hus⟩ := hco
            have hlt : g < 65536 := Nat.le_of_ble_eq_true hlt
            have hok := hcon _ cn hcn
            have hkey : ∀ vs : List (V G.U.El), keyOf g vs % 65536 = g := fun vs => by unfold keyOf; omega
            have hcall := call_ok hF hm hS hSB hok hargs hx hnd (fun i hi hmem => by
              have := hus i hi
              rw [List.contains_iff_mem.2 hmem] at this
              cases this) hy (own := ownD G o.dst || !cn.quiet) (fun hq => by rw [hq]; simp) rfl rfl
            rw [hkey] at hcall
            refine .inr ⟨g, us.toArray, ?_, ?_⟩
            · have hen := hok.enters
              rw [hkey] at hen
              exact hres hen
            · refine Calls.mono hcall ?_
              rintro e' w' ⟨u, ι', rfl, h4, h5, h6, h7⟩
              exact ⟨_, u, ι', _, rfl, h, h4, h5, h6, h7⟩
      · cases h
    · cases h
  · cases h
end
end Go.Proofs.Ytnjmkkgmlkhjeaa.AM
namespace Go.Proofs.Ytnjmkkgmlkhjeaa.AM
open Go.RowKit
variable {ρ : Type}

/-- What a function runs in: the world at its start, what it may hand on, what it may write, the temporaries that nobody writes. -/
structure Frm where
  w0 : World
  D : Nat → Prop
  S : Nat → Prop
  pins : List Nat
  pa : Nat → Value
  fresh : ∀ k, w0.heap.size ≤ k → S k
  sd : ∀ k, S k → D k

/-- The state is what the machine's is. -/
def SR (U : Univ) (N : Nat) (w0 : Frm) (σ : St U.El) (a : Act) (w : World) : Prop :=
  ∃ ι, ER U w0.D ι σ.mem w σ.env a ∧ a.tmps.size = N ∧ a.defers = [] ∧ MR U w0.D w0.S ι σ.mem w ∧ Fr w0.S w0.w0 w ∧ ∀ i ∈ w0.pins, a.tmps.getD i undef = w0.pa i

section
variable {P : Program} {G : Cfg} {w0 : Frm} {w : World} {a : Act} {r : ρ}

theorem ER.put {U : Univ} {B : Nat → Prop} {ι : Nat → Value} {m : List (Blk U.El)} {w : World} {e : Nat → V U.El} {a : Act} (h : ER U B ι m w e a) {dst : Option Nat} {v : V U.El} {u : Value} (hv : VR U B ι m w v u) (hd : ∀ d, dst = some d → d < a.tmps.size) :
    ER U B ι m w (upd e dst v) (a.put dst u) := by
  intro t
  cases dst with
  | none => exact h t
  | some d =>
    have hlt := hd d rfl
    simp only [upd, Act.put]
    by_cases htd : t = d
    · subst htd
      simpa [hlt] using hv
    · have h1 : Nat.beq t d = false := by
        cases hb : Nat.beq t d with
        | false => rfl
        | true => exact absurd (Nat.eq_of_beq_eq_true hb) htd
      rw [h1]
      have := h t
      simp only [cond_false]
      rw [show (a.tmps.setIfInBounds d u).getD t undef = a.tmps.getD t undef by
        simp only [Array.getD_eq_getD_getElem?, Array.getElem?_setIfInBounds_ne (Ne.symm htd)]]
      exact this

theorem dstOk_lt {N : Nat} {pins : List Nat} {dst : Option Nat} (h : dstOk N pins dst = true) : ∀ d, dst = some d → d < N ∧ d ∉ pins := by
  rintro d rfl
  simp only [dstOk, Bool.and_eq_true, Bool.not_eq_true'] at h
  exact ⟨Nat.le_of_ble_eq_true h.1, fun hm => by rw [List.contains_iff_mem.2 hm] at h; cases h.2⟩

theorem put_pin {a : Act} {pins : List Nat} {dst : Option Nat} {u : Value} (hd : ∀ d, dst = some d → d ∉ pins) {i : Nat} (hi : i ∈ pins) : (a.put dst u).tmps.getD i undef = a.tmps.getD i undef := by
  cases dst with
  | none => rfl
  | some d =>
    have hne : d ≠ i := fun e => hd d rfl (e ▸ hi)
    simp only [Act.put, Array.getD_eq_getD_getElem?, Array.getElem?_setIfInBounds_ne hne]

theorem upd_same {El : Nat → Type} (e : Nat → V El) (t : Nat) : upd e (some t) (e t) = e := by
  funext s
  simp only [upd]
  cases hb : Nat.beq s t with
  | false => rfl
  | true => rw [Nat.eq_of_beq_eq_true hb]; rfl

/-- One operation. -/
theorem aOper_ok (hF : Fits P G.U G.ti) {con : Nat → Option (Con G.U.El)} (hcon : ∀ f c, con f = some c → ConOk P G.U f c) {n : Nat} {ops : Array Oper} {o : Oper} {σ : St G.U.El} {K : St G.U.El → Option ρ} {next : Act → World → Prop}
    {Q : Exit → Act → World → Prop} (hσ : SR G.U G.ntmps w0 σ a w) (hpin : w0.pins = G.pins) (h : aOper G con n ops.toList o σ K = some r) (hk : ∀ σ' a' w', K σ' = some r → SR G.U G.ntmps w0 σ' a' w' → next a' w') :
    if Region.wanted o (yielded ops a.tmps) then o.wp P a w next Q ∨ (o.asks P a w ∧ LetsOut Q) else next (a.put o.dst undef) w := by
  obtain ⟨ι, hE, hN, hD, hM, hFr, hPn⟩ := hσ
  unfold aOper at h
  split at h
  case isFalse => cases h
  rename_i hd
  have hlt : ∀ d, o.dst = some d → d < a.tmps.size := fun d hd' => by rw [hN]; exact (dstOk_lt hd d hd').1
  have hnp : ∀ d, o.dst = some d → d ∉ w0.pins := fun d hd' => by rw [hpin]; exact (dstOk_lt hd d hd').2
  have skip : ∀ {e : Nat → V G.U.El}, e = σ.env → K ⟨upd e o.dst .und, σ.mem⟩ = some r → next (a.put o.dst undef) w := by
    rintro e rfl hK
    refine hk _ _ _ hK ⟨ι, hE.put rfl hlt, ?_, ?_, hM, hFr, fun i hi => (put_pin hnp hi).trans (hPn i hi)⟩
    · cases o.dst <;> simp [Act.put, hN]
    · cases o.dst <;> exact hD
  have run : ∀ {e : Nat → V G.U.El}, e = σ.env → (aOp G con n o e σ.mem fun v m => K ⟨upd e o.dst v, m⟩) = some r → o.wp P a w next Q := by
    rintro e rfl hr
    have hop := aOp_ok hF hcon hE hM (fun k hk' => w0.fresh k (Nat.le_trans hFr.size hk')) w0.sd hr
    have fin : ∀ {v : V G.U.El} {u : Value} {ι' : Nat → Value} {m' : List (Blk G.U.El)} {w' : World}, K ⟨upd σ.env o.dst v, m'⟩ = some r → VR G.U w0.D ι' m' w' v u → Grow G.U ι σ.mem w ι' m' w' → MR G.U w0.D w0.S ι' m' w' → Fr w0.S w w' → next (a.put o.dst u) w' := by
      intro v u ι' m' w' h1 h2 h3 h4 h5
      refine hk _ _ _ h1 ⟨ι', ?_, ?_, ?_, h4, hFr.trans h5, fun i hi => (put_pin hnp hi).trans (hPn i hi)⟩
      · exact ER.put (fun t => (hE t).grow h3) h2 hlt
      · cases o.dst <;> simp [Act.put, hN]
      · cases o.dst <;> exact hD
    unfold Oper.wp
    rcases hop with ⟨v, u, ι', m', w', hrun, h1, h2, h3, h4, h5⟩ | ⟨f, args, hrun, hcall⟩
    · rcases hrun with hrun | ⟨hrun, rfl⟩
      · rw [hrun]; exact fin h1 h2 h3 h4 h5
      · rw [hrun]; exact fin h1 h2 h3 h4 h5
    · rw [hrun]
      refine Calls.mono hcall ?_
      rintro e w' ⟨v, u, ι', m', rfl, h1, h2, h3, h4, h5⟩
      exact fin h1 h2 h3 h4 h5
  split at h
  · rename_i hg
    rw [if_pos (by simp [Region.wanted, hg])]
    exact .inl (run rfl h)
  · rename_i j want hg
    split at h
    · cases h
    · rename_i t ht
      split at h
      case isFalse => cases h
      rename_i htN
      rw [Bool.and_eq_true] at htN
      have htlt : t < a.tmps.size := by rw [hN]; exact Nat.le_of_ble_eq_true htN.1
      have ht' : (ops[j]?).bind (·.dst) = some t := by rw [← Array.getElem?_toList]; exact ht
      have hget : a.tmps[t]? = some (a.tmps.getD t undef) := by simp [htlt]
      have hv := hE t
      split at h
      · rename_i hu
        rw [hu] at hv
        have hy : yielded ops a.tmps j = none := by
          unfold yielded
          rw [ht', Option.bind_some, hget, show a.tmps.getD t undef = undef from hv]
          rfl
        rw [if_neg (by simp [Region.wanted, hg, hy])]
        exact skip rfl h
      · rename_i b hu
        rw [hu] at hv
        have hy : yielded ops a.tmps j = some b := by
          unfold yielded
          rw [ht', Option.bind_some, hget, vr_sc hv]
        have he : ∀ c, b = c → upd σ.env (some t) (.w (bool c)) = σ.env := by
          rintro c rfl
          have := upd_same σ.env t
          rwa [hu] at this
        rcases cond_some.1 h with ⟨hb, h⟩ | ⟨hb, h⟩
        · split at h
          · rename_i hw
            rw [if_pos (by simp [Region.wanted, hg, hy, hb, hw])]
            exact .inl (run (he _ hb) h)
          · rename_i hw
            rw [if_neg (by simp [Region.wanted, hg, hy, hb]; simpa using hw)]
            exact skip (he _ hb) h
        · split at h
          · rename_i hw
            rw [if_neg (by simp [Region.wanted, hg, hy, hb, hw])]
            exact skip (he _ hb) h
          · rename_i hw
            rw [if_pos (by simp [Region.wanted, hg, hy, hb]; simpa using hw)]
            exact .inl (run (he _ hb) h)
      · cases h

theorem aOps_ok (hF : Fits P G.U G.ti) {con : Nat → Option (Con G.U.El)} (hcon : ∀ f c, con f = some c → ConOk P G.U f c) {n : Nat} {ops : Array Oper} {K : St G.U.El → Option ρ} {Q : Exit → Act → World → Prop}
    (hpin : w0.pins = G.pins) (hk : ∀ σ' a' w', K σ' = some r → SR G.U G.ntmps w0 σ' a' w' → Q .normal a' w') : ∀ {is : List Nat} {σ : St G.U.El} {a : Act} {w : World}, SR G.U G.ntmps w0 σ a w → aOps G con n ops.toList is σ K = some r → wpOps P ops Q is a w
  | [], σ, a, w, hσ, h => hk σ a w h hσ
  | i :: is, σ, a, w, hσ, h => by
    simp only [aOps] at h
    simp only [wpOps]
    rw [Array.getElem?_toList] at h
    split at h
    · cases h
    · rename_i o ho
      rw [ho]
      exact aOper_ok hF hcon hσ hpin h fun σ' a' w' h1 h2 => aOps_ok hF hcon hpin hk h2 h1
end
end Go.Proofs.Ytnjmkkgmlkhjeaa.AM
namespace Go.Proofs.Ytnjmkkgmlkhjeaa.AM
open Go.RowKit

section
variable {U : Univ} {B : Nat → Prop} {S : Nat → Prop} {ι ι' : Nat → Value} {m m' : List (Blk U.El)} {w : World} {ren : Nat → Option (Option Nat)} {M : Nat}

/-- The blocks of the shape and those that they are. -/
structure Ren (U : Univ) (ren : Nat → Option (Option Nat)) (M : Nat) (ι : Nat → Value) (m : List (Blk U.El)) (ι' : Nat → Value) (m' : List (Blk U.El)) : Prop where
  M : m'.length = M
  is : ∀ i a, ren i = some (some a) → ι' i = ι a
  no : ∀ i, ren i = some none → ι' i = .slice none 0 0
  far : ∀ b, Far U ι m b → Far U ι' m' b

theorem caps_ren (R : Ren U ren M ι m ι' m') : ∀ {ps qs : List (Nat × Nat)}, capsOk ren M ps qs = true → ps.length = qs.length ∧ ∀ (j : Nat) (p q : Nat × Nat) (u : Value), ps[j]? = some p → qs[j]? = some q → PR U ι m q.1 q.2 u → PR U ι' m' p.1 p.2 u
  | [], [], _ => ⟨rfl, fun j p q u hp => by simp at hp⟩
  | (i, o) :: ps, (j, o') :: qs, h => by
    simp only [capsOk, Bool.and_eq_true, decide_eq_true_eq] at h
    obtain ⟨⟨⟨h1, h2⟩, h3⟩, h4⟩ := h
    obtain ⟨h5, h6⟩ := caps_ren R h4
    refine ⟨by simp [h5], fun k p q u hp hq hu => ?_⟩
    cases k with
    | zero =>
      simp at hp hq
      subst hp
      subst hq
      obtain ⟨_, β, e1, e2⟩ := hu
      exact ⟨by rw [R.M]; exact h3, β, (R.is _ _ h1).trans e1, by rw [h2]; exact e2⟩
    | succ k => exact h6 k p q u (by simpa using hp) (by simpa using hq) hu
  | [], _ :: _, h => by simp [capsOk] at h
  | _ :: _, [], h => by simp [capsOk] at h

theorem ldec_ok (R : Ren U ren M ι m ι' m') {s : LS1} {c : C U.El} {x : s.T U.El} {vs : List Value} (h : s.dec ren M c = some x) (hc : CW U B ι m w c vs) : CW U B ι' m' w (s.enc x) vs := by
  have sc : ∀ v, c = .sc v → CW U B ι' m' w (.sc v) vs := by
    rintro v rfl
    exact hc
  cases s with
  | int k => exact sc _ (dec_int h)
  | bool => exact sc _ (dec_bool h)
  | str => exact sc _ (dec_str h)
  | arr t n => have := dec_arr h; subst this; exact hc
  | row t loc =>
    change C.row? t loc c = some x at h
    unfold C.row? at h
    split at h
    · split at h
      · rename_i ht
        subst ht
        split at h
        · rename_i hl
          cases h
          obtain ⟨v, e, A, cap, h1, h2, h3, h4⟩ := hc
          refine ⟨v, e, A, cap, h1, h2, fun j u hu => let ⟨b, o, e1, e2, e3, e4⟩ := h3 j u hu; ⟨b, o, e1, e2, R.far b e3, fun hh => e4 ?_⟩, fun h => by cases h⟩
          subst hh
          simpa using hl
        · cases h
      · cases h
    · cases h
      obtain ⟨v, e, h1, _⟩ := hc
      exact ⟨v, e, none, 0, h1, Nat.le_refl _, fun j u hu => by simp [flat] at hu, fun h => by cases h⟩
    · cases h
  | sl id =>
    simp only [LS1.dec] at h
    split at h
    · split at h
      · rename_i hr
        split at h
        · rename_i hM
          obtain ⟨v, e, h1, h2, h3⟩ := hc
          exact ⟨v, e, by rw [R.M]; exact hM, by rw [R.is _ _ hr]; exact h2, h3⟩
        · cases h
      · cases h
    · split at h
      · rename_i hr
        split at h
        · rename_i hM
          obtain ⟨v, e, h1, h2⟩ := hc
          exact ⟨v, e, by rw [R.M]; exact hM, by rw [R.no _ hr]; exact h1, by rw [h1]; rfl⟩
        · cases h
      · cases h
    · cases h
  | ptr id off =>
    simp only [LS1.dec] at h
    split at h
    · split at h
      · rename_i hr
        split at h
        · rename_i ho
          subst ho
          split at h
          · rename_i hM
            obtain ⟨v, e, h1, β, h2, h3⟩ := hc
            exact ⟨v, e, by rw [R.M]; exact hM, β, (R.is _ _ hr).trans h2, h3⟩
          · cases h
        · cases h
      · cases h
    · cases h
  | fn f caps =>
    simp only [LS1.dec] at h
    split at h
    · rename_i f' caps'
      split at h
      · rename_i hf
        subst hf
        split at h
        · rename_i hcaps
          obtain ⟨h5, h6⟩ := caps_ren R hcaps
          obtain ⟨v, e, us, h1, h2, h3⟩ := hc
          refine ⟨v, e, us, h1, h2.trans h5.symm, fun j p u hp hu => ?_⟩
          have hlt := (List.getElem?_eq_some_iff.1 hp).1
          have hq : caps'[j]? = some (caps'[j]'(by omega)) := List.getElem?_eq_getElem _
          exact h6 j p _ u hp hq (h3 j _ u hq hu)
        · cases h
      · cases h
    · cases h
  | prow t off =>
    simp only [LS1.dec] at h
    split at h
    · split at h
      · rename_i ht
        subst ht
        split at h
        · rename_i ho
          subst ho
          cases h
          obtain ⟨v, e, h0, b, o, h2, h3⟩ := hc
          exact ⟨v, e, h0, b, o, h2, fun j u hu => let ⟨b, o, e1, e2, e3, e4⟩ := h3 j u hu; ⟨b, o, e1, e2, R.far b e3, e4⟩⟩
        · cases h
      · cases h
    · cases h

theorem ldecs_ok (R : Ren U ren M ι m ι' m') : ∀ {ss : List LS1} {cs : List (C U.El)} {x : LTs U.El ss} {vs : List Value}, Ldecs ren M ss cs = some x → CsR U B ι m w cs vs → CsR U B ι' m' w (Lencs ss x) vs
  | [], [], _, _, _, hc => hc
  | [], _ :: _, _, _, h, _ => by simp [Ldecs] at h
  | _ :: _, [], _, _, h, _ => by simp [Ldecs] at h
  | s :: ss, c :: cs, x, vs, h, ⟨a, r, e, h1, h2⟩ => by
    simp only [Ldecs] at h
    obtain ⟨y, h3, h⟩ := Option.bind_eq_some_iff.1 h
    obtain ⟨z, h4, h⟩ := Option.bind_eq_some_iff.1 h
    cases h
    exact ⟨a, r, e, ldec_ok R h3 h1, ldecs_ok R h4 h2⟩

theorem lsdec_ok (R : Ren U ren M ι m ι' m') {s : LS} {v : V U.El} {x : s.T U.El} {u : Value} (h : s.dec ren M v = some x) (hv : VR U B ι m w v u) : VR U B ι' m' w (s.enc x) u := by
  cases s with
  | c s =>
    cases v with
    | w y =>
      cases y with
      | c c =>
        have hc : CR U B ι m w c u := hv
        have := ldec_ok (s := s) R h hc.cw
        show CR U B ι' m' w (s.enc x) u
        cases s with
        | arr t n =>
          have := dec_arr h
          subst this
          exact hc.elim
        | _ =>
          obtain ⟨u', e, hu⟩ := CsR.single (by intro t n l e; cases e) (vs := [u]) ⟨[u], [], rfl, this, rfl⟩
          cases e
          exact hu
      | agg => cases h
    | _ => cases h
  | agg ss =>
    cases v with
    | w y =>
      cases y with
      | agg xs =>
        obtain ⟨vs, e, h1⟩ := hv
        exact ⟨vs, e, ldecs_ok R h h1⟩
      | c => cases h
    | _ => cases h

theorem decEnv_ok (R : Ren U ren M ι m ι' m') {e : Nat → V U.El} {a : Act} (hE : ER U B ι m w e a) : ∀ {ps : List (Nat × LS)} {x : LEs U.El ps}, decEnv ren M e ps = some x → ∀ t, VR U B ι' m' w (envOf ps x t) (a.tmps.getD t undef)
  | [], _, _, _ => trivial
  | p :: ps, x, h, t => by
    simp only [decEnv] at h
    obtain ⟨y, h3, h⟩ := Option.bind_eq_some_iff.1 h
    obtain ⟨z, h4, h⟩ := Option.bind_eq_some_iff.1 h
    cases h
    simp only [envOf]
    cases hb : Nat.beq t p.1 with
    | true =>
      have := Nat.eq_of_beq_eq_true hb
      subst this
      exact lsdec_ok R h3 (hE _)
    | false => exact decEnv_ok R hE h4 t

/-- What the shape's blocks are. -/
def BlkIs (ren : Nat → Option (Option Nat)) (M : Nat) (m : List (Blk U.El)) (i : Nat) : Blk U.El → Prop
  | .st t cs' => ∃ a cs ss x, ren i = some (some a) ∧ m[a]? = some (.st t cs) ∧ Ldecs ren M ss cs = some x ∧ cs' = Lencs ss x
  | .da t l => (∃ a, ren i = some (some a) ∧ m[a]? = some (.da t l)) ∨ (ren i = some none ∧ l = [])
  | .dead => False

theorem decMem_len : ∀ {bs : List BS} {i : Nat} {x : BTs U.El bs}, decMem ren M m i bs = some x → (memOf bs x).length = bs.length
  | [], _, _, _ => rfl
  | b :: bs, i, x, h => by
    simp only [decMem] at h
    obtain ⟨y, h3, h⟩ := Option.bind_eq_some_iff.1 h
    obtain ⟨z, h4, h⟩ := Option.bind_eq_some_iff.1 h
    cases h
    simp only [memOf, List.length_cons, decMem_len h4]

theorem decMem_ok : ∀ {bs : List BS} {i : Nat} {x : BTs U.El bs}, decMem ren M m i bs = some x → ∀ j b, (memOf bs x)[j]? = some b → BlkIs ren M m (i + j) b
  | [], _, _, _, j, b, hb => by simp [memOf] at hb
  | b0 :: bs, i, x, h, j, b, hb => by
    simp only [decMem] at h
    obtain ⟨y, h3, h⟩ := Option.bind_eq_some_iff.1 h
    obtain ⟨z, h4, h⟩ := Option.bind_eq_some_iff.1 h
    cases h
    cases j with
    | succ j =>
      have := decMem_ok h4 j b (by simpa [memOf] using hb)
      rwa [show i + (j + 1) = i + 1 + j by omega]
    | zero =>
      simp only [memOf, List.getElem?_cons_zero, Option.some.injEq] at hb
      subst hb
      rw [Nat.add_zero]
      cases b0 with
      | st t ss =>
        simp only [BS.dec] at h3
        split at h3
        · rename_i a ha
          split at h3
          · rename_i t' cs hm
            change (if t' = t then Ldecs ren M ss cs else none) = (some y : Option (LTs U.El ss)) at h3
            split at h3
            · rename_i ht
              subst ht
              exact ⟨a, cs, ss, y, ha, hm, h3, rfl⟩
            · cases h3
          · cases h3
        · cases h3
      | da t =>
        simp only [BS.dec] at h3
        split at h3
        · rename_i a ha
          split at h3
          · rename_i t' l hm
            split at h3
            · rename_i ht
              subst ht
              cases h3
              exact .inl ⟨a, ha, hm⟩
            · cases h3
          · cases h3
        · rename_i ha
          cases h3
          exact .inr ⟨ha, rfl⟩
        · cases h3

theorem dec_SR {N : Nat} {w0 : Frm} {σ : St U.El} {a : Act} {s : Shape} {x : s.X U.El} (h : SR U N w0 σ a w) (hd : s.dec σ = some x) : SR U N w0 (s.enc x) a w := by
  obtain ⟨ι, hE, hN, hD, hM, hFr, hPn⟩ := h
  unfold Shape.dec at hd
  split at hd
  case isFalse => cases hd
  rename_i hnd
  generalize hren : s.ren σ = ren at hd hnd
  obtain ⟨y, h1, hd⟩ := Option.bind_eq_some_iff.1 hd
  obtain ⟨z, h2, hd⟩ := Option.bind_eq_some_iff.1 hd
  cases hd
  have hlen := decMem_len h2
  have hblk := fun j b hb => by simpa using decMem_ok h2 j b hb
  let ι' : Nat → Value := fun i => match ren i with
    | some (some a) => ι a
    | _ => .slice none 0 0
  have own : ∀ id b k, (memOf s.mem z)[id]? = some b → b.live → ownOf (ι' id) = some k → ∃ a b', ren id = some (some a) ∧ σ.mem[a]? = some b' ∧ b'.live ∧ ownOf (ι a) = some k := by
    intro id b k hb hl hk
    have hB := hblk id b hb
    cases b with
    | dead => exact hl.elim
    | st t cs =>
      obtain ⟨a, cs', ss, x, e1, e2, _⟩ := hB
      exact ⟨a, _, e1, e2, trivial, by simpa [ι', e1] using hk⟩
    | da t l =>
      rcases hB with ⟨a, e1, e2⟩ | ⟨e1, _⟩
      · exact ⟨a, _, e1, e2, trivial, by simpa [ι', e1] using hk⟩
      · simp [ι', e1, ownOf] at hk
  have R : Ren U ren s.mem.length ι σ.mem ι' (memOf s.mem z) := ⟨hlen, fun i a h => by simp [ι', h], fun i h => by simp [ι', h], fun b hf id q hq hl hk => by
    obtain ⟨a, b', _, e2, e3, e4⟩ := own id q b hq hl hk
    exact hf a b' e2 e3 e4⟩
  refine ⟨ι', decEnv_ok R hE h1, hN, hD, ⟨fun id b hb => ?_, ?_, ?_⟩, hFr, hPn⟩
  · have hB := hblk id b hb
    cases b with
    | dead => trivial
    | st t cs =>
      obtain ⟨a, cs', ss, x, e1, e2, e3, e4⟩ := hB
      obtain ⟨β, vs, e5, e6, e7⟩ := hM.blk _ _ e2
      exact ⟨β, vs, (R.is _ _ e1).trans e5, e6, by rw [e4]; exact ldecs_ok R e3 e7⟩
    | da t l =>
      rcases hB with ⟨a, e1, e2⟩ | ⟨e1, rfl⟩
      · have := hM.blk _ _ e2
        simp only [BR] at this ⊢
        rw [R.is _ _ e1]
        exact this
      · simp only [BR]
        rw [R.no _ e1]
        simpa [flat] using World.ownsRow_nil w 0 t (U.sz t)
  · intro i j b b' k hi hj hl hl' hk hk'
    obtain ⟨a, q, e1, e2, e3, e4⟩ := own i b k hi hl hk
    obtain ⟨a', q', e1', e2', e3', e4'⟩ := own j b' k hj hl' hk'
    have haa := hM.inj a a' q q' k e2 e2' e3 e3' e4 e4'
    subst haa
    -- the same block twice
    have hi' : i < s.mem.length := by rw [← hlen]; exact (List.getElem?_eq_some_iff.1 hi).1
    have hj' : j < s.mem.length := by rw [← hlen]; exact (List.getElem?_eq_some_iff.1 hj).1
    have key : ∀ (l : List Nat), (l.filterMap fun i => (ren i).bind id).Nodup → l.Nodup → i ∈ l → j ∈ l → i = j := by
      intro l
      induction l with
      | nil => intro _ _ h; cases h
      | cons p l ih =>
        intro hn hnl hil hjl
        have hmem : ∀ q, q ∈ l → ren q = some (some a) → a ∈ l.filterMap fun i => (ren i).bind id := fun q hq hr => List.mem_filterMap.2 ⟨q, hq, by simp [hr]⟩
        by_cases hp : ren p = some (some a)
        · rw [List.filterMap_cons_some (b := a) (by simp [hp])] at hn
          have hna := (List.nodup_cons.1 hn).1
          rcases List.mem_cons.1 hil with rfl | hil
          · rcases List.mem_cons.1 hjl with h | hjl
            · exact h.symm
            · exact absurd (hmem j hjl e1') hna
          · exact absurd (hmem i hil e1) hna
        · have h1 : i ∈ l := by
            rcases List.mem_cons.1 hil with h | h
            · subst h; exact absurd e1 hp
            · exact h
          have h2 : j ∈ l := by
            rcases List.mem_cons.1 hjl with h | h
            · subst h; exact absurd e1' hp
            · exact h
          refine ih ?_ (List.nodup_cons.1 hnl).2 h1 h2
          cases hq : (ren p).bind id with
          | none => rwa [List.filterMap_cons_none (f := fun i => (ren i).bind id) hq] at hn
          | some q => rw [List.filterMap_cons_some (f := fun i => (ren i).bind id) hq] at hn; exact (List.nodup_cons.1 hn).2
    exact key _ hnd List.nodup_range (List.mem_range.2 hi') (List.mem_range.2 hj')
  · intro id b k hb hl hk
    obtain ⟨a, q, e1, e2, e3, e4⟩ := own id b k hb hl hk
    exact hM.inS a q k e2 e3 e4
end
end Go.Proofs.Ytnjmkkgmlkhjeaa.AM
namespace Go.Proofs.Ytnjmkkgmlkhjeaa.AM
open Go.RowKit
variable {ρ : Type}

section
variable {El : Nat → Type} {K : W El → Option ρ}

theorem cond_bind {α β : Type} (b : Bool) (x y : Option α) (f : α → Option β) : (cond b x y).bind f = cond b (x.bind f) (y.bind f) := by cases b <;> rfl

theorem elim_nat {α : Type} (x : Option α) (f : α → Option ρ) : x.elim none f = (x.elim none some).bind f := by cases x <;> rfl

theorem aInt_nat (op : BinOp) (k : IntKind) (x y : Int) : aInt op k x y K = (aInt op k x y some).bind K := by
  cases op <;> simp only [aInt, cond_bind, Option.bind_some, Option.bind_none]

theorem aStr_nat (op : BinOp) (x y : ByteArray) : aStr op x y K = (aStr op x y some).bind K := by
  cases op <;> simp only [aStr, cond_bind, Option.bind_some, Option.bind_none]

theorem aBin_nat (U : Univ) {K : W U.El → Option ρ} (ti : Nat → Option TI) (op : BinOp) (t : Nat) (x y : V U.El) : aBin U ti op t x y K = (aBin U ti op t x y some).bind K := by
  unfold aBin
  split
  · split
    · exact aInt_nat ..
    · exact aInt_nat ..
    · split
      · exact aInt_nat ..
      · rfl
  · exact aStr_nat ..
  · split <;> rfl
  · split <;> rfl
  · rfl

theorem aUn_nat (op : UnOp) (x : V El) : aUn op x K = (aUn op x some).bind K := by
  unfold aUn
  split <;> rfl

theorem natOf_nat {o : Option (V El)} {d : Nat} {K1 : Nat → Option ρ} {K2 : Nat → Option (W El)} (h : ∀ n, K1 n = (K2 n).bind K) : natOf o d K1 = (natOf o d K2).bind K := by
  unfold natOf
  split
  · exact h d
  · simp only [cond_bind, Option.bind_none, h]
  · rfl
end

section
variable (G : Cfg) {K : W G.U.El → Option ρ}

theorem aIndexAddr_nat (t : Nat) (x i : V G.U.El) (m : List (Blk G.U.El)) : aIndexAddr G t x i m K = (aIndexAddr G t x i m some).bind K := by
  unfold aIndexAddr
  split
  · split
    · split <;> simp only [cond_bind, Option.bind_some, Option.bind_none]
    · split
      · split <;> simp only [cond_bind, Option.bind_some, Option.bind_none]
      · rfl
    · split <;> simp only [cond_bind, Option.bind_some, Option.bind_none]
    · simp only [cond_bind, Option.bind_some, Option.bind_none]
    · simp only [cond_bind, Option.bind_some, Option.bind_none]
    · rfl
  · rfl

theorem aIndex_nat (t : Nat) (x i : V G.U.El) : aIndex G t x i K = (aIndex G t x i some).bind K := by
  unfold aIndex
  split
  · simp only [cond_bind, Option.bind_some, Option.bind_none]
  · split
    · simp only [cond_bind, Option.bind_none]
      congr 2
      split
      · split
        · exact elim_nat _ _
        · rfl
      · rfl
    · rfl
  · rfl

theorem aLoad_nat (t : Nat) (a : V G.U.El) (m : List (Blk G.U.El)) : aLoad G t a m K = (aLoad G t a m some).bind K := by
  unfold aLoad
  split
  · rfl
  · split
    · split
      · exact elim_nat _ _
      · rfl
    · split
      · split
        · exact elim_nat _ _
        · rfl
      · rfl
    · exact elim_nat _ _
    · split
      · split
        · split
          · split
            · exact elim_nat _ _
            · rfl
          · rfl
        · rfl
      · rfl
    · rfl

theorem aFieldAddr_nat (t f : Nat) (x : V G.U.El) : aFieldAddr G t f x K = (aFieldAddr G t f x some).bind K := by
  unfold aFieldAddr
  split
  · rfl
  · split
    · rfl
    · split <;> rfl

theorem aField_nat (t f : Nat) (x : V G.U.El) : aField G t f x K = (aField G t f x some).bind K := by
  unfold aField
  split
  · split
    · exact elim_nat _ _
    · rfl
  · rfl

theorem aBuild_nat (t : Nat) (ps : List (Nat × V G.U.El)) : aBuild G t ps K = (aBuild G t ps some).bind K := by
  unfold aBuild
  split
  · split
    · cases aFill G _ ps (zeroC G.U _) <;> rfl
    · rfl
  · rfl

theorem aSlice_nat (t : Nat) (x : V G.U.El) (lo hi mx : Option (V G.U.El)) (m : List (Blk G.U.El)) : aSlice G t x lo hi mx m K = (aSlice G t x lo hi mx m some).bind K := by
  unfold aSlice
  split
  · exact natOf_nat fun h => by
      rw [cond_bind]
      congr 1
      exact natOf_nat fun l => by rw [cond_bind]; rfl
  · split
    · exact natOf_nat fun h => by
        rw [cond_bind]
        congr 1
        exact natOf_nat fun l => by
          rw [cond_bind]
          congr 1
          cases hi <;> rfl
    · rfl
  · split
    · split <;> rfl
    · rfl
  · split
    · split
      · exact natOf_nat fun h => by
          rw [cond_bind]
          congr 1
          exact natOf_nat fun l => by rw [cond_bind]; rfl
      · rfl
    · rfl
  · rfl

theorem aLen_nat (t : Nat) (x : V G.U.El) (m : List (Blk G.U.El)) : aLen G t x m K = (aLen G t x m some).bind K := by
  unfold aLen
  split
  · rfl
  · rfl
  · rfl
  · split <;> rfl
  · rfl
  · rfl
  · rfl

theorem aConvert_nat (s d : Nat) (x : V G.U.El) (m : List (Blk G.U.El)) : aConvert G s d x m K = (aConvert G s d x m some).bind K := by
  unfold aConvert
  split
  · rfl
  · rfl
  · split
    · split <;> rfl
    · rfl
  · rfl

theorem aMinMax_nat (mn : Bool) (x y : V G.U.El) : aMinMax G mn x y K = (aMinMax G mn x y some).bind K := by
  unfold aMinMax
  split
  · split <;> rfl
  · rfl

variable {K2 : W G.U.El → List (Blk G.U.El) → Option ρ}
theorem aBuildSlice_nat (own : Bool) (t len : Nat) (ps : List (Nat × V G.U.El)) (m : List (Blk G.U.El)) : aBuildSlice G own t len ps m K2 = (aBuildSlice G own t len ps m fun w m => some (w, m)).bind fun p => K2 p.1 p.2 := by
  unfold aBuildSlice
  split
  · split
    · split <;> rfl
    · rfl
  · rfl

theorem aBuildFns_nat (own : Bool) (t len : Nat) (ps : List (Nat × V G.U.El)) (m : List (Blk G.U.El)) : aBuildFns G own t len ps m K2 = (aBuildFns G own t len ps m fun w m => some (w, m)).bind fun p => K2 p.1 p.2 := by
  unfold aBuildFns
  split
  · split <;> rfl
  · rfl

theorem aMake_nat (own : Bool) (t : Nat) (a b : V G.U.El) (m : List (Blk G.U.El)) : aMakeSlice G own t a b m K2 = (aMakeSlice G own t a b m fun w m => some (w, m)).bind fun p => K2 p.1 p.2 := by
  unfold aMakeSlice
  cases own <;> simp only [if_true, Bool.false_eq_true, if_false]
  all_goals
    split
    · split
      · simp only [cond_bind, Option.bind_some, Option.bind_none]
      · rfl
    · rfl

theorem aAppend_nat (t : Nat) (s x : V G.U.El) (m : List (Blk G.U.El)) : aAppend G t s x m K2 = (aAppend G t s x m fun w m => some (w, m)).bind fun p => K2 p.1 p.2 := by
  unfold aAppend
  split
  · split
    · split
      · split
        · split <;> simp only [cond_bind, Option.bind_some, Option.bind_none]
        · rfl
      · split <;> simp only [cond_bind, Option.bind_some, Option.bind_none]
      · simp only [cond_bind, Option.bind_some, Option.bind_none]
      · rfl
    · rfl
  · rfl

variable (con : Nat → Option (Con G.U.El)) (n : Nat) {K3 : V G.U.El → List (Blk G.U.El) → Option ρ}
theorem aCall_nat (dst : Option Nat) (f : Nat) (args : List (V G.U.El)) (m : List (Blk G.U.El)) : aCall G con n dst f args m K3 = (aCall G con n dst f args m fun v m => some (v, m)).bind fun p => K3 p.1 p.2 := by
  unfold aCall
  split
  · rfl
  · split
    · rfl
    · split
      · rw [Option.bind_assoc]
        rfl
      · rfl

/-- An operation's value and what it leaves. -/
def aOp1 (o : Oper) (e : Nat → V G.U.El) (m : List (Blk G.U.El)) : Option (V G.U.El × List (Blk G.U.El)) := aOp G con n o e m fun v m => some (v, m)

theorem aOp_nat (o : Oper) (e : Nat → V G.U.El) (m : List (Blk G.U.El)) : aOp G con n o e m K3 = (aOp1 G con n o e m).bind fun p => K3 p.1 p.2 := by
  unfold aOp1 aOp
  have bind1 : ∀ (x : Option (W G.U.El)), (x.bind fun w => K3 (.w w) m) = ((x.bind fun w => some (.w w, m)).bind fun p => K3 p.1 p.2) := fun x => by cases x <;> rfl
  have bind2 : ∀ (x : Option (W G.U.El × List (Blk G.U.El))), (x.bind fun p => K3 (.w p.1) p.2) = ((x.bind fun p => some (V.w p.1, p.2)).bind fun p => K3 p.1 p.2) := fun x => by cases x <;> rfl
  simp only []
  split
  · rfl
  · rfl
  · split
    · simp only [cond_bind, Option.bind_some]
    · rfl
  · split <;> rfl
  · split
    · split <;> rfl
    · rfl
  · rw [aBuild_nat, bind1, ← aBuild_nat]
  · split
    · exact (aBuildFns_nat G (K2 := fun w m => K3 (.w w) m) ..).trans ((bind2 _).trans (congrArg (fun x => Option.bind x fun p => K3 p.1 p.2) (aBuildFns_nat G (K2 := fun w m => some (V.w w, m)) ..).symm))
    · exact (aBuildSlice_nat G (K2 := fun w m => K3 (.w w) m) ..).trans ((bind2 _).trans (congrArg (fun x => Option.bind x fun p => K3 p.1 p.2) (aBuildSlice_nat G (K2 := fun w m => some (V.w w, m)) ..).symm))
  · rw [aLoad_nat, bind1, ← aLoad_nat]
  · split <;> rfl
  · split <;> rfl
  · rw [aBin_nat, bind1, ← aBin_nat]
  · rw [aUn_nat, bind1, ← aUn_nat]
  · rw [aConvert_nat, bind1, ← aConvert_nat]
  · split
    · split <;> rfl
    · split
      · split <;> rfl
      · rfl
  · exact (aMake_nat G (K2 := fun w m => K3 (.w w) m) ..).trans ((bind2 _).trans (congrArg (fun x => Option.bind x fun p => K3 p.1 p.2) (aMake_nat G (K2 := fun w m => some (V.w w, m)) ..).symm))
  · rw [aSlice_nat, bind1, ← aSlice_nat]
  · rw [aFieldAddr_nat, bind1, ← aFieldAddr_nat]
  · rw [aField_nat, bind1, ← aField_nat]
  · rw [aIndexAddr_nat, bind1, ← aIndexAddr_nat]
  · rw [aIndex_nat, bind1, ← aIndex_nat]
  · split
    · split <;> rfl
    · rfl
  · split
    · split
      · rw [aLen_nat, bind1, ← aLen_nat]
      · rfl
    · split
      · split
        · exact (aAppend_nat G (K2 := fun w m => K3 (.w w) m) ..).trans ((bind2 _).trans (congrArg (fun x => Option.bind x fun p => K3 p.1 p.2) (aAppend_nat G (K2 := fun w m => some (V.w w, m)) ..).symm))
        · rfl
      · rfl
    · split
      · rw [aMinMax_nat, bind1, ← aMinMax_nat]
      · rfl
    · split
      · rw [aMinMax_nat, bind1, ← aMinMax_nat]
      · rfl
    · split
      · exact aCall_nat ..
      · rfl
    · rfl
  · rfl
end
end Go.Proofs.Ytnjmkkgmlkhjeaa.AM
namespace Go.Proofs.Ytnjmkkgmlkhjeaa.AM
open Go.RowKit
variable {ρ : Type}

section
variable (G : Cfg) (con : Nat → Option (Con G.U.El)) (n : Nat)

theorem aOp_congr (o : Oper) {e e' : Nat → V G.U.El} (m : List (Blk G.U.El)) (K : V G.U.El → List (Blk G.U.El) → Option ρ) (h : ∀ x ∈ o.op.operands, opv e x = opv e' x) : aOp G con n o e m K = aOp G con n o e' m K := by
  obtain ⟨dst, op, type, pos, after, guard⟩ := o
  have pairs : ∀ ps : Array (Nat × Operand), (∀ x ∈ (ps.toList.map (·.2)).toArray, opv e x = opv e' x) → (ps.toList.map fun p => (p.1, opv e p.2)) = (ps.toList.map fun p => (p.1, opv e' p.2)) := fun ps hp =>
    List.map_congr_left fun p hm => by rw [hp p.2 (by simpa using ⟨p.1, by simpa using hm⟩)]
  have args : ∀ xs : Array Operand, (∀ x ∈ xs, opv e x = opv e' x) → xs.toList.map (opv e) = xs.toList.map (opv e') := fun xs hp => List.map_congr_left fun x hm => hp x (by simpa using hm)
  have opt : ∀ x : Option Operand, (∀ y ∈ x.toArray, opv e y = opv e' y) → x.map (opv e) = x.map (opv e') := fun x hx => by
    cases x with
    | none => rfl
    | some x => simp [hx x (by simp)]
  cases op <;> simp only [Op.operands] at h <;> simp only [aOp]
  case build t ps => rw [pairs ps h]
  case buildSlice t len ps => rw [pairs ps h]
  case makeFunc fn first caps =>
    have hc := args caps fun x hx => h x (by simp [hx])
    have hf := args first fun x hx => h x (by simp [hx])
    cases fn <;> simp only [hc, hf]
  case slice t x lo hi mx =>
    rw [h x (by simp), opt lo fun y hy => h y (by simp at hy ⊢; simp [hy]), opt hi fun y hy => h y (by simp at hy ⊢; simp [hy]), opt mx fun y hy => h y (by simp at hy ⊢; simp [hy])]
  case call c =>
    have ha : ∀ x ∈ c.args, opv e x = opv e' x := fun x hx => h x (by simp [Call.operands, hx])
    have hargs := args c.args ha
    cases hc : c.callee with
    | value f =>
      have hf : opv e f = opv e' f := h f (by simp [Call.operands, hc])
      simp only [hf, hargs]
    | invoke => rfl
    | builtin b =>
      have one : ∀ x, c.args.toList = [x] → opv e x = opv e' x := fun x hx => ha x (by rw [← Array.mem_toList_iff, hx]; simp)
      have two : ∀ x y, c.args.toList = [x, y] → opv e x = opv e' x ∧ opv e y = opv e' y := fun x y hx => ⟨ha x (by rw [← Array.mem_toList_iff, hx]; simp), ha y (by rw [← Array.mem_toList_iff, hx]; simp)⟩
      cases b <;> simp only []
      all_goals (repeat' split) <;> first | rfl | skip
      all_goals first
        | (rename_i hx; rw [one _ hx]; done)
        | (rename_i hx; rw [(two _ _ hx).1, (two _ _ hx).2]; done)
        | (rename_i hx _; rw [one _ hx]; done)
        | (rename_i hx _; rw [(two _ _ hx).1, (two _ _ hx).2]; done)
        | skip
  all_goals first
    | rfl
    | (rw [h _ (by simp)]; done)
    | (rw [h _ (by simp), h _ (by simp)]; done)
    | (simp_all; done)
    | skip

variable {G con n} {m mm : List (Blk G.U.El)}

theorem look {id : Nat} {b : Blk G.U.El} (h : m[id]? = some b) : (m ++ mm)[id]? = some b := by
  rw [List.getElem?_append_left (List.getElem?_eq_some_iff.1 h).1, h]

theorem rowOf_mono {t : Nat} {c : C G.U.El} {l : List (G.U.El t)} (h : rowOf m t c = some l) : rowOf (m ++ mm) t c = some l := by
  unfold rowOf at h ⊢
  split at h
  · exact h
  · split at h
    · rename_i hm
      rw [look hm]
      exact h
    · cases h
  · split at h
    · rename_i hm
      rw [look hm]
      exact h
    · cases h
  · exact h
  · cases h

theorem ptrElem_mono {t : Nat} {c : C G.U.El} {x : G.U.El t} (h : ptrElem G.U m t c = some x) : ptrElem G.U (m ++ mm) t c = some x := by
  unfold ptrElem at h ⊢
  split at h
  · split at h
    · rename_i hm
      rw [look hm]
      exact h
    · cases h
  · split at h
    · rename_i hm
      rw [look hm]
      exact h
    · cases h
  · exact h
  · cases h

theorem dec1_mono {s : S1} {c : C G.U.El} {x : s.T G.U.El} (h : s.dec m c = some x) : s.dec (m ++ mm) c = some x := by
  cases s with
  | row t => exact rowOf_mono (l := x) h
  | sl t => exact rowOf_mono (l := x) h
  | ip t =>
    have h' : ownRow m t c = some (x : List (G.U.El t)) := h
    rcases dec_own h' with ⟨id, rfl, hb⟩ | ⟨rfl, hx⟩
    · show ownRow (m ++ mm) t (.sl id) = some x
      simp only [ownRow, look hb, dif_pos]
      rfl
    · show ownRow (m ++ mm) t (.sc (.slice none 0 0)) = some x
      rw [hx]
      rfl
  | gv t =>
    have h' : ownRow m t c = some (x : List (G.U.El t)) := h
    rcases dec_own h' with ⟨id, rfl, hb⟩ | ⟨rfl, hx⟩
    · show ownRow (m ++ mm) t (.sl id) = some x
      simp only [ownRow, look hb, dif_pos]
      rfl
    · show ownRow (m ++ mm) t (.sc (.slice none 0 0)) = some x
      rw [hx]
      rfl
  | _ => exact h

theorem decs_mono : ∀ {ss : List S1} {cs : List (C G.U.El)} {x : Ts G.U.El ss}, decs m ss cs = some x → decs (m ++ mm) ss cs = some x
  | [], [], _, h => h
  | [], _ :: _, _, h => by simp [decs] at h
  | _ :: _, [], _, h => by simp [decs] at h
  | s :: ss, c :: cs, x, h => by
    simp only [decs] at h ⊢
    obtain ⟨y, h3, h⟩ := Option.bind_eq_some_iff.1 h
    obtain ⟨z, h4, h⟩ := Option.bind_eq_some_iff.1 h
    rw [dec1_mono h3, Option.bind_some, decs_mono h4]
    exact h

theorem ioDec_mono {t : Nat} {ss : List S1} {id : Nat} {x : Ts G.U.El ss} (h : ioDec m t ss id = some x) : ioDec (m ++ mm) t ss id = some x := by
  obtain ⟨cs, hb, hd⟩ := ioDec_some h
  simp only [ioDec, look hb, if_true]
  exact decs_mono hd
theorem capsDec_mono : ∀ {caps : List (Nat × List S1)} {cs : List (Nat × Nat)} {x : CapT G.U.El caps}, capsDec m caps cs = some x → capsDec (m ++ mm) caps cs = some x
  | [], [], _, h => h
  | [], _ :: _, _, h => by simp [capsDec] at h
  | _ :: _, [], _, h => by simp [capsDec] at h
  | p :: ps, c :: cs, x, h => by
    simp only [capsDec] at h ⊢
    split at h
    case isFalse => cases h
    rename_i h0
    obtain ⟨y, h3, h⟩ := Option.bind_eq_some_iff.1 h
    obtain ⟨z, h4, h⟩ := Option.bind_eq_some_iff.1 h
    rw [if_pos h0, ioDec_mono h3, Option.bind_some, capsDec_mono h4]
    exact h

theorem AS.dec_mono {s : AS} {v : V G.U.El} {x : s.T G.U.El} (h : s.dec G.U m v = some x) : s.dec G.U (m ++ mm) v = some x := by
  cases s with
  | c s => cases v with
    | w y => cases y with
      | c c => exact dec1_mono (s := s) h
      | agg => cases h
    | _ => cases h
  | agg ss => cases v with
    | w y => cases y with
      | agg xs => exact decs_mono h
      | c => cases h
    | _ => cases h
  | ptr t => cases v with
    | w y => cases y with
      | c c => exact ptrElem_mono h
      | agg => cases h
    | _ => cases h
  | skip => cases v <;> exact h
  | io t ss => cases v with
    | w y => cases y with
      | c c => cases c with
        | ptr id off =>
          change (if off = 0 then ioDec m t ss id else none) = some x at h
          show (if off = 0 then ioDec (m ++ mm) t ss id else none) = some x
          split at h
          · rename_i h0; rw [if_pos h0]; exact ioDec_mono h
          · cases h
        | _ => cases h
      | agg => cases h
    | _ => cases h
  | fnp f caps => cases v with
    | w y => cases y with
      | c c => cases c with
        | fn f' cs =>
          change (if f' = f then capsDec m caps cs else none) = some x at h
          show (if f' = f then capsDec (m ++ mm) caps cs else none) = some x
          split at h
          · rename_i h0; rw [if_pos h0]; exact capsDec_mono h
          · cases h
        | _ => cases h
      | agg => cases h
    | _ => cases h
  | bk t => cases v with
    | w y => cases y <;> cases h
    | _ => cases h
  | np t ss => cases v with
    | w y => cases y <;> cases h
    | _ => cases h

theorem ASdec_mono : ∀ {ss : List AS} {vs : List (V G.U.El)} {x : ASs G.U.El ss}, ASdec G.U m ss vs = some x → ASdec G.U (m ++ mm) ss vs = some x
  | [], [], _, h => h
  | [], _ :: _, _, h => by simp [ASdec] at h
  | _ :: _, [], _, h => by simp [ASdec] at h
  | s :: ss, v :: vs, x, h => by
    simp only [ASdec] at h ⊢
    obtain ⟨y, h3, h⟩ := Option.bind_eq_some_iff.1 h
    obtain ⟨z, h4, h⟩ := Option.bind_eq_some_iff.1 h
    rw [AS.dec_mono h3, Option.bind_some, ASdec_mono h4]
    exact h

theorem aLoad_mono {t : Nat} {a : V G.U.El} {x : W G.U.El} (h : aLoad G t a m some = some x) : aLoad G t a (m ++ mm) some = some x := by
  unfold aLoad at h ⊢
  split at h
  · cases h
  · split at h
    · split at h
      · rename_i hm
        simp only [look hm]
        exact h
      · cases h
    · split at h
      · rename_i hm
        simp only [look hm]
        exact h
      · cases h
    · exact h
    · split at h
      · rename_i hm
        simp only [look hm]
        exact h
      · cases h
    · cases h

theorem aLen_mono {t : Nat} {a : V G.U.El} {x : W G.U.El} (h : aLen G t a m some = some x) : aLen G t a (m ++ mm) some = some x := by
  unfold aLen at h ⊢
  split at h
  · exact h
  · exact h
  · exact h
  · split at h
    · rename_i hm
      simp only [look hm]
      exact h
    · cases h
  · exact h
  · exact h
  · cases h

theorem aIndexAddr_mono {t : Nat} {a i : V G.U.El} {x : W G.U.El} (h : aIndexAddr G t a i m some = some x) : aIndexAddr G t a i (m ++ mm) some = some x := by
  unfold aIndexAddr at h ⊢
  split at h
  · split at h
    · exact h
    · split at h
      · rename_i hm
        simp only [look hm]
        exact h
      · cases h
    · exact h
    · exact h
    · exact h
    · cases h
  · cases h

theorem aSlice_mono {t : Nat} {a : V G.U.El} {lo hi mx : Option (V G.U.El)} {x : W G.U.El} (h : aSlice G t a lo hi mx m some = some x) : aSlice G t a lo hi mx (m ++ mm) some = some x := by
  unfold aSlice at h ⊢
  split at h
  · exact h
  · exact h
  · exact h
  · split at h
    · rename_i hm
      simp only [look hm]
      exact h
    · cases h
  · cases h

theorem aConvert_mono {s d : Nat} {a : V G.U.El} {x : W G.U.El} (h : aConvert G s d a m some = some x) : aConvert G s d a (m ++ mm) some = some x := by
  unfold aConvert at h ⊢
  split at h
  · exact h
  · exact h
  · split at h
    · rename_i hk
      simp only [if_pos hk]
      split at h
      · rename_i h1 h2
        simp only [h1, rowOf_mono h2]
        exact h
      · cases h
    · cases h
  · cases h

theorem of1 {x : Option (W G.U.El)} {v : V G.U.El} {m m' : List (Blk G.U.El)} (h : (x.bind fun w => some (V.w w, m)) = some (v, m')) : ∃ w, x = some w ∧ v = .w w ∧ m' = m := by
  obtain ⟨w, h1, h2⟩ := Option.bind_eq_some_iff.1 h
  cases h2
  exact ⟨w, h1, rfl, rfl⟩

theorem enc1_free (lc : Bool) (s : S1) (x : s.T G.U.El) (m1 m2 : List (Blk G.U.El)) : (enc1 false lc s x m1).1 = (enc1 false lc s x m2).1 := by cases s <;> rfl
theorem enc2_free (lc : Bool) : ∀ (ss : List S1) (x : Ts G.U.El ss) (m1 m2 : List (Blk G.U.El)), (enc2 false lc ss x m1).1 = (enc2 false lc ss x m2).1
  | [], _, _, _ => rfl
  | s :: ss, (x, y), m1, m2 => by simp only [enc2]; rw [enc1_free lc s x m1 m2, enc2_free lc ss y _ (enc1 false lc s x m2).2]
theorem encO_free (lc : Bool) : ∀ (s : AS) (x : s.T G.U.El) (m1 m2 : List (Blk G.U.El)), isNp s = false → (encO false lc s x m1).1 = (encO false lc s x m2).1
  | .c s, x, m1, m2, _ => by simp only [encO]; rw [enc1_free lc s x m1 m2]
  | .agg ss, x, m1, m2, _ => by simp only [encO]; rw [enc2_free lc ss x m1 m2]
  | .io _ ss, x, m1, m2, _ => congrArg W.agg (enc2_free lc ss x m1 m2)
  | .np .., _, _, _, h => by cases h
  | .ptr _, _, _, _, _ | .skip, _, _, _, _ | .bk _, _, _, _, _ | .fnp .., _, _, _, _ => rfl
theorem encOs_free (lc : Bool) : ∀ (ss : List AS) (x : Os G.U.El ss) (m1 m2 : List (Blk G.U.El)), ss.any isNp = false → (encOs false lc ss x m1).1 = (encOs false lc ss x m2).1
  | [], _, _, _, _ => rfl
  | [s], x, m1, m2, h => congrArg (fun z => [z]) (encO_free lc s x m1 m2 (by simpa using h))
  | s :: s' :: ss, (x, y), m1, m2, h => by
    rw [List.any_cons, Bool.or_eq_false_iff] at h
    simp only [encOs]
    rw [encO_free lc s x m1 m2 h.1, encOs_free lc (s' :: ss) y _ (encO false lc s x m2).2 h.2]

theorem quiet_outs {c : Con G.U.El} (hq : c.quiet = true) : bkSs c.ins = [] ∧ (c.outs ++ bkSs c.ins).any isNp = false ∧ c.ins.any AS.isGv = false := by
  simp only [Con.quiet, Bool.and_eq_true, List.isEmpty_iff, Bool.not_eq_true'] at hq
  exact ⟨hq.1.1, by rw [hq.1.1, List.append_nil]; exact hq.1.2, hq.2⟩

theorem lc_free : ∀ {ss : List AS} {vs : List (V G.U.El)} (m1 m2 : List (Blk G.U.El)), bkSs ss = [] → lcOf m1 ss vs = lcOf m2 ss vs
  | [], [], _, _, _ | [], _ :: _, _, _, _ | _ :: _, [], _, _, _ => rfl
  | s :: ss, v :: vs, m1, m2, h => by
    simp only [bkSs, List.append_eq_nil_iff] at h
    simp only [lcOf]
    rw [lc_free m1 m2 h.2]
    congr 1
    cases s with
    | c s => cases v with
      | w y => cases y <;> rfl
      | _ => rfl
    | agg ss => cases v with
      | w y => cases y <;> rfl
      | _ => rfl
    | io t ss => cases h.1
    | fnp f caps => cases caps with
      | nil => cases v with
        | w y => cases y with
          | c c => cases c with
            | fn f' cs => cases cs <;> rfl
            | _ => rfl
          | agg => rfl
        | _ => rfl
      | cons p ps => cases h.1
    | _ => cases v <;> rfl

theorem aCall_inv {dst : Option Nat} {f : Nat} {args : List (V G.U.El)} {m : List (Blk G.U.El)} {K : V G.U.El → List (Blk G.U.El) → Option ρ} {r : ρ} (h : aCall G con n dst f args m K = some r) :
    ∃ c x y, con (keyOf f args) = some c ∧ ASdec G.U m c.ins args = some x ∧ callOk G c f m args = true ∧ c.plain n x = some y := by
  unfold aCall at h
  split at h
  · cases h
  · rename_i c hc
    split at h
    · cases h
    · rename_i x hx
      split at h
      · rename_i hco
        obtain ⟨y, hy, h2⟩ := Option.bind_eq_some_iff.1 h
        exact ⟨c, x, y, hc, hx, hco, hy⟩
      · cases h

/-- A call that writes nothing that it is handed. -/
theorem aCall_eq {dst : Option Nat} {f : Nat} {args : List (V G.U.El)} {m : List (Blk G.U.El)} {K : V G.U.El → List (Blk G.U.El) → Option ρ} {c x y} (hc : con (keyOf f args) = some c) (hx : ASdec G.U m c.ins args = some x) (hf : Nat.blt f 65536 = true) (hq : c.quiet = true) (hy : c.plain n x = some y) :
    aCall G con n dst f args m K = K (resV ((encOs (ownD G dst) (lcOf m c.ins args) (c.outs ++ bkSs c.ins) y m).1.take c.outs.length)) (encOs (ownD G dst) (lcOf m c.ins args) (c.outs ++ bkSs c.ins) y m).2 := by
  have hmv := quiet_mv hx (quiet_outs hq).1 (quiet_outs hq).2.2
  have hbk : bkIs c.ins args = [] := by
    have := bks_sub hx
    rw [hmv] at this
    exact List.sublist_nil.1 this
  unfold aCall
  simp only [hc, hx]
  rw [if_pos (by simp [callOk, hf, hq, hmv]), hy]
  simp only [Option.bind_some, hmv, kill, hbk, hq, Bool.not_true, Bool.or_false]
  congr 1
  cases bkBlks (bkSs c.ins) ((encOs (ownD G dst) (lcOf m c.ins args) (c.outs ++ bkSs c.ins) y m).1.drop c.outs.length) <;> rfl

/-- What reads alone. -/
theorem kind1 {o : Oper} {e : Nat → V G.U.El} {v : V G.U.El} {m' : List (Blk G.U.El)} (hk : opKind G o ≤ 1) (h : aOp1 G con n o e m = some (v, m')) :
    m' = m ∧ (∀ mm, aOp1 G con n o e (m ++ mm) = some (v, m ++ mm)) ∧ (opKind G o = 0 → ∀ m2, aOp1 G con n o e m2 = some (v, m2)) := by
  have free : ∀ {F : (m : List (Blk G.U.El)) → Option (W G.U.El)}, (∀ m, aOp1 G con n o e m = (F m).bind fun w => some (V.w w, m)) → (∀ m1 m2, F m1 = F m2) →
      m' = m ∧ (∀ mm, aOp1 G con n o e (m ++ mm) = some (v, m ++ mm)) ∧ (opKind G o = 0 → ∀ m2, aOp1 G con n o e m2 = some (v, m2)) := by
    intro F h1 h2
    rw [h1] at h
    obtain ⟨w, h3, rfl, rfl⟩ := of1 h
    exact ⟨rfl, fun mm => by rw [h1, h2 _ m', h3]; rfl, fun _ m2 => by rw [h1, h2 _ m', h3]; rfl⟩
  have reads : ∀ {F : (m : List (Blk G.U.El)) → Option (W G.U.El)}, (∀ m, aOp1 G con n o e m = (F m).bind fun w => some (V.w w, m)) → (∀ w mm, F m = some w → F (m ++ mm) = some w) → opKind G o ≠ 0 →
      m' = m ∧ (∀ mm, aOp1 G con n o e (m ++ mm) = some (v, m ++ mm)) ∧ (opKind G o = 0 → ∀ m2, aOp1 G con n o e m2 = some (v, m2)) := by
    intro F h1 h2 h0
    rw [h1] at h
    obtain ⟨w, h3, rfl, rfl⟩ := of1 h
    exact ⟨rfl, fun mm => by rw [h1, h2 _ mm h3]; rfl, fun hh => absurd hh h0⟩
  have plain : ∀ {F : Option (V G.U.El)}, (∀ m, aOp1 G con n o e m = F.bind fun v => some (v, m)) →
      m' = m ∧ (∀ mm, aOp1 G con n o e (m ++ mm) = some (v, m ++ mm)) ∧ (opKind G o = 0 → ∀ m2, aOp1 G con n o e m2 = some (v, m2)) := by
    intro F h1
    rw [h1] at h
    obtain ⟨w, h3, h4⟩ := Option.bind_eq_some_iff.1 h
    cases h4
    exact ⟨rfl, fun mm => by rw [h1, h3]; rfl, fun _ m2 => by rw [h1, h3]; rfl⟩
  have none_ : (∀ m, aOp1 G con n o e m = none) → m' = m ∧ (∀ mm, aOp1 G con n o e (m ++ mm) = some (v, m ++ mm)) ∧ (opKind G o = 0 → ∀ m2, aOp1 G con n o e m2 = some (v, m2)) := fun h1 => by rw [h1] at h; cases h
  obtain ⟨dst, op, type, pos, after, guard⟩ := o
  cases op
  case move x => exact plain (F := some (opv e x)) fun m => rfl
  case assign x => exact plain (F := some (opv e x)) fun m => rfl
  case pick c a b =>
    refine plain (F := match opv e c with | .w (.c (.sc (.bool t))) => cond t (some (opv e a)) (some (opv e b)) | _ => none) fun m => ?_
    simp only [aOp1, aOp]
    generalize opv e c = z
    cases z with
    | w y => cases y with
      | c y => cases y with
        | sc y => cases y <;> first | rfl | (simp only [cond_bind, Option.bind_some]; done)
        | _ => rfl
      | _ => rfl
    | _ => rfl
  case alloc => simp [opKind] at hk
  case box => simp [opKind] at hk
  case build t ps => exact free (F := fun _ => aBuild G t (ps.toList.map fun p => (p.1, opv e p.2)) some) (fun m => by simp only [aOp1, aOp]; exact aBuild_nat ..) (fun _ _ => rfl)
  case buildSlice t len ps =>
    have hk' : (if ownD G dst = true then 2 else 0) ≤ 1 := hk
    by_cases hfn : fnSl G t = true
    · refine none_ fun m => ?_
      simp only [aOp1, aOp, if_pos hfn]
      unfold aBuildFns
      split
      · rw [if_neg]
        intro hh
        rw [hh.1] at hk'
        simp at hk'
      · rfl
    have e0 : ∀ m, aOp1 G con n ⟨dst, .buildSlice t len ps, type, pos, after, guard⟩ e m = aBuildSlice G (ownD G dst) t len (ps.toList.map fun p => (p.1, opv e p.2)) m fun w m => some (.w w, m) := fun m => by simp only [aOp1, aOp, if_neg hfn]
    cases ho : ownD G dst with
    | true => rw [ho] at hk'; simp at hk'
    | false =>
      refine free (F := fun _ => (aBuildSlice (ρ := W G.U.El) G false t len (ps.toList.map fun p => (p.1, opv e p.2)) [] fun w _ => some w)) (fun m => ?_) (fun _ _ => rfl)
      rw [e0, ho]
      unfold aBuildSlice
      generalize G.tyOf t = z
      cases z with
      | none => rfl
      | some z =>
        cases z <;> try rfl
        rename_i t
        dsimp only
        generalize (if len * G.U.sz t ≤ 16777216 then litFill G t (List.map (fun p => (p.1, opv e p.2)) ps.toList) (List.replicate len (G.U.dflt t)) else none) = z
        cases z <;> rfl
  case load t a => exact reads (F := fun m => aLoad G t (opv e a) m some) (fun m => by simp only [aOp1, aOp]; exact aLoad_nat ..) (fun w mm hw => aLoad_mono hw) (by simp [opKind])
  case store => simp [opKind] at hk
  case nilCheck x =>
    refine plain (F := match opv e x with | .w (.c (.ptr a b)) => some (.w (.c (.ptr a b))) | .w (.c (.pda a b c d)) => some (.w (.c (.pda a b c d))) | .w (.c (.prow a b c d)) => some (.w (.c (.prow a b c d))) | .w (.c (.fn f cs)) => some (.w (.c (.fn f cs))) | _ => none) fun m => ?_
    simp only [aOp1, aOp]
    generalize opv e x = z
    cases z with
    | w y => cases y with
      | c y => cases y <;> rfl
      | _ => rfl
    | _ => rfl
  case binOp op t x y _ => exact free (F := fun _ => aBin G.U G.ti op t (opv e x) (opv e y) some) (fun m => by simp only [aOp1, aOp]; exact aBin_nat ..) (fun _ _ => rfl)
  case unOp op _ x => exact free (F := fun _ => aUn op (opv e x) some) (fun m => by simp only [aOp1, aOp]; exact aUn_nat ..) (fun _ _ => rfl)
  case convert s d x => exact reads (F := fun m => aConvert G s d (opv e x) m some) (fun m => by simp only [aOp1, aOp]; exact aConvert_nat ..) (fun w mm hw => aConvert_mono hw) (by simp [opKind])
  case makeFunc fn first caps =>
    cases fn
    case func f =>
      refine plain (F := if first.size = 0 then match capsOf (caps.toList.map (opv e)) with | some cs => some (.w (.c (.fn f cs))) | none => none else if caps.size = 0 then match bound f (first.toList.map (opv e)) with | some x => some (.w (.c x)) | none => none else none) fun m => ?_
      simp only [aOp1, aOp]
      by_cases hz : first.size = 0
      · simp only [if_pos hz]
        cases capsOf (caps.toList.map (opv e)) <;> rfl
      · simp only [if_neg hz]
        by_cases hz2 : caps.size = 0
        · simp only [if_pos hz2]
          cases bound f (first.toList.map (opv e)) <;> rfl
        · simp only [if_neg hz2]
          rfl
    all_goals exact none_ fun m => rfl
  case makeSlice t a b =>
    have hk' : (if ownD G dst = true then 2 else 0) ≤ 1 := hk
    have e0 : ∀ m, aOp1 G con n ⟨dst, .makeSlice t a b, type, pos, after, guard⟩ e m = aMakeSlice G (ownD G dst) t (opv e a) (opv e b) m fun w m => some (.w w, m) := fun m => rfl
    cases ho : ownD G dst with
    | true => rw [ho] at hk'; simp at hk'
    | false =>
      refine free (F := fun _ => (aMakeSlice (ρ := W G.U.El) G false t (opv e a) (opv e b) [] fun w _ => some w)) (fun m => ?_) (fun _ _ => rfl)
      rw [e0, ho]
      unfold aMakeSlice
      split
      · split
        · simp only [Bool.false_eq_true, if_false, cond_bind, Option.bind_some, Option.bind_none]
        · rfl
      · rfl
  case slice t x lo hi mx => exact reads (F := fun m => aSlice G t (opv e x) (lo.map (opv e)) (hi.map (opv e)) (mx.map (opv e)) m some) (fun m => by simp only [aOp1, aOp]; exact aSlice_nat ..) (fun w mm hw => aSlice_mono hw) (by simp [opKind])
  case fieldAddr t x f => exact free (F := fun _ => aFieldAddr G t f (opv e x) some) (fun m => by simp only [aOp1, aOp]; exact aFieldAddr_nat ..) (fun _ _ => rfl)
  case field t x f => exact free (F := fun _ => aField G t f (opv e x) some) (fun m => by simp only [aOp1, aOp]; exact aField_nat ..) (fun _ _ => rfl)
  case indexAddr t x i => exact reads (F := fun m => aIndexAddr G t (opv e x) (opv e i) m some) (fun m => by simp only [aOp1, aOp]; exact aIndexAddr_nat ..) (fun w mm hw => aIndexAddr_mono hw) (by simp [opKind])
  case index t x i => exact free (F := fun _ => aIndex G t (opv e x) (opv e i) some) (fun m => by simp only [aOp1, aOp]; exact aIndex_nat ..) (fun _ _ => rfl)
  case extract t i =>
    refine plain (F := match opv e t with | .tup ws => (match ws[i]? with | some w => some (.w w) | none => none) | _ => none) fun m => ?_
    simp only [aOp1, aOp]
    generalize opv e t = z
    cases z with
    | tup ws =>
      dsimp only
      cases ws[i]? <;> rfl
    | _ => rfl
  case call c =>
    cases hc : c.callee with
    | invoke => exact none_ fun m => by simp only [aOp1, aOp, hc]
    | value f =>
      have hk3 : (∀ g, f = .func g → G.ios.contains g = false) ∧ ((∀ g, f ≠ .func g) → G.ios = []) ∧ ownD G dst = false ∧ opKind G ⟨dst, .call c, type, pos, after, guard⟩ ≠ 0 := by
        simp only [opKind, hc] at hk ⊢
        cases f with
        | func g =>
          simp only [] at hk ⊢
          cases hg : G.ios.contains g with
          | true => rw [hg] at hk; simp at hk
          | false =>
            cases ho : ownD G dst with
            | true => rw [hg, ho] at hk; simp at hk
            | false => exact ⟨fun g' e => (by cases e; exact hg), fun h => absurd rfl (h g), rfl, by simp⟩
        | _ =>
          simp only [] at hk ⊢
          cases hg : G.ios.isEmpty with
          | false => rw [hg] at hk; simp at hk
          | true =>
            cases ho : ownD G dst with
            | true => rw [hg, ho] at hk; simp at hk
            | false => exact ⟨fun g' e => (by cases e), fun _ => List.isEmpty_iff.1 hg, rfl, by simp⟩
      obtain ⟨hk4, hk5, ho', h0⟩ := hk3
      -- a call whose results are not owned
      have key : ∀ p, calleeOf G (opv e f) (c.args.toList.map (opv e)) = some p → ∀ m, aOp1 G con n ⟨dst, .call c, type, pos, after, guard⟩ e m = aCall G con n dst p.1 p.2 m fun v m => some (v, m) := fun p hp m => by simp only [aOp1, aOp, hc, hp]
      cases hf : calleeOf G (opv e f) (c.args.toList.map (opv e)) with
      | none => exact none_ fun m => by simp only [aOp1, aOp, hc, hf]
      | some p =>
        obtain ⟨g, as⟩ := p
        have h1 := h
        rw [key _ hf] at h1
        dsimp only at h1
        have hng : G.ios.contains g = false := by
          by_cases hfg : ∃ g', f = .func g'
          · obtain ⟨g', rfl⟩ := hfg
            cases hf
            exact hk4 _ rfl
          · rw [hk5 fun g' e => hfg ⟨g', e⟩]; rfl
        obtain ⟨cn, x, y, hcn, hx, hco, hy⟩ := aCall_inv h1
        simp only [callOk, Bool.and_eq_true, hng, Bool.or_false] at hco
        obtain ⟨⟨hlt, hq⟩, _⟩ := hco
        have hqo := quiet_outs hq
        rw [aCall_eq hcn hx hlt hq hy, ho', encOs_false _ _ _ _ hqo.2.1] at h1
        cases h1
        refine ⟨rfl, fun mm => ?_, fun hh => absurd hh h0⟩
        rw [key _ hf, aCall_eq hcn (ASdec_mono hx) hlt hq hy, ho', encOs_false _ _ _ _ hqo.2.1]
        rw [encOs_free _ (cn.outs ++ bkSs cn.ins) y (_ ++ mm) _ hqo.2.1, lc_free (_ ++ mm) _ hqo.1]
    | builtin b =>
      cases b
      case len =>
        refine reads (F := fun m => match c.argTypes.toList, c.args.toList with | [t], [x] => aLen G t (opv e x) m some | _, _ => none) (fun m => ?_) (fun w mm hw => ?_) (by simp [opKind, hc])
        · simp only [aOp1, aOp, hc]
          generalize c.argTypes.toList = ts
          generalize c.args.toList = xs
          rcases ts with _ | ⟨t, _ | ⟨_, _⟩⟩ <;> rcases xs with _ | ⟨x, _ | ⟨_, _⟩⟩ <;> first | rfl | exact aLen_nat ..
        · split at hw
          · exact aLen_mono hw
          · cases hw
      case append => simp [opKind, hc] at hk
      case min =>
        refine free (F := fun _ => match c.args.toList with | [x, y] => aMinMax G true (opv e x) (opv e y) some | _ => none) (fun m => ?_) (fun _ _ => rfl)
        simp only [aOp1, aOp, hc]
        generalize c.args.toList = xs
        rcases xs with _ | ⟨x, _ | ⟨y, _ | ⟨_, _⟩⟩⟩ <;> first | rfl | exact aMinMax_nat ..
      case max =>
        refine free (F := fun _ => match c.args.toList with | [x, y] => aMinMax G false (opv e x) (opv e y) some | _ => none) (fun m => ?_) (fun _ _ => rfl)
        simp only [aOp1, aOp, hc]
        generalize c.args.toList = xs
        rcases xs with _ | ⟨x, _ | ⟨y, _ | ⟨_, _⟩⟩⟩ <;> first | rfl | exact aMinMax_nat ..
      all_goals exact none_ fun m => by simp only [aOp1, aOp, hc]
  all_goals exact none_ fun m => rfl

/-- What makes blocks alone. -/
theorem kind2 {o : Oper} {e : Nat → V G.U.El} {v : V G.U.El} {m' : List (Blk G.U.El)} (hk : opKind G o ≤ 2) (h : aOp1 G con n o e m = some (v, m')) : ∃ mm, m' = m ++ mm := by
  by_cases h1 : opKind G o ≤ 1
  · exact ⟨[], by rw [(kind1 h1 h).1, List.append_nil]⟩
  obtain ⟨dst, op, type, pos, after, guard⟩ := o
  cases op <;> simp only [opKind] at hk h1 <;> first | omega | skip
  case alloc t =>
    simp only [aOp1, aOp] at h
    split at h
    · cases h; exact ⟨_, rfl⟩
    · cases h
  case box t x =>
    simp only [aOp1, aOp] at h
    split at h
    · split at h
      · cases h; exact ⟨_, rfl⟩
      · cases h
    · cases h
  case buildSlice t len ps =>
    simp only [aOp1, aOp] at h
    split at h
    · unfold aBuildFns at h
      split at h
      · split at h
        · cases h; exact ⟨_, rfl⟩
        · cases h
      · cases h
    unfold aBuildSlice at h
    split at h
    · split at h
      · have h' : (if ownD G dst = true then some ((V.w (.c (.sl m.length)) : V G.U.El), m ++ [Blk.da _ _]) else some (.w (.c (.row _ _ true true)), m)) = some (v, m') := h
        split at h'
        · cases h'; exact ⟨_, rfl⟩
        · cases h'; exact ⟨[], by simp⟩
      · cases h
    · cases h
  case makeSlice t a b =>
    simp only [aOp1, aOp, aMakeSlice] at h
    split at h
    · split at h
      · obtain ⟨_, h⟩ := cond_y.1 h
        obtain ⟨_, h⟩ := cond_y.1 h
        obtain ⟨_, h⟩ := cond_y.1 h
        split at h
        · cases h; exact ⟨_, rfl⟩
        · cases h; exact ⟨[], by simp⟩
      · cases h
    · cases h
  case call c =>
    simp only [aOp1, aOp] at h
    cases hc : c.callee with
    | invoke => simp only [hc] at h; cases h
    | builtin b => cases b <;> simp only [hc] at hk h1 <;> omega
    | value f =>
      simp only [hc] at h hk
      have hk3 : (∀ g, f = .func g → G.ios.contains g = false) ∧ ((∀ g, f ≠ .func g) → G.ios = []) := by
        cases f with
        | func g =>
          simp only [] at hk
          cases hg : G.ios.contains g with
          | true => rw [hg] at hk; simp at hk
          | false => exact ⟨fun g' e => (by cases e; exact hg), fun h => absurd rfl (h g)⟩
        | _ =>
          simp only [] at hk
          cases hg : G.ios.isEmpty with
          | false => rw [hg] at hk; simp at hk
          | true => exact ⟨fun g' e => (by cases e), fun _ => List.isEmpty_iff.1 hg⟩
      split at h
      · rename_i p hf
        obtain ⟨g, as⟩ := p
        dsimp only at h
        have hng : G.ios.contains g = false := by
          by_cases hfg : ∃ g', f = .func g'
          · obtain ⟨g', rfl⟩ := hfg
            cases hf
            exact hk3.1 _ rfl
          · rw [hk3.2 fun g' e => hfg ⟨g', e⟩]; rfl
        obtain ⟨cn, x, y, hcn, hx, hco, hy⟩ := aCall_inv h
        simp only [callOk, Bool.and_eq_true, hng, Bool.or_false] at hco
        obtain ⟨⟨hlt, hq⟩, _⟩ := hco
        rw [aCall_eq hcn hx hlt hq hy] at h
        cases h
        obtain ⟨mm, hmm⟩ := encOs_pre (ownD G dst) (lcOf m cn.ins as) (cn.outs ++ bkSs cn.ins) y m
        exact ⟨mm, hmm.symm⟩
      · cases h
end
end Go.Proofs.Ytnjmkkgmlkhjeaa.AM
namespace Go.Proofs.Ytnjmkkgmlkhjeaa.AM
open Go.RowKit
variable {ρ : Type}

section
variable {El : Nat → Type}
theorem upd_none (e : Nat → V El) (v : V El) : upd e none v = e := rfl

theorem upd_comm (e : Nat → V El) {x y : Option Nat} (v u : V El) (h : ∀ d, x = some d → y ≠ some d) : upd (upd e x v) y u = upd (upd e y u) x v := by
  cases x with
  | none => rfl
  | some d => cases y with
    | none => rfl
    | some d' =>
      have hne : d ≠ d' := fun hd => h d rfl (hd ▸ rfl)
      funext t
      simp only [upd]
      cases h1 : Nat.beq t d with
      | false => rfl
      | true =>
        have h1' := Nat.eq_of_beq_eq_true h1
        subst h1'
        cases h2 : Nat.beq t d' with
        | false => rfl
        | true => exact absurd (Nat.eq_of_beq_eq_true h2) hne

theorem upd_ne (e : Nat → V El) {x : Option Nat} (v : V El) {t : Nat} (h : x ≠ some t) : upd e x v t = e t := by
  cases x with
  | none => rfl
  | some d =>
    simp only [upd]
    cases h1 : Nat.beq t d with
    | false => rfl
    | true => exact absurd (congrArg some (Nat.eq_of_beq_eq_true h1).symm) h

theorem opv_upd (e : Nat → V El) {x : Option Nat} (v : V El) {y : Operand} (h : ∀ d, x = some d → y ≠ .tmp d) : opv (upd e x v) y = opv e y := by
  cases y with
  | tmp t => exact upd_ne e v fun hx => h t hx rfl
  | _ => rfl
end

section
variable {G : Cfg} {con : Nat → Option (Con G.U.El)} {n : Nat} {ops : Array Oper}

/-- Is the operation asked for? 'none': not told. -/
def asked (ops : List Oper) (o : Oper) (e : Nat → V G.U.El) : Option Bool := match o.guard with
  | none => some true
  | some (j, want) => ((ops[j]?).bind (·.dst)).bind fun t => if Nat.blt t G.ntmps && !(G.pins.contains t) then match e t with
    | .und => some false
    | .w (.c (.sc (.bool b))) => some (b == want)
    | _ => none else none

def step (G : Cfg) (con : Nat → Option (Con G.U.El)) (n : Nat) (ops : List Oper) (o : Oper) (σ : St G.U.El) : Option (St G.U.El) :=
  if dstOk G.ntmps G.pins o.dst then (asked (G := G) ops o σ.env).bind fun b => if b then (aOp1 G con n o σ.env σ.mem).bind fun p => some ⟨upd σ.env o.dst p.1, p.2⟩ else some ⟨upd σ.env o.dst .und, σ.mem⟩
  else none

theorem aOper_nat (ops : List Oper) (o : Oper) (σ : St G.U.El) (K : St G.U.El → Option ρ) : aOper G con n ops o σ K = (step G con n ops o σ).bind K := by
  have same : ∀ {t : Nat} {v : V G.U.El}, σ.env t = v → upd σ.env (some t) v = σ.env := fun h => h ▸ upd_same σ.env _
  unfold aOper step asked
  by_cases hd : dstOk G.ntmps G.pins o.dst = true
  · rw [if_pos hd, if_pos hd]
    cases o.guard with
    | none =>
      dsimp only
      rw [aOp_nat, Option.bind_some, if_pos rfl]
      cases aOp1 G con n o σ.env σ.mem <;> rfl
    | some g =>
      obtain ⟨j, want⟩ := g
      dsimp only
      cases (ops[j]?).bind (·.dst) with
      | none => rfl
      | some t =>
        dsimp only [Option.bind_some]
        by_cases ht : (Nat.blt t G.ntmps && !(G.pins.contains t)) = true
        · rw [if_pos ht, if_pos ht]
          generalize hv : σ.env t = v
          cases v with
          | w y => cases y with
            | c c => cases c with
              | sc u => cases u <;> try rfl
                        rename_i b
                        have hs := same hv
                        cases b <;> cases want <;> dsimp only [cond_true, cond_false, Option.bind_some, bool] <;> rw [hs] <;> try rfl
                        all_goals
                          rw [aOp_nat]
                          cases aOp1 G con n o σ.env σ.mem <;> rfl
              | _ => rfl
            | _ => rfl
          | _ => rfl
        · rw [if_neg ht, if_neg ht]
          rfl
  · rw [if_neg hd, if_neg hd]
    rfl

theorem asked_upd {x y : Oper} {e : Nat → V G.U.El} {v : V G.U.El} (h : ∀ d, x.dst = some d → d ∉ y.looksAt ops) : asked (G := G) ops.toList y (upd e x.dst v) = asked (G := G) ops.toList y e := by
  unfold asked
  cases hg : y.guard with
  | none => rfl
  | some g =>
    obtain ⟨j, want⟩ := g
    dsimp only
    cases hj : (ops.toList[j]?).bind (·.dst) with
    | none => rfl
    | some t =>
      dsimp only [Option.bind_some]
      rw [upd_ne e v fun hx => h t hx (by
        rw [Array.getElem?_toList] at hj
        simp [Oper.looksAt, hg, hj])]

theorem aOp1_upd {x y : Oper} {e : Nat → V G.U.El} {v : V G.U.El} {m : List (Blk G.U.El)} (h : ∀ d, x.dst = some d → d ∉ y.looksAt ops) : aOp1 G con n y (upd e x.dst v) m = aOp1 G con n y e m :=
  aOp_congr G con n y m _ fun z hz => opv_upd e v fun d hd hzd => h d hd (by
    subst hzd
    exact List.mem_append_left _ (List.mem_filterMap.2 ⟨.tmp d, by simpa using hz, rfl⟩))

theorem step_inv {o : Oper} {σ σ' : St G.U.El} (h : step G con n ops.toList o σ = some σ') : dstOk G.ntmps G.pins o.dst = true ∧
    ((asked (G := G) ops.toList o σ.env = some true ∧ ∃ v, aOp1 G con n o σ.env σ.mem = some (v, σ'.mem) ∧ σ'.env = upd σ.env o.dst v) ∨
     (asked (G := G) ops.toList o σ.env = some false ∧ σ' = ⟨upd σ.env o.dst .und, σ.mem⟩)) := by
  unfold step at h
  split at h
  · rename_i hd
    refine ⟨hd, ?_⟩
    obtain ⟨b, hb, h⟩ := Option.bind_eq_some_iff.1 h
    cases b with
    | true =>
      rw [if_pos rfl] at h
      obtain ⟨p, hp, h⟩ := Option.bind_eq_some_iff.1 h
      cases h
      exact .inl ⟨hb, p.1, hp, rfl⟩
    | false =>
      cases h
      exact .inr ⟨hb, rfl⟩
  · cases h

theorem step_run {o : Oper} {σ : St G.U.El} {v : V G.U.El} {m : List (Blk G.U.El)} (hd : dstOk G.ntmps G.pins o.dst = true) (hb : asked (G := G) ops.toList o σ.env = some true) (hv : aOp1 G con n o σ.env σ.mem = some (v, m)) : step G con n ops.toList o σ = some ⟨upd σ.env o.dst v, m⟩ := by
  unfold step
  rw [if_pos hd, hb, Option.bind_some, if_pos rfl, hv]
  rfl

theorem step_skip {o : Oper} {σ : St G.U.El} (hd : dstOk G.ntmps G.pins o.dst = true) (hb : asked (G := G) ops.toList o σ.env = some false) : step G con n ops.toList o σ = some ⟨upd σ.env o.dst .und, σ.mem⟩ := by
  unfold step
  rw [if_pos hd, hb]
  rfl

/-- Two operations that do not touch change their order. -/
theorem step_swap {x y : Oper} {σ σ1 σ2 : St G.U.El} (hx : opKind G x ≤ 1) (hxy : opKind G x = 0 ∨ opKind G y ≤ 2) (ha : x.apart ops y = true)
    (h1 : step G con n ops.toList x σ = some σ1) (h2 : step G con n ops.toList y σ1 = some σ2) :
    ∃ σ1', step G con n ops.toList y σ = some σ1' ∧ step G con n ops.toList x σ1' = some σ2 := by
  obtain ⟨a1, a2, a3⟩ := Oper.apart_spec ha
  obtain ⟨hdx, h1⟩ := step_inv h1
  obtain ⟨hdy, h2⟩ := step_inv h2
  obtain ⟨e, m⟩ := σ
  obtain ⟨e1, m1⟩ := σ1
  obtain ⟨e2, m2⟩ := σ2
  dsimp only at h1 h2
  -- what x has done
  obtain ⟨vx, rfl, rfl, hb⟩ : ∃ v, e1 = upd e x.dst v ∧ m1 = m ∧ ((asked (G := G) ops.toList x e = some true ∧ aOp1 G con n x e m = some (v, m)) ∨ (asked (G := G) ops.toList x e = some false ∧ v = .und)) := by
    rcases h1 with ⟨hb, v, hv, he⟩ | ⟨hb, h1⟩
    · have hm := (kind1 hx hv).1
      exact ⟨v, he, hm, .inl ⟨hb, hm ▸ hv⟩⟩
    · cases h1
      exact ⟨.und, rfl, rfl, .inr ⟨hb, rfl⟩⟩
  rw [asked_upd a1, aOp1_upd a1] at h2
  obtain ⟨vy, he, hy, hmm⟩ : ∃ v, e2 = upd (upd e x.dst vx) y.dst v ∧ step G con n ops.toList y ⟨e, m1⟩ = some ⟨upd e y.dst v, m2⟩ ∧ (opKind G x = 0 ∨ ∃ mm, m2 = m1 ++ mm) := by
    rcases h2 with ⟨hb', v, hv, he⟩ | ⟨hb', h2⟩
    · exact ⟨v, he, step_run hdy hb' hv, hxy.imp id fun hk => kind2 hk hv⟩
    · cases h2
      exact ⟨.und, rfl, step_skip hdy hb', .inr ⟨[], by simp⟩⟩
  refine ⟨_, hy, ?_⟩
  subst he
  rw [upd_comm e vx vy fun d hd hd' => a2 d hd hd']
  rcases hb with ⟨hb, hv⟩ | ⟨hb, rfl⟩
  · refine step_run hdx (by rw [asked_upd a3]; exact hb) ?_
    dsimp only
    rw [aOp1_upd a3]
    obtain ⟨_, k1, k0⟩ := kind1 hx hv
    rcases hmm with h0 | ⟨mm, rfl⟩
    · exact k0 h0 _
    · exact k1 mm
  · exact step_skip hdx (by rw [asked_upd a3]; exact hb)

def steps (G : Cfg) (con : Nat → Option (Con G.U.El)) (n : Nat) (ops : Array Oper) : List Nat → St G.U.El → Option (St G.U.El)
  | [], σ => some σ
  | i :: is, σ => match ops.toList[i]? with
    | none => none
    | some o => (step G con n ops.toList o σ).bind (steps G con n ops is)

theorem aOps_steps (K : St G.U.El → Option ρ) : ∀ (is : List Nat) (σ : St G.U.El), aOps G con n ops.toList is σ K = (steps G con n ops is σ).bind K
  | [], σ => rfl
  | i :: is, σ => by
    simp only [aOps, steps]
    cases ops.toList[i]? with
    | none => rfl
    | some o =>
      dsimp only
      rw [aOper_nat]
      cases step G con n ops.toList o σ with
      | none => rfl
      | some σ' => exact aOps_steps K is σ'

/-- What may be put off. -/
def Free (G : Cfg) (ops : Array Oper) (x y : Nat) : Prop := ∃ a b, ops[x]? = some a ∧ ops[y]? = some b ∧ opKind G a ≤ 1 ∧ (opKind G a = 0 ∨ opKind G b ≤ 2) ∧ a.apart ops b = true

theorem steps_front {i : Nat} {post : List Nat} : ∀ {pre : List Nat} {σ σ' : St G.U.El}, (∀ p ∈ pre, Free G ops p i) → steps G con n ops (pre ++ i :: post) σ = some σ' → steps G con n ops (i :: (pre ++ post)) σ = some σ'
  | [], _, _, _, h => h
  | p :: pre, σ, σ', hp, h => by
    obtain ⟨a, b, ha, hb, k1, k2, hab⟩ := hp p (by simp)
    rw [List.cons_append] at h
    simp only [steps, Array.getElem?_toList, ha] at h
    obtain ⟨σ1, h1, h⟩ := Option.bind_eq_some_iff.1 h
    have h2 := steps_front (pre := pre) (fun q hq => hp q (by simp [hq])) h
    simp only [steps, Array.getElem?_toList, hb] at h2
    obtain ⟨σ2, h2, h3⟩ := Option.bind_eq_some_iff.1 h2
    obtain ⟨σ1', h4, h5⟩ := step_swap k1 k2 hab h1 h2
    simp only [List.cons_append, steps, Array.getElem?_toList, hb, ha]
    rw [h4, Option.bind_some, h5, Option.bind_some, h3]
end
end Go.Proofs.Ytnjmkkgmlkhjeaa.AM
namespace Go.Proofs.Ytnjmkkgmlkhjeaa.AM
open Go.RowKit
variable {ρ : Type}

def exOf : Ex → Exit
  | .normal => .normal
  | .ret => .ret
  | .exit i => .exit i

section
variable {P : Program} {G : Cfg} {w0 : Frm} {r : ρ}

/-- What follows is met. -/
def KOk (G : Cfg) (w0 : Frm) (n : Nat) (K : Kt G.U ρ) (r : ρ) (Q : Exit → Act → World → Prop) : Prop :=
  ∀ n', n' ≤ n → ∀ e σ a w, K n' e σ = some r → SR G.U G.ntmps w0 σ a w → Q (exOf e) a w

theorem KOk.mono {n n' : Nat} {K : Kt G.U ρ} {Q : Exit → Act → World → Prop} (h : KOk G w0 n K r Q) (hn : n' ≤ n) : KOk G w0 n' K r Q := fun k hk => h k (Nat.le_trans hk hn)

theorem testBit_edges {bs : List Nat} {p : Nat} : ∀ {es : List Edge}, (edgeBits bs es).testBit p = true → ∃ e ∈ es, Region.binds .any e = true ∧ (e.on = p ∨ (bs.getD e.on 0).testBit p = true)
  | [], h => by simp [edgeBits] at h
  | e :: es, h => by
    simp only [edgeBits, Nat.testBit_or, Bool.or_eq_true] at h
    rcases h with h | h
    · by_cases hb : Region.binds .any e = true
      · rw [if_pos hb, Nat.testBit_or, Bool.or_eq_true, Nat.testBit_two_pow] at h
        exact ⟨e, by simp, hb, h.imp (fun h => of_decide_eq_true h) id⟩
      · rw [if_neg hb] at h
        simp at h
    · obtain ⟨e', he, h⟩ := testBit_edges h
      exact ⟨e', by simp [he], h⟩

theorem edges_testBit {bs : List Nat} {e : Edge} : ∀ {es : List Edge}, e ∈ es → Region.binds .any e = true → (edgeBits bs es).testBit e.on = true
  | e' :: es, h, hb => by
    simp only [edgeBits, Nat.testBit_or, Bool.or_eq_true]
    rcases List.mem_cons.1 h with rfl | h
    · rw [if_pos hb, Nat.testBit_or, Nat.testBit_two_pow]
      simp
    · exact .inr (edges_testBit h hb)

theorem bsOk_at {ops : Array Oper} {bs : List Nat} (h : bsOk ops bs = true) {i : Nat} {o : Oper} (ho : ops[i]? = some o) : bs.getD i 0 = edgeBits bs o.after.toList ∧ ∀ e ∈ o.after, Region.binds .any e = true → e.on < i := by
  unfold bsOk at h
  rw [List.all_eq_true] at h
  have := h i (List.mem_range.2 (Array.getElem?_eq_some_iff.1 ho).1)
  rw [ho, Bool.and_eq_true] at this
  refine ⟨Nat.eq_of_beq_eq_true this.1, fun e he hb => ?_⟩
  have h1 := List.all_eq_true.1 this.2 e (by simpa using he)
  rw [hb] at h1
  simpa using h1

theorem pairsOk_pw {ops : Array Oper} {ks bs : List Nat} : ∀ {l : List Nat}, pairsOk ops ks bs l = true → l.Pairwise (fun x y => pairOk ops ks bs x y = true ∧ x ≠ y)
  | [], _ => .nil
  | x :: xs, h => by
    simp only [pairsOk, Bool.and_eq_true, List.all_eq_true, Bool.not_eq_true'] at h
    refine .cons (fun y hy => ⟨h.1.1 y hy, ?_⟩) (pairsOk_pw h.2)
    rintro rfl
    have : xs.contains x = true := by simpa using hy
    rw [this] at h
    simp at h

theorem all_in {l : List Nat} {n : Nat} (hnd : l.Nodup) (hlt : ∀ j ∈ l, j < n) (hlen : l.length = n) {j : Nat} (hj : j < n) : j ∈ l := by
  by_cases hm : j ∈ l
  · exact hm
  · have hsub : (j :: l) ⊆ List.range n := fun x hx => by
      rcases List.mem_cons.1 hx with rfl | hx
      · exact List.mem_range.2 hj
      · exact List.mem_range.2 (hlt x hx)
    have := (List.nodup_cons.2 ⟨hm, hnd⟩).length_le_of_subset hsub
    simp at this
    omega

theorem SR.drawn {U : Univ} {N : Nat} {σ : St U.El} {a : Act} {w : World} (h : SR U N w0 σ a w) (k : Nat) : SR U N w0 σ a { w with drawn := k } := by
  obtain ⟨ι, hE, hN, hD, hM, hFr, hPn⟩ := h
  obtain ⟨hg, hM'⟩ := hM.quiet (w' := { w with drawn := k }) (Nat.le_refl _) (fun _ _ => rfl)
  exact ⟨ι, fun t => (hE t).grow hg, hN, hD, hM', ⟨hFr.os, hFr.tape, hFr.output, hFr.size, hFr.block⟩, hPn⟩

theorem any_ok (hF : Fits P G.U G.ti) {con : Nat → Option (Con G.U.El)} (hcon : ∀ f c, con f = some c → ConOk P G.U f c) {n : Nat} {ops : Array Oper} {K : St G.U.El → Option ρ} {Q : Exit → Act → World → Prop} {bs : List Nat}
    (hbs : bsOk ops bs = true) (hpin : w0.pins = G.pins) (hk : ∀ σ' a' w', K σ' = some r → SR G.U G.ntmps w0 σ' a' w' → Q .normal a' w') :
    ∀ (fuel : Nat) (listed : Array Bool) (rest : List Nat) (σ : St G.U.El) (a : Act) (w : World), (∀ j, j ∈ rest ↔ j < ops.size ∧ listed.getD j true = false) → listed.size = ops.size →
      rest.Pairwise (fun x y => pairOk ops (ops.toList.map (opKind G)) bs x y = true ∧ x ≠ y) → (∀ j p, listed.getD j false = true → (bs.getD j 0).testBit p = true → listed.getD p false = true) →
      rest.length ≤ fuel → SR G.U G.ntmps w0 σ a w → (steps G con n ops rest σ).bind K = some r → wpAny P .any ops Q fuel listed a w := by
  intro fuel
  induction fuel with
  | zero =>
    intro listed rest σ a w hmem _ _ _ hlen hσ h
    have hr : rest = [] := List.length_eq_zero_iff.1 (Nat.le_zero.1 hlen)
    subst hr
    refine ⟨List.eq_nil_iff_forall_not_mem.2 fun j hj => ?_, hk σ a w h hσ⟩
    obtain ⟨h0, o, ho, _⟩ := mem_ready.1 hj
    have := (hmem j).2 ⟨(Array.getElem?_eq_some_iff.1 ho).1, h0⟩
    simp at this
  | succ fuel ih =>
    intro listed rest σ a w hmem hsize hpw hcl hlen hσ h
    have hlisted : ∀ j, j < ops.size → j ∉ rest → listed.getD j false = true := fun j hj hn => by
      cases hb : listed.getD j true with
      | false => exact absurd ((hmem j).2 ⟨hj, hb⟩) hn
      | true =>
        have hlt : j < listed.size := hsize ▸ hj
        simpa [hlt] using hb
    have hunl : ∀ j, j ∈ rest → listed.getD j false = false := fun j hj => by
      obtain ⟨hlt, hb⟩ := (hmem j).1 hj
      have hlt : j < listed.size := hsize ▸ hlt
      simpa [hlt] using hb
    constructor
    · intro hr
      cases rest with
      | nil => exact hk σ a w h hσ
      | cons x xs =>
        exfalso
        obtain ⟨hx, hx0⟩ := (hmem x).1 (by simp)
        have ho : ops[x]? = some ops[x] := by simp [hx]
        have hready : x ∈ Region.ready .any ops listed := by
          refine mem_ready.2 ⟨hx0, _, ho, fun e he hb => ?_⟩
          obtain ⟨h1, h2⟩ := bsOk_at hbs ho
          have hlt := h2 e he hb
          refine hlisted _ (by omega) fun hm => ?_
          rcases List.mem_cons.1 hm with hex | hm
          · omega
          · have := (List.rel_of_pairwise_cons hpw hm).1
            unfold pairOk at this
            rw [h1, edges_testBit (by simpa using he) hb] at this
            simp at this
        rw [hr] at hready
        simp at hready
    · intro i hi
      obtain ⟨hi0, o, ho, hall⟩ := mem_ready.1 hi
      have hilt : i < ops.size := (Array.getElem?_eq_some_iff.1 ho).1
      obtain ⟨hbi, _⟩ := bsOk_at hbs ho
      have hbits : ∀ p, (bs.getD i 0).testBit p = true → listed.getD p false = true := fun p hp => by
        rw [hbi] at hp
        obtain ⟨e, he, hb, hp⟩ := testBit_edges hp
        have hl := hall e (by simpa using he) hb
        rcases hp with rfl | hp
        · exact hl
        · exact hcl _ _ hl hp
      obtain ⟨pre, post, hrest⟩ := List.append_of_mem ((hmem i).2 ⟨hilt, hi0⟩)
      subst hrest
      have hfree : ∀ p ∈ pre, Free G ops p i := fun p hp => by
        have h1 := ((List.pairwise_append.1 hpw).2.2 p hp i (by simp)).1
        have hunp := hunl p (by simp [hp])
        unfold pairOk at h1
        simp only [Bool.and_eq_true, Bool.or_eq_true] at h1
        obtain ⟨_, h1 | ⟨h1, h2⟩⟩ := h1
        · rw [hbits p h1] at hunp
          cases hunp
        · split at h2
          · rename_i a' b' ha hb
            refine ⟨a', b', ha, hb, ?_, ?_, h2⟩
            · have := Nat.le_of_ble_eq_true h1.1
              simpa [List.getD, ha] using this
            · refine h1.2.imp (fun h => ?_) fun h => ?_
              · simpa [List.getD, ha] using h
              · have := Nat.le_of_ble_eq_true h
                simpa [List.getD, hb] using this
          · cases h2
      obtain ⟨σe, h3, h4⟩ := Option.bind_eq_some_iff.1 h
      have h5 := steps_front hfree h3
      simp only [steps, Array.getElem?_toList, ho] at h5
      obtain ⟨σ1, h6, h7⟩ := Option.bind_eq_some_iff.1 h5
      have hrun : aOper G con n ops.toList o σ (fun σ1 => (steps G con n ops (pre ++ post) σ1).bind K) = some r := by
        rw [aOper_nat, h6, Option.bind_some, h7]
        exact h4
      unfold wpOp
      rw [ho]
      refine aOper_ok hF hcon hσ hpin hrun fun σ' a' w' h8 h9 => ?_
      have hnd : (pre ++ i :: post).Nodup := hpw.imp fun h => h.2
      refine ih (listed.setIfInBounds i true) (pre ++ post) σ' a' w' (fun j => ?_) (by simpa using hsize) (hpw.sublist (List.Sublist.append_left (List.sublist_cons_self _ _) _)) (fun j p hj hp => ?_) (by simp at hlen ⊢; omega) h9 h8
      · by_cases hji : j = i
        · subst hji
          have hnot : j ∉ pre ++ post := by
            rw [List.nodup_append] at hnd
            intro hm
            rcases List.mem_append.1 hm with hm | hm
            · exact hnd.2.2 j hm j (by simp) rfl
            · exact (List.nodup_cons.1 hnd.2.1).1 hm
          have hlt : j < listed.size := hsize ▸ hilt
          simp only [hnot, false_iff]
          simp [hlt]
        · rw [getD_set_ne true (Ne.symm hji), ← hmem j]
          simp [hji]
      · by_cases hji : j = i
        · subst hji
          exact getD_set_true (hbits p hp)
        · rw [getD_set_ne false (Ne.symm hji)] at hj
          exact getD_set_true (hcl j p hj hp)

theorem aRegion_ok (hF : Fits P G.U G.ti) {con : Nat → Option (Con G.U.El)} (hcon : ∀ f c, con f = some c → ConOk P G.U f c) {n id : Nat} {ops : Array Oper} {draw : Bool} {K : St G.U.El → Option ρ} {Q : Exit → Act → World → Prop} {is : List Nat}
    (ho : regionOrder G ops draw = some is) {σ : St G.U.El} {a : Act} {w : World} (hσ : SR G.U G.ntmps w0 σ a w) (hpin : w0.pins = G.pins) (h : aOps G con n ops.toList is σ K = some r) (hk : ∀ σ' a' w', K σ' = some r → SR G.U G.ntmps w0 σ' a' w' → Q .normal a' w') :
    (Code.region id ops draw).wp P Q a w := by
  cases draw with
  | false =>
    simp only [regionOrder, Bool.false_eq_true, if_false, Option.some.injEq] at ho
    subst ho
    exact wp_region (aOps_ok hF hcon hpin hk hσ h)
  | true =>
    simp only [regionOrder, if_true] at ho
    split at ho
    · rename_i hc
      cases ho
      simp only [Bool.and_eq_true, decide_eq_true_eq] at hc
      obtain ⟨⟨⟨h1, h2⟩, h3⟩, h4⟩ := hc
      rw [aOps_steps] at h
      have hpw := pairsOk_pw h2
      have hlt := fun (j : Nat) hj => (Nat.le_of_ble_eq_true (List.all_eq_true.1 h3 j hj) : j < ops.size)
      refine wp_region_any hF.mixed (any_ok hF hcon h4 hpin hk ops.size _ _ σ a _ (fun j => ?_) (by simp) hpw (fun j p hj => ?_) (Nat.le_of_eq h1) (hσ.drawn _) h)
      · constructor
        · intro hj
          have hj' : j < ops.size := hlt j hj
          refine ⟨hj', ?_⟩
          simp only [Array.getD_eq_getD_getElem?, Array.getElem?_replicate, if_pos hj', Option.getD_some]
        · intro hj
          exact all_in (hpw.imp fun h => h.2) hlt h1 hj.1
      · exfalso
        by_cases hjs : j < ops.size <;> simp [hjs] at hj
    · cases ho
end
end Go.Proofs.Ytnjmkkgmlkhjeaa.AM
namespace Go.Proofs.Ytnjmkkgmlkhjeaa.AM
open Go.RowKit
variable {ρ : Type}

/-! A region whose two makers of blocks may stand either way: both orders come to the same. -/
theorem pairsOkX_pw {x y : Nat} {ops : Array Oper} {ks bs : List Nat} : ∀ {l : List Nat}, pairsOkX x y ops ks bs l = true → l.Pairwise (fun i j => pairOkX x y ops ks bs i j = true ∧ i ≠ j)
  | [], _ => .nil
  | i :: is, h => by
    simp only [pairsOkX, Bool.and_eq_true, List.all_eq_true, Bool.not_eq_true'] at h
    refine .cons (fun j hj => ⟨h.1.1 j hj, ?_⟩) (pairsOkX_pw h.2)
    rintro rfl
    have : is.contains i = true := by simpa using hj
    rw [this] at h
    simp at h

theorem pairsBy_pw {p : Nat → Nat → Bool} : ∀ {l : List Nat}, pairsBy p l = true → l.Pairwise (fun i j => p i j = true ∧ i ≠ j)
  | [], _ => .nil
  | i :: is, h => by
    simp only [pairsBy, Bool.and_eq_true, List.all_eq_true, Bool.not_eq_true'] at h
    refine .cons (fun j hj => ⟨h.1.1 j hj, ?_⟩) (pairsBy_pw h.2)
    rintro rfl
    have : is.contains i = true := by simpa using hj
    rw [this] at h
    simp at h

section
variable {P : Program} {G : Cfg} {w0 : Frm} {r : ρ}

theorem pairOk_free {ops : Array Oper} {bs : List Nat} {p i : Nat} {listed : Array Bool} (h1 : pairOk ops (ops.toList.map (opKind G)) bs p i = true) (hbits : ∀ p, (bs.getD i 0).testBit p = true → listed.getD p false = true) (hunp : listed.getD p false = false) : Free G ops p i := by
  unfold pairOk at h1
  simp only [Bool.and_eq_true, Bool.or_eq_true] at h1
  obtain ⟨_, h1 | ⟨h1, h2⟩⟩ := h1
  · rw [hbits p h1] at hunp
    cases hunp
  · split at h2
    · rename_i a' b' ha hb
      refine ⟨a', b', ha, hb, ?_, ?_, h2⟩
      · have := Nat.le_of_ble_eq_true h1.1
        simpa [List.getD, ha] using this
      · refine h1.2.imp (fun h => ?_) fun h => ?_
        · simpa [List.getD, ha] using h
        · have := Nat.le_of_ble_eq_true h
          simpa [List.getD, hb] using this
    · cases h2

theorem front {con : Nat → Option (Con G.U.El)} {n : Nat} {ops : Array Oper} {K : St G.U.El → Option ρ} {i : Nat} {o : Oper} (ho : ops[i]? = some o) {pre post : List Nat} (hfree : ∀ p ∈ pre, Free G ops p i) {σ : St G.U.El}
    (h : (steps G con n ops (pre ++ i :: post) σ).bind K = some r) : ∃ σ1, step G con n ops.toList o σ = some σ1 ∧ (steps G con n ops (pre ++ post) σ1).bind K = some r := by
  obtain ⟨σe, h3, h4⟩ := Option.bind_eq_some_iff.1 h
  have h5 := steps_front hfree h3
  simp only [steps, Array.getElem?_toList, ho] at h5
  obtain ⟨σ1, h6, h7⟩ := Option.bind_eq_some_iff.1 h5
  exact ⟨σ1, h6, by rw [h7]; exact h4⟩

/-- What remains when an operation is done. -/
theorem mem_next {ops : Array Oper} {listed : Array Bool} {i : Nat} {pre post : List Nat} (hsize : listed.size = ops.size) (hilt : i < ops.size) (hnd : (pre ++ i :: post).Nodup) (hmem : ∀ j, j ∈ pre ++ i :: post ↔ j < ops.size ∧ listed.getD j true = false) (j : Nat) :
    j ∈ pre ++ post ↔ j < ops.size ∧ (listed.setIfInBounds i true).getD j true = false := by
  by_cases hji : j = i
  · subst hji
    have hnot : j ∉ pre ++ post := by
      rw [List.nodup_append] at hnd
      intro hm
      rcases List.mem_append.1 hm with hm | hm
      · exact hnd.2.2 j hm j (by simp) rfl
      · exact (List.nodup_cons.1 hnd.2.1).1 hm
    have hlt : j < listed.size := hsize ▸ hilt
    simp only [hnot, false_iff]
    simp [hlt]
  · rw [getD_set_ne true (Ne.symm hji), ← hmem j]
    simp [hji]

theorem cl_next {bs : List Nat} {listed : Array Bool} {i : Nat} (hbits : ∀ p, (bs.getD i 0).testBit p = true → listed.getD p false = true) (hcl : ∀ j p, listed.getD j false = true → (bs.getD j 0).testBit p = true → listed.getD p false = true) (j p : Nat)
    (hj : (listed.setIfInBounds i true).getD j false = true) (hp : (bs.getD j 0).testBit p = true) : (listed.setIfInBounds i true).getD p false = true := by
  by_cases hji : j = i
  · subst hji
    exact getD_set_true (hbits p hp)
  · rw [getD_set_ne false (Ne.symm hji)] at hj
    exact getD_set_true (hcl j p hj hp)

theorem pw_drop {x y : Nat} {ops : Array Oper} {ks bs : List Nat} {l : List Nat} (h : l.Pairwise fun i j => pairOkX x y ops ks bs i j = true ∧ i ≠ j) (hn : x ∉ l) : l.Pairwise fun i j => pairOk ops ks bs i j = true ∧ i ≠ j := by
  refine h.imp_of_mem fun {i j} hi hj ⟨h1, h2⟩ => ⟨?_, h2⟩
  unfold pairOkX at h1
  rw [Bool.or_eq_true] at h1
  rcases h1 with h1 | h1
  · exact h1
  · simp only [Bool.and_eq_true] at h1
    exact absurd (Nat.eq_of_beq_eq_true h1.1.1 ▸ hi) hn

theorem any2_ok (hF : Fits P G.U G.ti) {con : Nat → Option (Con G.U.El)} (hcon : ∀ f c, con f = some c → ConOk P G.U f c) {n : Nat} {ops : Array Oper} {K : St G.U.El → Option ρ} {Q : Exit → Act → World → Prop} {bs : List Nat}
    (hbs : bsOk ops bs = true) (hpin : w0.pins = G.pins) (hk : ∀ σ' a' w', K σ' = some r → SR G.U G.ntmps w0 σ' a' w' → Q .normal a' w') (x y : Nat) (hxy : x ≠ y) :
    ∀ (fuel : Nat) (listed : Array Bool) (ra rb : List Nat) (σ : St G.U.El) (a : Act) (w : World), (∀ j, j ∈ ra ↔ j < ops.size ∧ listed.getD j true = false) → (∀ j, j ∈ rb ↔ j < ops.size ∧ listed.getD j true = false) → listed.size = ops.size →
      ra.Pairwise (fun i j => pairOkX x y ops (ops.toList.map (opKind G)) bs i j = true ∧ i ≠ j) → rb.Pairwise (fun i j => pairOkX y x ops (ops.toList.map (opKind G)) bs i j = true ∧ i ≠ j) →
      (∀ j p, listed.getD j false = true → (bs.getD j 0).testBit p = true → listed.getD p false = true) →
      ra.length ≤ fuel → rb.length ≤ fuel → x ∈ ra → y ∈ ra → SR G.U G.ntmps w0 σ a w → (steps G con n ops ra σ).bind K = some r → (steps G con n ops rb σ).bind K = some r → wpAny P .any ops Q fuel listed a w := by
  intro fuel
  induction fuel with
  | zero =>
    intro listed ra rb σ a w _ _ _ _ _ _ hlen _ hx _ _ _ _
    rw [List.length_eq_zero_iff.1 (Nat.le_zero.1 hlen)] at hx
    cases hx
  | succ fuel ih =>
    intro listed ra rb σ a w hma hmb hsize hpa hpb hcl hla hlb hx hyr hσ hA hB
    have hlisted : ∀ j, j < ops.size → j ∉ ra → listed.getD j false = true := fun j hj hn => by
      cases hb : listed.getD j true with
      | false => exact absurd ((hma j).2 ⟨hj, hb⟩) hn
      | true =>
        have hlt : j < listed.size := hsize ▸ hj
        simpa [hlt] using hb
    have hunl : ∀ j, j ∈ ra → listed.getD j false = false := fun j hj => by
      obtain ⟨hlt, hb⟩ := (hma j).1 hj
      have hlt : j < listed.size := hsize ▸ hlt
      simpa [hlt] using hb
    have hab : ∀ j, j ∈ rb → j ∈ ra := fun j hj => (hma j).2 ((hmb j).1 hj)
    constructor
    · intro hr
      cases ra with
      | nil => cases hx
      | cons z zs =>
        exfalso
        obtain ⟨hz, hz0⟩ := (hma z).1 (by simp)
        have ho : ops[z]? = some ops[z] := by simp [hz]
        have hready : z ∈ Region.ready .any ops listed := by
          refine mem_ready.2 ⟨hz0, _, ho, fun e he hb => ?_⟩
          obtain ⟨h1, h2⟩ := bsOk_at hbs ho
          have hlt := h2 e he hb
          refine hlisted _ (by omega) fun hm => ?_
          rcases List.mem_cons.1 hm with hex | hm
          · omega
          · have := (List.rel_of_pairwise_cons hpa hm).1
            have hbit : (bs.getD z 0).testBit e.on = true := by rw [h1]; exact edges_testBit (by simpa using he) hb
            unfold pairOkX pairOk at this
            simp only [Bool.or_eq_true, Bool.and_eq_true, Bool.not_eq_true'] at this
            rcases this with this | this
            · rw [hbit] at this
              cases this.1
            · have hzx := Nat.eq_of_beq_eq_true this.1.1
              rw [← hzx, hbit] at this
              cases this.2
        rw [hr] at hready
        simp at hready
    · intro i hi
      obtain ⟨hi0, o, ho, hall⟩ := mem_ready.1 hi
      have hilt : i < ops.size := (Array.getElem?_eq_some_iff.1 ho).1
      obtain ⟨hbi, _⟩ := bsOk_at hbs ho
      have hbits : ∀ p, (bs.getD i 0).testBit p = true → listed.getD p false = true := fun p hp => by
        rw [hbi] at hp
        obtain ⟨e, he, hb, hp⟩ := testBit_edges hp
        have hl := hall e (by simpa using he) hb
        rcases hp with rfl | hp
        · exact hl
        · exact hcl _ _ hl hp
      obtain ⟨pa, qa, hra⟩ := List.append_of_mem ((hma i).2 ⟨hilt, hi0⟩)
      obtain ⟨pb, qb, hrb⟩ := List.append_of_mem ((hmb i).2 ⟨hilt, hi0⟩)
      subst hra
      subst hrb
      have hna : (pa ++ i :: qa).Nodup := hpa.imp fun h => h.2
      have hnb : (pb ++ i :: qb).Nodup := hpb.imp fun h => h.2
      have fa : i ≠ y → ∀ p ∈ pa, Free G ops p i := fun hiy p hp => by
        have h1 := ((List.pairwise_append.1 hpa).2.2 p hp i (by simp)).1
        unfold pairOkX at h1
        rw [Bool.or_eq_true] at h1
        rcases h1 with h1 | h1
        · exact pairOk_free h1 hbits (hunl p (by simp [hp]))
        · simp only [Bool.and_eq_true, Bool.or_eq_true] at h1
          rcases h1.1.2 with h | h
          · exact absurd (Nat.eq_of_beq_eq_true h) hiy
          · have h2 := hbits _ h
            rw [hunl _ hyr] at h2
            cases h2
      have fb : i ≠ x → ∀ p ∈ pb, Free G ops p i := fun hix p hp => by
        have h1 := ((List.pairwise_append.1 hpb).2.2 p hp i (by simp)).1
        unfold pairOkX at h1
        rw [Bool.or_eq_true] at h1
        rcases h1 with h1 | h1
        · exact pairOk_free h1 hbits (hunl p (hab p (by simp [hp])))
        · simp only [Bool.and_eq_true, Bool.or_eq_true] at h1
          rcases h1.1.2 with h | h
          · exact absurd (Nat.eq_of_beq_eq_true h) hix
          · have h2 := hbits _ h
            rw [hunl _ hx] at h2
            cases h2
      have sa : (pa ++ qa).Sublist (pa ++ i :: qa) := List.Sublist.append_left (List.sublist_cons_self _ _) _
      have sb : (pb ++ qb).Sublist (pb ++ i :: qb) := List.Sublist.append_left (List.sublist_cons_self _ _) _
      have ma := mem_next hsize hilt hna hma
      have mb := mem_next hsize hilt hnb hmb
      have la : (pa ++ qa).length ≤ fuel := by simp at hla ⊢; omega
      have lb : (pb ++ qb).length ≤ fuel := by simp at hlb ⊢; omega
      have hia : i ∉ pa ++ qa := fun hm => by
        have := (ma i).1 hm
        have hlt : i < listed.size := hsize ▸ hilt
        simp [hlt] at this
      have hib : i ∉ pb ++ qb := fun hm => hia ((ma i).2 ((mb i).1 hm))
      have go : ∀ {σ1 : St G.U.El}, step G con n ops.toList o σ = some σ1 → (∀ a' w', SR G.U G.ntmps w0 σ1 a' w' → wpAny P .any ops Q fuel (listed.setIfInBounds i true) a' w') → wpOp P ops Q i (wpAny P .any ops Q fuel (listed.setIfInBounds i true)) a w := by
        intro σ1 hs hn
        unfold wpOp
        rw [ho]
        have hrun : aOper G con n ops.toList o σ (fun σ' => some σ') = some σ1 := by
          rw [aOper_nat, hs]
          rfl
        refine aOper_ok hF hcon hσ hpin hrun fun σ' a' w' h8 h9 => ?_
        cases h8
        exact hn a' w' h9
      by_cases hiy : i = y
      · by_cases hix : i = x
        · exact absurd (hix.symm.trans hiy) hxy
        · obtain ⟨σ1, h1, h2⟩ := front ho (fb hix) hB
          exact go h1 fun a' w' hs => any_ok hF hcon hbs hpin hk fuel _ (pb ++ qb) σ1 a' w' mb (by simpa using hsize) (pw_drop (hpb.sublist sb) (hiy ▸ hib)) (cl_next hbits hcl) lb hs h2
      · obtain ⟨σ1, h1, h2⟩ := front ho (fa hiy) hA
        by_cases hix : i = x
        · exact go h1 fun a' w' hs => any_ok hF hcon hbs hpin hk fuel _ (pa ++ qa) σ1 a' w' ma (by simpa using hsize) (pw_drop (hpa.sublist sa) (hix ▸ hia)) (cl_next hbits hcl) la hs h2
        · obtain ⟨σ2, h3, h4⟩ := front ho (fb hix) hB
          have : σ2 = σ1 := Option.some.inj (h3.symm.trans h1)
          subst this
          refine go h1 fun a' w' hs => ih _ (pa ++ qa) (pb ++ qb) σ2 a' w' ma mb (by simpa using hsize) (hpa.sublist sa) (hpb.sublist sb) (cl_next hbits hcl) la lb ?_ ?_ hs h2 h4
          · have hx' : x ∈ pa ++ i :: qa := hx
            simp only [List.mem_append, List.mem_cons] at hx' ⊢
            rcases hx' with h | h | h
            · exact .inl h
            · exact absurd h.symm hix
            · exact .inr h
          · have hy' : y ∈ pa ++ i :: qa := hyr
            simp only [List.mem_append, List.mem_cons] at hy' ⊢
            rcases hy' with h | h | h
            · exact .inl h
            · exact absurd h.symm hiy
            · exact .inr h

/-- A region that draws, by two orders of its operations. -/
theorem region2_ok (hF : Fits P G.U G.ti) {con : Nat → Option (Con G.U.El)} (hcon : ∀ f c, con f = some c → ConOk P G.U f c) {n id : Nat} {ops : Array Oper} {K : St G.U.El → Option ρ} {Q : Exit → Act → World → Prop} (x y : Nat) (A B : List Nat)
    (hc : check2 G ops x y A B = true) {σ : St G.U.El} {a : Act} {w : World} (hσ : SR G.U G.ntmps w0 σ a w) (hpin : w0.pins = G.pins) (hA : aOps G con n ops.toList A σ K = some r) (hB : aOps G con n ops.toList B σ K = some r)
    (hk : ∀ σ' a' w', K σ' = some r → SR G.U G.ntmps w0 σ' a' w' → Q .normal a' w') : (Code.region id ops true).wp P Q a w := by
  unfold check2 at hc
  simp only [Bool.and_eq_true, Bool.not_eq_true'] at hc
  obtain ⟨⟨⟨⟨⟨⟨⟨⟨⟨h1, h2⟩, h3⟩, h4⟩, h5⟩, h6⟩, h7⟩, h8⟩, h8'⟩, h9⟩ := hc
  have h1 := Nat.eq_of_beq_eq_true h1
  have h2 := Nat.eq_of_beq_eq_true h2
  rw [aOps_steps] at hA hB
  have pa := pairsOkX_pw h3
  have pb := pairsOkX_pw h4
  have la := fun (j : Nat) hj => (Nat.le_of_ble_eq_true (List.all_eq_true.1 h5 j hj) : j < ops.size)
  have lb := fun (j : Nat) hj => (Nat.le_of_ble_eq_true (List.all_eq_true.1 h6 j hj) : j < ops.size)
  have mem : ∀ {l : List Nat}, (∀ j ∈ l, j < ops.size) → l.Nodup → l.length = ops.size → ∀ j, j ∈ l ↔ j < ops.size ∧ (Array.replicate ops.size false).getD j true = false := by
    intro l hl hn hlen j
    constructor
    · intro hj
      have hj' : j < ops.size := hl j hj
      refine ⟨hj', ?_⟩
      simp only [Array.getD_eq_getD_getElem?, Array.getElem?_replicate, if_pos hj', Option.getD_some]
    · intro hj
      exact all_in hn hl hlen hj.1
  refine wp_region_any hF.mixed (any2_ok hF hcon h7 hpin hk x y (Nat.ne_of_beq_eq_false h9) ops.size _ A B σ a _ (mem la (pa.imp fun h => h.2) h1) (mem lb (pb.imp fun h => h.2) h2) (by simp) pa pb (fun j p hj => ?_) (Nat.le_of_eq h1) (Nat.le_of_eq h2) (by simpa using h8) (by simpa using h8') (hσ.drawn _) hA hB)
  exfalso
  by_cases hjs : j < ops.size <;> simp [hjs] at hj
theorem any3_ok (hF : Fits P G.U G.ti) {con : Nat → Option (Con G.U.El)} (hcon : ∀ f c, con f = some c → ConOk P G.U f c) {n : Nat} {ops : Array Oper} {K : St G.U.El → Option ρ} {Q : Exit → Act → World → Prop} {bs : List Nat}
    (hbs : bsOk ops bs = true) (hpin : w0.pins = G.pins) (hk : ∀ σ' a' w', K σ' = some r → SR G.U G.ntmps w0 σ' a' w' → Q .normal a' w') (x y z : Nat) (hxy : x ≠ y) (hxz : x ≠ z) (hyz : y ≠ z) (hzy : (bs.getD z 0).testBit y = true) :
    ∀ (fuel : Nat) (listed : Array Bool) (ra rb rc : List Nat) (σ : St G.U.El) (a : Act) (w : World), (∀ j, j ∈ ra ↔ j < ops.size ∧ listed.getD j true = false) → (∀ j, j ∈ rb ↔ j < ops.size ∧ listed.getD j true = false) → (∀ j, j ∈ rc ↔ j < ops.size ∧ listed.getD j true = false) → listed.size = ops.size →
      ra.Pairwise (fun i j => pairOkX x y ops (ops.toList.map (opKind G)) bs i j = true ∧ i ≠ j) → rb.Pairwise (fun i j => (pairOkX y x ops (ops.toList.map (opKind G)) bs i j || pairOkX x z ops (ops.toList.map (opKind G)) bs i j) = true ∧ i ≠ j) → rc.Pairwise (fun i j => (pairOkX y x ops (ops.toList.map (opKind G)) bs i j || pairOkX z x ops (ops.toList.map (opKind G)) bs i j) = true ∧ i ≠ j) →
      (∀ j p, listed.getD j false = true → (bs.getD j 0).testBit p = true → listed.getD p false = true) →
      ra.length ≤ fuel → rb.length ≤ fuel → rc.length ≤ fuel → x ∈ ra → y ∈ ra → z ∈ ra → SR G.U G.ntmps w0 σ a w → (steps G con n ops ra σ).bind K = some r → (steps G con n ops rb σ).bind K = some r → (steps G con n ops rc σ).bind K = some r → wpAny P .any ops Q fuel listed a w := by
  intro fuel
  induction fuel with
  | zero =>
    intro listed ra rb rc σ a w _ _ _ _ _ _ _ _ hlen _ _ hx _ _ _ _ _ _
    rw [List.length_eq_zero_iff.1 (Nat.le_zero.1 hlen)] at hx
    cases hx
  | succ fuel ih =>
    intro listed ra rb rc σ a w hma hmb hmc hsize hpa hpb hpc hcl hla hlb hlc hx hyr hzr hσ hA hB hC
    have hlisted : ∀ j, j < ops.size → j ∉ ra → listed.getD j false = true := fun j hj hn => by
      cases hb : listed.getD j true with
      | false => exact absurd ((hma j).2 ⟨hj, hb⟩) hn
      | true =>
        have hlt : j < listed.size := hsize ▸ hj
        simpa [hlt] using hb
    have hunl : ∀ j, j ∈ ra → listed.getD j false = false := fun j hj => by
      obtain ⟨hlt, hb⟩ := (hma j).1 hj
      have hlt : j < listed.size := hsize ▸ hlt
      simpa [hlt] using hb
    have hab : ∀ j, j ∈ rb → j ∈ ra := fun j hj => (hma j).2 ((hmb j).1 hj)
    constructor
    · intro hr
      cases ra with
      | nil => cases hx
      | cons q zs =>
        exfalso
        obtain ⟨hz, hz0⟩ := (hma q).1 (by simp)
        have ho : ops[q]? = some ops[q] := by simp [hz]
        have hready : q ∈ Region.ready .any ops listed := by
          refine mem_ready.2 ⟨hz0, _, ho, fun e he hb => ?_⟩
          obtain ⟨h1, h2⟩ := bsOk_at hbs ho
          have hlt := h2 e he hb
          refine hlisted _ (by omega) fun hm => ?_
          rcases List.mem_cons.1 hm with hex | hm
          · omega
          · have := (List.rel_of_pairwise_cons hpa hm).1
            have hbit : (bs.getD q 0).testBit e.on = true := by rw [h1]; exact edges_testBit (by simpa using he) hb
            unfold pairOkX pairOk at this
            simp only [Bool.or_eq_true, Bool.and_eq_true, Bool.not_eq_true'] at this
            rcases this with this | this
            · rw [hbit] at this
              cases this.1
            · have hzx := Nat.eq_of_beq_eq_true this.1.1
              rw [← hzx, hbit] at this
              cases this.2
        rw [hr] at hready
        simp at hready
    · intro i hi
      obtain ⟨hi0, o, ho, hall⟩ := mem_ready.1 hi
      have hilt : i < ops.size := (Array.getElem?_eq_some_iff.1 ho).1
      obtain ⟨hbi, _⟩ := bsOk_at hbs ho
      have hbits : ∀ p, (bs.getD i 0).testBit p = true → listed.getD p false = true := fun p hp => by
        rw [hbi] at hp
        obtain ⟨e, he, hb, hp⟩ := testBit_edges hp
        have hl := hall e (by simpa using he) hb
        rcases hp with rfl | hp
        · exact hl
        · exact hcl _ _ hl hp
      obtain ⟨pa, qa, hra⟩ := List.append_of_mem ((hma i).2 ⟨hilt, hi0⟩)
      obtain ⟨pb, qb, hrb⟩ := List.append_of_mem ((hmb i).2 ⟨hilt, hi0⟩)
      obtain ⟨pc, qc, hrc⟩ := List.append_of_mem ((hmc i).2 ⟨hilt, hi0⟩)
      subst hra
      subst hrb
      subst hrc
      have hna : (pa ++ i :: qa).Nodup := hpa.imp fun h => h.2
      have hnb : (pb ++ i :: qb).Nodup := hpb.imp fun h => h.2
      have hnc : (pc ++ i :: qc).Nodup := hpc.imp fun h => h.2
      have fx : ∀ u v p, listed.getD p false = false → listed.getD v false = false → i ≠ v → pairOkX u v ops (ops.toList.map (opKind G)) bs p i = true → Free G ops p i := fun u v p hp hv hiv h1 => by
        unfold pairOkX at h1
        rw [Bool.or_eq_true] at h1
        rcases h1 with h1 | h1
        · exact pairOk_free h1 hbits hp
        · simp only [Bool.and_eq_true, Bool.or_eq_true] at h1
          rcases h1.1.2 with h | h
          · exact absurd (Nat.eq_of_beq_eq_true h) hiv
          · have h2 := hbits _ h
            rw [hv] at h2
            cases h2
      have hac : ∀ j, j ∈ pc ++ i :: qc → j ∈ pa ++ i :: qa := fun j hj => (hma j).2 ((hmc j).1 hj)
      have hiz : i ≠ z := fun hiz => by
        subst hiz
        have h2 := hbits _ hzy
        rw [hunl _ hyr] at h2
        cases h2
      have fa : i ≠ y → ∀ p ∈ pa, Free G ops p i := fun hiy p hp => fx _ _ p (hunl p (by simp [hp])) (hunl _ hyr) hiy ((List.pairwise_append.1 hpa).2.2 p hp i (by simp)).1
      have fb : i ≠ x → ∀ p ∈ pb, Free G ops p i := fun hix p hp => by
        have h1 := ((List.pairwise_append.1 hpb).2.2 p hp i (by simp)).1
        rw [Bool.or_eq_true] at h1
        exact h1.elim (fx _ _ p (hunl p (hab p (by simp [hp]))) (hunl _ hx) hix) (fx _ _ p (hunl p (hab p (by simp [hp]))) (hunl _ hzr) hiz)
      have fc : i ≠ x → ∀ p ∈ pc, Free G ops p i := fun hix p hp => by
        have h1 := ((List.pairwise_append.1 hpc).2.2 p hp i (by simp)).1
        rw [Bool.or_eq_true] at h1
        exact h1.elim (fx _ _ p (hunl p (hac p (by simp [hp]))) (hunl _ hx) hix) (fx _ _ p (hunl p (hac p (by simp [hp]))) (hunl _ hx) hix)
      have sa : (pa ++ qa).Sublist (pa ++ i :: qa) := List.Sublist.append_left (List.sublist_cons_self _ _) _
      have sb : (pb ++ qb).Sublist (pb ++ i :: qb) := List.Sublist.append_left (List.sublist_cons_self _ _) _
      have sc : (pc ++ qc).Sublist (pc ++ i :: qc) := List.Sublist.append_left (List.sublist_cons_self _ _) _
      have ma := mem_next hsize hilt hna hma
      have mb := mem_next hsize hilt hnb hmb
      have mc := mem_next hsize hilt hnc hmc
      have la : (pa ++ qa).length ≤ fuel := by simp at hla ⊢; omega
      have lb : (pb ++ qb).length ≤ fuel := by simp at hlb ⊢; omega
      have lc : (pc ++ qc).length ≤ fuel := by simp at hlc ⊢; omega
      have hia : i ∉ pa ++ qa := fun hm => by
        have := (ma i).1 hm
        have hlt : i < listed.size := hsize ▸ hilt
        simp [hlt] at this
      have hib : i ∉ pb ++ qb := fun hm => hia ((ma i).2 ((mb i).1 hm))
      have hic : i ∉ pc ++ qc := fun hm => hia ((ma i).2 ((mc i).1 hm))
      have keep : ∀ {q}, q ∈ pa ++ i :: qa → i ≠ q → q ∈ pa ++ qa := fun {q} hq hiq => by
        simp only [List.mem_append, List.mem_cons] at hq ⊢
        rcases hq with h | h | h
        · exact .inl h
        · exact absurd h.symm hiq
        · exact .inr h
      have toB : ∀ {q}, q ∈ pa ++ qa → q ∈ pb ++ qb := fun {q} hq => (mb q).2 ((ma q).1 hq)
      have go : ∀ {σ1 : St G.U.El}, step G con n ops.toList o σ = some σ1 → (∀ a' w', SR G.U G.ntmps w0 σ1 a' w' → wpAny P .any ops Q fuel (listed.setIfInBounds i true) a' w') → wpOp P ops Q i (wpAny P .any ops Q fuel (listed.setIfInBounds i true)) a w := by
        intro σ1 hs hn
        unfold wpOp
        rw [ho]
        have hrun : aOper G con n ops.toList o σ (fun σ' => some σ') = some σ1 := by
          rw [aOper_nat, hs]
          rfl
        refine aOper_ok hF hcon hσ hpin hrun fun σ' a' w' h8 h9 => ?_
        cases h8
        exact hn a' w' h9
      by_cases hix : i = x
      · have hiy : i ≠ y := fun h => hxy (hix.symm.trans h)
        obtain ⟨σ1, h1, h2⟩ := front ho (fa hiy) hA
        exact go h1 fun a' w' hs => any_ok hF hcon hbs hpin hk fuel _ (pa ++ qa) σ1 a' w' ma (by simpa using hsize) (pw_drop (hpa.sublist sa) (hix ▸ hia)) (cl_next hbits hcl) la hs h2
      · obtain ⟨σ1, h1, h2⟩ := front ho (fb hix) hB
        obtain ⟨σ2, h3, h4⟩ := front ho (fc hix) hC
        have : σ2 = σ1 := Option.some.inj (h3.symm.trans h1)
        subst this
        by_cases hiy : i = y
        · have dropY : ∀ {u v : Nat} {l : List Nat}, y ∉ l → l.Pairwise (fun i j => (pairOkX y x ops (ops.toList.map (opKind G)) bs i j || pairOkX u v ops (ops.toList.map (opKind G)) bs i j) = true ∧ i ≠ j) → l.Pairwise (fun i j => pairOkX u v ops (ops.toList.map (opKind G)) bs i j = true ∧ i ≠ j) := fun {u v l} hn h => by
            refine h.imp_of_mem fun {i j} hi hj ⟨h1, h2⟩ => ⟨?_, h2⟩
            rw [Bool.or_eq_true] at h1
            rcases h1 with h1 | h1
            · unfold pairOkX at h1 ⊢
              rw [Bool.or_eq_true] at h1 ⊢
              refine .inl (h1.resolve_right fun h => ?_)
              simp only [Bool.and_eq_true] at h
              exact hn (Nat.eq_of_beq_eq_true h.1.1 ▸ hi)
            · exact h1
          exact go h1 fun a' w' hs => any2_ok hF hcon hbs hpin hk x z hxz fuel _ (pb ++ qb) (pc ++ qc) σ2 a' w' mb mc (by simpa using hsize) (dropY (hiy ▸ hib) (hpb.sublist sb)) (dropY (hiy ▸ hic) (hpc.sublist sc)) (cl_next hbits hcl) lb lc (toB (keep hx hix)) (toB (keep hzr hiz)) hs h2 h4
        · obtain ⟨σ3, h5, h6⟩ := front ho (fa hiy) hA
          have : σ3 = σ2 := Option.some.inj (h5.symm.trans h1)
          subst this
          exact go h1 fun a' w' hs => ih _ (pa ++ qa) (pb ++ qb) (pc ++ qc) σ3 a' w' ma mb mc (by simpa using hsize) (hpa.sublist sa) (hpb.sublist sb) (hpc.sublist sc) (cl_next hbits hcl) la lb lc (keep hx hix) (keep hyr hiy) (keep hzr hiz) hs h6 h2 h4

/-- A region that draws, by three orders of its operations. -/
theorem region3_ok (hF : Fits P G.U G.ti) {con : Nat → Option (Con G.U.El)} (hcon : ∀ f c, con f = some c → ConOk P G.U f c) {n id : Nat} {ops : Array Oper} {K : St G.U.El → Option ρ} {Q : Exit → Act → World → Prop} (x y z : Nat) (A B C : List Nat)
    (hc : check3 G ops x y z A B C = true) {σ : St G.U.El} {a : Act} {w : World} (hσ : SR G.U G.ntmps w0 σ a w) (hpin : w0.pins = G.pins) (hA : aOps G con n ops.toList A σ K = some r) (hB : aOps G con n ops.toList B σ K = some r) (hC : aOps G con n ops.toList C σ K = some r)
    (hk : ∀ σ' a' w', K σ' = some r → SR G.U G.ntmps w0 σ' a' w' → Q .normal a' w') : (Code.region id ops true).wp P Q a w := by
  unfold check3 at hc
  simp only [Bool.and_eq_true, Bool.not_eq_true'] at hc
  obtain ⟨⟨⟨⟨⟨⟨⟨h3, h4⟩, h5⟩, ⟨⟨⟨⟨⟨h1, h2⟩, h0⟩, g1⟩, g2⟩, g3⟩⟩, h7⟩, ⟨⟨h8, h8'⟩, h8''⟩⟩, ⟨⟨h9, h9'⟩, h9''⟩⟩, h10⟩ := hc
  have h1 := Nat.eq_of_beq_eq_true h1
  have h2 := Nat.eq_of_beq_eq_true h2
  have h0 := Nat.eq_of_beq_eq_true h0
  rw [aOps_steps] at hA hB hC
  have pa := pairsOkX_pw h3
  have pb := pairsBy_pw h4
  have pc := pairsBy_pw h5
  have lt := fun {l : List Nat} (h : l.all (Nat.blt · ops.size) = true) (j : Nat) hj => (Nat.le_of_ble_eq_true (List.all_eq_true.1 h j hj) : j < ops.size)
  have mem : ∀ {l : List Nat}, (∀ j ∈ l, j < ops.size) → l.Nodup → l.length = ops.size → ∀ j, j ∈ l ↔ j < ops.size ∧ (Array.replicate ops.size false).getD j true = false := by
    intro l hl hn hlen j
    constructor
    · intro hj
      have hj' : j < ops.size := hl j hj
      refine ⟨hj', ?_⟩
      simp only [Array.getD_eq_getD_getElem?, Array.getElem?_replicate, if_pos hj', Option.getD_some]
    · intro hj
      exact all_in hn hl hlen hj.1
  refine wp_region_any hF.mixed (any3_ok hF hcon h7 hpin hk x y z (Nat.ne_of_beq_eq_false h9) (Nat.ne_of_beq_eq_false h9') (Nat.ne_of_beq_eq_false h9'') h10 ops.size _ A B C σ a _ (mem (lt g1) (pa.imp fun h => h.2) h1) (mem (lt g2) (pb.imp fun h => h.2) h2) (mem (lt g3) (pc.imp fun h => h.2) h0) (by simp) pa pb pc (fun j p hj => ?_) (Nat.le_of_eq h1) (Nat.le_of_eq h2) (Nat.le_of_eq h0) (by simpa using h8) (by simpa using h8') (by simpa using h8'') (hσ.drawn _) hA hB hC)
  exfalso
  by_cases hjs : j < ops.size <;> simp [hjs] at hj
end
end Go.Proofs.Ytnjmkkgmlkhjeaa.AM
namespace Go.Proofs.Ytnjmkkgmlkhjeaa.AM
open Go.RowKit
variable {ρ : Type}
section
variable {P : Program} {G : Cfg} {w0 : Frm} {r : ρ}
theorem SR.setB {U : Univ} {N : Nat} {σ : St U.El} {a : Act} {w : World} {c : Operand} {b : Bool} (h : SR U N w0 σ a w) (hc : a.eval c = .bool b) : SR U N w0 ⟨AM.setB σ.env c b, σ.mem⟩ a w := by
  obtain ⟨ι, hE, hN, hD, hM, hFr, hPn⟩ := h
  refine ⟨ι, fun t => ?_, hN, hD, hM, hFr, hPn⟩
  cases c with
  | tmp t' =>
    show VR U _ ι σ.mem w (cond (Nat.beq t t') (.w (bool b)) (σ.env t)) _
    cases hb : Nat.beq t t' with
    | true =>
      have := Nat.eq_of_beq_eq_true hb
      subst this
      exact ⟨hc, rfl⟩
    | false => exact hE t
  | _ => exact hE t

theorem aev_ok (hF : Fits P G.U G.ti) {con : Nat → Nat → Option (Con G.U.El)} (hcon : ∀ n f c, con n f = some c → ConOk P G.U f c) {L : Nat → Option (LoopC G.U.El ρ)} (hpin : w0.pins = G.pins) (c : Code) :
    ∀ (k n : Nat) (σ : St G.U.El) (K : Kt G.U ρ) (Q : Exit → Act → World → Prop) (a : Act) (w : World), loopsOk G con L c k K → aev G con L c k n σ K = some r → SR G.U G.ntmps w0 σ a w → KOk G w0 n K r Q → c.wp P Q a w := by
  induction c with
  | skip => exact fun k n σ K Q a w _ h hσ hK => wp_skip (hK n (Nat.le_refl _) .normal σ a w h hσ)
  | region id ops draw =>
    intro k n σ K Q a w hl h hσ hK
    have run : ∀ {σ : St G.U.El}, aRegion G con ops draw n σ K = some r → SR G.U G.ntmps w0 σ a w → (Code.region id ops draw).wp P Q a w := fun {σ} h hσ => by
      unfold aRegion at h
      split at h
      · rename_i is ho
        exact aRegion_ok hF (hcon n) ho hσ hpin h fun σ' a' w' h1 h2 => hK n (Nat.le_refl _) .normal σ' a' w' h1 h2
      · cases h
    have hl' : ∀ c, L (2 * id + 1) = some c → ∀ n x r, c.l n x = some r → aRegA G con ops draw n (c.shape.enc x) K = some r ∧ aRegB G con ops draw n (c.shape.enc x) K = some r ∧ aRegC G con ops draw n (c.shape.enc x) K = some r := hl
    have h' : (match L (2 * id + 1) with | some _ => headOf G L (2 * id + 1) n σ | none => aRegion G con ops draw n σ K) = some r := h
    split at h'
    · rename_i c hc
      unfold headOf at h'
      rw [hc] at h'
      obtain ⟨x, h3, h4⟩ := Option.bind_eq_some_iff.1 h'
      obtain ⟨hA, hB, hC⟩ := hl' c hc n x r h4
      have hs := dec_SR hσ h3
      unfold aRegA at hA
      unfold aRegB at hB
      unfold aRegC at hC
      cases ho : regionOrder G ops draw with
      | some is =>
        rw [ho] at hA
        exact run (by unfold aRegion; rw [ho]; exact hA) hs
      | none =>
        rw [ho] at hA hB hC
        cases draw with
        | false => cases hA
        | true =>
          cases hq' : orders G ops with
          | none => rw [hq'] at hA; cases hA
          | some q =>
          rw [hq'] at hA hB hC
          replace hA : aOps G (con n) n ops.toList q.1 (c.shape.enc x) (fun σ => K n .normal σ) = some r := hA
          replace hB : aOps G (con n) n ops.toList q.2.1 (c.shape.enc x) (fun σ => K n .normal σ) = some r := hB
          replace hC : aOps G (con n) n ops.toList q.2.2 (c.shape.enc x) (fun σ => K n .normal σ) = some r := hC
          unfold orders at hq'
          cases hq : order2 G ops with
          | none =>
            rw [hq] at hq'
            cases hq3 : order3 G ops with
            | none => rw [hq3] at hq'; cases hq'
            | some p =>
              rw [hq3] at hq'
              cases hq'
              have hc3 : check3 G ops p.1.1 p.1.2.1 p.1.2.2 p.2.1 p.2.2.1 p.2.2.2 = true := by
                unfold order3 at hq3
                exact List.find?_some (p := fun p : (Nat × Nat × Nat) × (List Nat × List Nat × List Nat) => check3 G ops p.1.1 p.1.2.1 p.1.2.2 p.2.1 p.2.2.1 p.2.2.2) hq3
              exact region3_ok hF (hcon n) p.1.1 p.1.2.1 p.1.2.2 p.2.1 p.2.2.1 p.2.2.2 hc3 hs hpin hA hB hC fun σ' a' w' h1 h2 => hK n (Nat.le_refl _) .normal σ' a' w' h1 h2
          | some p =>
            rw [hq] at hq'
            cases hq'
            have hc2 : check2 G ops p.1.1 p.1.2 p.2.1 p.2.2 = true := by
              unfold order2 at hq
              exact List.find?_some (p := fun p : (Nat × Nat) × (List Nat × List Nat) => check2 G ops p.1.1 p.1.2 p.2.1 p.2.2) hq
            exact region2_ok hF (hcon n) p.1.1 p.1.2 p.2.1 p.2.2 hc2 hs hpin hA hB fun σ' a' w' h1 h2 => hK n (Nat.le_refl _) .normal σ' a' w' h1 h2
    · exact run h' hσ
  | seq x y ihx ihy =>
    intro k n σ K Q a w hl h hσ hK
    refine wp_seq (ihx k n σ _ _ a w hl.1 h hσ ?_)
    intro n' hn e σ' a' w' h1 h2
    cases e with
    | normal => exact ihy k n' σ' K Q a' w' hl.2 h1 h2 (hK.mono hn)
    | ret => exact hK n' hn .ret σ' a' w' h1 h2
    | exit i => exact hK n' hn (.exit i) σ' a' w' h1 h2
  | cond c x y ihx ihy =>
    intro k n σ K Q a w hl h hσ hK
    simp only [aev] at h
    split at h
    · rename_i t ht
      have hσ' := hσ
      obtain ⟨ι, hE, _⟩ := hσ'
      have hv := opv_ok hE c
      rw [ht] at hv
      have hc := vr_sc hv
      rcases cond_some.1 h with ⟨rfl, h⟩ | ⟨rfl, h⟩
      · exact wp_cond_true hc (ihx k n _ K Q a w hl.1 h (hσ.setB hc) hK)
      · exact wp_cond_false hc (ihy k n _ K Q a w hl.2 h (hσ.setB hc) hK)
    · cases h
  | block id c ih =>
    intro k n σ K Q a w hl h hσ hK
    refine wp_block (ih id n σ _ _ a w hl h hσ ?_)
    intro n' hn e σ' a' w' h1 h2
    cases e with
    | normal => exact hK n' hn .normal σ' a' w' h1 h2
    | ret => exact hK n' hn .ret σ' a' w' h1 h2
    | exit i =>
      simp only [exOf, Exit.inBlock]
      rcases cond_some.1 h1 with ⟨hb, h1⟩ | ⟨hb, h1⟩
      · rw [if_pos (Nat.eq_of_beq_eq_true hb)]
        exact hK n' hn .normal σ' a' w' h1 h2
      · rw [if_neg (Nat.ne_of_beq_eq_false hb)]
        exact hK n' hn (.exit i) σ' a' w' h1 h2
  | loop body ih =>
    intro k n σ K Q a w hl h hσ hK
    obtain ⟨hl, hr⟩ := hl
    change (match L (2 * k) with | some _ => headOf G L (2 * k) n σ | none => rolled G (aev G con L body k) K rolls n σ) = some r at h
    cases hL : L (2 * k) with
    | none =>
      rw [hL] at h
      have hr := hr hL
      have hroll : ∀ (u : Nat), u ≤ rolls → ∀ (n' : Nat), n' ≤ n → ∀ (σ' : St G.U.El) (a' : Act) (w' : World), rolled G (aev G con L body k) K u n' σ' = some r → SR G.U G.ntmps w0 σ' a' w' → Code.rounds P body Q u a' w' := by
        intro u
        induction u with
        | zero => intro _ n' _ σ' a' w' h1; cases h1
        | succ u ihu =>
          intro hu n' hn' σ' a' w' h1 h2
          rw [rounds_succ]
          refine ih k n' σ' _ _ a' w' (hr u (by omega)) h1 h2 ?_
          intro n'' hn'' e σ'' a'' w'' h3 h4
          cases e with
          | normal => exact ihu (by omega) n'' (by omega) σ'' a'' w'' h3 h4
          | ret => exact hK n'' (by omega) .ret σ'' a'' w'' h3 h4
          | exit i => exact hK n'' (by omega) (.exit i) σ'' a'' w'' h3 h4
      exact wp_loop_rounds rolls (hroll rolls (Nat.le_refl _) n (Nat.le_refl _) σ a w h hσ)
    | some c0 =>
    rw [hL] at h
    replace h : headOf G L (2 * k) n σ = some r := h
    have hl2 := (hl c0 hL).2
    have hl1 := fun c hc => (hl c hc).1
    have head : ∀ {n' : Nat} {σ' : St G.U.El} {a' : Act} {w' : World}, headOf G L (2 * k) n' σ' = some r → SR G.U G.ntmps w0 σ' a' w' → ∃ c x, L (2 * k) = some c ∧ c.l n' x = some r ∧ SR G.U G.ntmps w0 (c.shape.enc x) a' w' := by
      intro n' σ' a' w' h1 h2
      unfold headOf at h1
      split at h1
      · rename_i c hc
        obtain ⟨x, h3, h4⟩ := Option.bind_eq_some_iff.1 h1
        exact ⟨c, x, hc, h4, dec_SR h2 h3⟩
      · cases h1
    refine wp_loop_ghost (fun j a w => j ≤ n ∧ ∃ c x, L (2 * k) = some c ∧ c.l j x = some r ∧ SR G.U G.ntmps w0 (c.shape.enc x) a w) n ⟨Nat.le_refl _, head h hσ⟩ ?_
    rintro j a' w' ⟨hj, c, x, hc, hx, hs⟩
    obtain ⟨h0, hstep⟩ := hl1 c hc
    cases j with
    | zero => rw [h0 x] at hx; cases hx
    | succ j =>
      refine ih k j _ _ _ a' w' hl2 (hstep j x r hx) hs ?_
      intro n' hn e σ' a'' w'' h1 h2
      cases e with
      | normal => exact ⟨n', by omega, by omega, head h1 h2⟩
      | ret => exact hK n' (by omega) .ret σ' a'' w'' h1 h2
      | exit i => exact hK n' (by omega) (.exit i) σ' a'' w'' h1 h2
  | exit id => exact fun k n σ K Q a w _ h hσ hK => wp_exit (hK n (Nat.le_refl _) (.exit id) σ a w h hσ)
  | ret => exact fun k n σ K Q a w _ h hσ hK => wp_ret (hK n (Nat.le_refl _) .ret σ a w h hσ)
  | rangeFunc => intro k n σ K Q a w _ h; cases h
  | scope => intro k n σ K Q a w _ h; cases h
  | label => intro k n σ K Q a w _ h; cases h
  | goto => intro k n σ K Q a w _ h; cases h
  | refuse => intro k n σ K Q a w _ h; cases h
end
end Go.Proofs.Ytnjmkkgmlkhjeaa.AM
namespace Go.Proofs.Ytnjmkkgmlkhjeaa.AM
open Go.RowKit
variable {ρ : Type}

section
variable {P : Program} {G : Cfg} {B : Nat → Prop} {S : Nat → Prop} {ι ιT : Nat → Value} {m mT : List (Blk G.U.El)} {w : World} {src : List (Option Nat)} {us : List Nat}

theorem rowOf_sc {El : Nat → Type} {m : List (Blk El)} {t : Nat} {v : Value} {l : List (El t)} (h : rowOf m t (.sc v) = some l) : l = [] ∧ v = .slice none 0 0 := by
  simp only [rowOf] at h
  split at h <;> simp_all

/-- A row that is handed out to own. -/
theorem out_own {El : Nat → Type} {m : List (Blk El)} {t : Nat} {c : C El} {l : List (El t)} (h : (if c.own then rowOf m t c else none) = some l) : (∃ id, c = .sl id ∧ m[id]? = some (.da t l)) ∨ (c = .sc (.slice none 0 0) ∧ l = []) := by
  split at h
  case isFalse => cases h
  rename_i ho
  cases c with
  | sl id =>
    simp only [rowOf] at h
    split at h
    · rename_i t' l' hm
      split at h
      · rename_i e
        subst e
        cases h
        exact .inl ⟨id, rfl, hm⟩
      · cases h
    · cases h
  | sc v =>
    obtain ⟨h1, rfl⟩ := rowOf_sc h
    exact .inr ⟨rfl, h1⟩
  | _ => cases ho

theorem out1_ok (hF : Fits P G.U G.ti) (hm : MR G.U B S ι m w) (hSB : ∀ k, S k → B k) (O : Over G.U B B true ι m src us ιT mT) {s : S1} {c : C G.U.El} {x : s.T G.U.El} {vs : List Value} {mk : List (Blk G.U.El)} (h : s.out m c = some x) (hc : CW G.U B ι m w c vs)
    (hpre : ∃ p q, src = p ++ (s.srcs c ++ q) ∧ p.length = mk.length) (hus : ∀ i, i ∈ s.uses c → i ∈ us) : CW G.U B ιT mT w (enc1 true true s x mk).1 vs := by
  have view : ∀ (t : Nat) (l : List (G.U.El t)), (if c.loc then rowOf m t c else none) = some l → (∀ i, i ∈ c.use → i ∈ us) → CW G.U B ιT mT w (.row t l false true) vs := by
    intro t l h hus
    split at h
    case isFalse => cases h
    rename_i hloc
    exact O.view hF hm true h hc (fun _ => hloc) (fun _ id b k hb hl hk => hSB k (hm.inS id b k hb hl hk)) hus
  have given : ∀ (t : Nat) (l : List (G.U.El t)), (if c.own then rowOf m t c else none) = some l → (∃ p q, src = p ++ ([c.src] ++ q) ∧ p.length = mk.length) → CW G.U B ιT mT w (.sl mk.length) vs := by
    rintro t l h ⟨p, q, e, hp⟩
    have hat : src[mk.length]? = some c.src := by
      rw [e, ← hp, List.getElem?_append_right (Nat.le_refl _)]
      simp
    rcases out_own h with ⟨id, rfl, _⟩ | ⟨rfl, _⟩
    · exact O.given hc (.inl ⟨id, rfl⟩) hat
    · exact O.given hc (.inr rfl) hat
  cases s with
  | int k => exact O.sc hc (dec_int h)
  | bool => exact O.sc hc (dec_bool h)
  | str => exact O.sc hc (dec_str h)
  | arr t n => have := dec_arr h; subst this; exact hc
  | row t => exact view t x h hus
  | rol t => exact view t x h hus
  | sl t => exact given t x h hpre
  | ip t => exact given t x h hpre
  | gv t => simp [S1.out] at h

theorem out1_len {s : S1} {c : C G.U.El} : (s.srcs c).length = s.np := by cases s <;> simp [S1.srcs, S1.np]
theorem outs1_len {m : List (Blk G.U.El)} : ∀ {ss : List S1} {cs : List (C G.U.El)} {x : Ts G.U.El ss}, outs1 m ss cs = some x → (srcs1 ss cs).length = np1 ss
  | [], [], _, _ => rfl
  | [], _ :: _, _, h => by simp [outs1] at h
  | _ :: _, [], _, h => by simp [outs1] at h
  | s :: ss, c :: cs, x, h => by
    simp only [outs1] at h
    obtain ⟨y, h3, h⟩ := Option.bind_eq_some_iff.1 h
    obtain ⟨z, h4, h⟩ := Option.bind_eq_some_iff.1 h
    simp only [srcs1, np1, List.length_append]
    rw [outs1_len h4, out1_len]
/-- A pointer to a new struct. -/
theorem out_np {El : Nat → Type} {m : List (Blk El)} {t : Nat} {ss : List S1} {y : W El} {x : Ts El ss} (h : npOut m t ss y = some x) : ∃ id cs, y = .c (.ptr id 0) ∧ m[id]? = some (.st t cs) ∧ outs1 m ss cs = some x := by
  cases y with
  | agg => cases h
  | c c => cases c with
    | ptr id off =>
      unfold npOut at h
      dsimp only at h
      split at h
      case isFalse => cases h
      rename_i h0
      subst h0
      split at h
      · rename_i t' cs hb
        split at h
        · rename_i e
          subst e
          exact ⟨id, cs, rfl, hb, h⟩
        · cases h
      · cases h
    | _ => cases h
theorem ASout_len {m : List (Blk G.U.El)} {s : AS} {y : W G.U.El} {x : s.T G.U.El} (h : s.out m y = some x) : (s.srcs m y).length = s.np' := by
  cases s with
  | c s => cases y with
    | agg => cases h
    | c c => exact out1_len
  | agg ss => cases y with
    | c => cases h
    | agg xs => exact outs1_len h
  | io t ss => cases y with
    | c => cases h
    | agg xs => exact outs1_len h
  | bk t => cases y with
    | agg => cases h
    | c c => rfl
  | np t ss =>
    obtain ⟨id, cs, rfl, hb, h1⟩ := out_np (El := G.U.El) (m := m) (t := t) (ss := ss) (y := y) (x := x) h
    simp only [AS.srcs, hb, AS.np', List.length_append, List.length_singleton]
    rw [outs1_len h1]
  | ptr t => cases y <;> cases h
  | skip => cases y <;> cases h
  | fnp f caps => cases y <;> cases h
theorem Oout_len {m : List (Blk G.U.El)} : ∀ {ss : List AS} {ws : List (W G.U.El)} {x : Os G.U.El ss}, Oout m ss ws = some x → ss.length = ws.length ∧ (srcsOf m ss ws).length = nps ss
  | [], [], _, _ => ⟨rfl, rfl⟩
  | [s], [y], x, h => ⟨rfl, by simp only [srcsOf, nps, List.append_nil, Nat.add_zero]; exact ASout_len h⟩
  | s :: s' :: ss, y :: ys, x, h => by
    change ((s.out m y).bind fun x => (Oout m (s' :: ss) ys).bind fun y => some (x, y)) = some x at h
    obtain ⟨a, h3, h⟩ := Option.bind_eq_some_iff.1 h
    obtain ⟨b, h4, h⟩ := Option.bind_eq_some_iff.1 h
    obtain ⟨h5, h6⟩ := Oout_len h4
    refine ⟨by rw [List.length_cons, h5, List.length_cons], ?_⟩
    show (s.srcs m y ++ srcsOf m (s' :: ss) ys).length = s.np' + nps (s' :: ss)
    rw [List.length_append, ASout_len h3, h6]
  | [], _ :: _, _, h => by cases h
  | [_], [], _, h => by cases h
  | [_], _ :: _ :: _, _, h => by cases h
  | _ :: _ :: _, [], _, h => by cases h

/-- What is handed out is alive. -/
theorem out1_live {s : S1} {c : C G.U.El} {x : s.T G.U.El} (h : s.out m c = some x) {a : Nat} (ha : some a ∈ s.srcs c) : ∃ b, m[a]? = some b ∧ b.live := by
  have one : ∀ t (l : List (G.U.El t)), (if c.own then rowOf m t c else none) = some l → some a ∈ [c.src] → ∃ b, m[a]? = some b ∧ b.live := by
    intro t l h ha
    rcases out_own h with ⟨id, rfl, hb⟩ | ⟨rfl, _⟩
    · simp [C.src] at ha
      subst ha
      exact ⟨_, hb, trivial⟩
    · simp [C.src] at ha
  cases s with
  | sl t => exact one t x h ha
  | ip t => exact one t x h ha
  | _ => simp [S1.srcs] at ha
theorem outs1_live : ∀ {ss : List S1} {cs : List (C G.U.El)} {x : Ts G.U.El ss}, outs1 m ss cs = some x → ∀ {a : Nat}, some a ∈ srcs1 ss cs → ∃ b, m[a]? = some b ∧ b.live
  | [], [], _, _, a, ha => by simp [srcs1] at ha
  | [], _ :: _, _, h, _, _ => by simp [outs1] at h
  | _ :: _, [], _, h, _, _ => by simp [outs1] at h
  | s :: ss, c :: cs, x, h, a, ha => by
    simp only [outs1] at h
    obtain ⟨y, h3, h⟩ := Option.bind_eq_some_iff.1 h
    obtain ⟨z, h4, h⟩ := Option.bind_eq_some_iff.1 h
    rcases List.mem_append.1 ha with ha | ha
    · exact out1_live h3 ha
    · exact outs1_live h4 ha
theorem ASout_live {s : AS} {y : W G.U.El} {x : s.T G.U.El} (h : s.out m y = some x) {a : Nat} (ha : some a ∈ s.srcs m y) : ∃ b, m[a]? = some b ∧ b.live := by
  cases s with
  | c s => cases y with
    | agg => cases h
    | c c => exact out1_live (s := s) h ha
  | agg ss => cases y with
    | c => cases h
    | agg xs => exact outs1_live h ha
  | io t ss => cases y with
    | c => cases h
    | agg xs => exact outs1_live h ha
  | bk t => cases y with
    | agg => cases h
    | c c => simp [AS.srcs] at ha
  | np t ss =>
    obtain ⟨id, cs, rfl, hb, h1⟩ := out_np (El := G.U.El) (m := m) (t := t) (ss := ss) (y := y) (x := x) h
    simp only [AS.srcs, hb] at ha
    rcases List.mem_append.1 ha with ha | ha
    · exact outs1_live h1 ha
    · simp at ha
      subst ha
      exact ⟨_, hb, trivial⟩
  | ptr t => cases y <;> cases h
  | skip => cases y <;> cases h
  | fnp f caps => cases y <;> cases h
theorem Oout_live : ∀ {ss : List AS} {ws : List (W G.U.El)} {x : Os G.U.El ss}, Oout m ss ws = some x → ∀ {a : Nat}, some a ∈ srcsOf m ss ws → ∃ b, m[a]? = some b ∧ b.live
  | [], [], _, _, a, ha => by simp [srcsOf] at ha
  | [s], [y], x, h, a, ha => by
    simp only [srcsOf, List.append_nil] at ha
    exact ASout_live (s := s) h ha
  | s :: s' :: ss, y :: ys, x, h, a, ha => by
    change ((s.out m y).bind fun x => (Oout m (s' :: ss) ys).bind fun y => some (x, y)) = some x at h
    obtain ⟨q, h3, h⟩ := Option.bind_eq_some_iff.1 h
    obtain ⟨b, h4, h⟩ := Option.bind_eq_some_iff.1 h
    have ha' : some a ∈ s.srcs m y ++ srcsOf m (s' :: ss) ys := ha
    rcases List.mem_append.1 ha' with ha | ha
    · exact ASout_live h3 ha
    · exact Oout_live h4 ha
  | [], _ :: _, _, h, _, _ => by cases h
  | [_], [], _, h, _, _ => by cases h
  | [_], _ :: _ :: _, _, h, _, _ => by cases h
  | _ :: _ :: _, [], _, h, _, _ => by cases h

theorem outs1_ok (hF : Fits P G.U G.ti) (hm : MR G.U B S ι m w) (hSB : ∀ k, S k → B k) (O : Over G.U B B true ι m src us ιT mT) : ∀ {ss : List S1} {cs : List (C G.U.El)} {x : Ts G.U.El ss} {vs : List Value} {mk : List (Blk G.U.El)}, outs1 m ss cs = some x → CsR G.U B ι m w cs vs →
    (∃ p q, src = p ++ (srcs1 ss cs ++ q) ∧ p.length = mk.length) → (∀ i, i ∈ uses1 ss cs → i ∈ us) → CsR G.U B ιT mT w (enc2 true true ss x mk).1 vs
  | [], [], _, _, _, _, hc, _, _ => hc
  | [], _ :: _, _, _, _, h, _, _, _ => by simp [outs1] at h
  | _ :: _, [], _, _, _, h, _, _, _ => by simp [outs1] at h
  | s :: ss, c :: cs, x, vs, mk, h, ⟨a, r, e, h1, h2⟩, ⟨p, q, hp, hpl⟩, hus => by
    simp only [outs1] at h
    obtain ⟨y, h3, h⟩ := Option.bind_eq_some_iff.1 h
    obtain ⟨z, h4, h⟩ := Option.bind_eq_some_iff.1 h
    cases h
    exact ⟨a, r, e, out1_ok hF hm hSB O (mk := mk) h3 h1 ⟨p, srcs1 ss cs ++ q, by rw [hp, srcs1, List.append_assoc], hpl⟩ (fun i hi => hus i (List.mem_append_left _ hi)),
      outs1_ok hF hm hSB O (mk := (enc1 true true s y mk).2) h4 h2 ⟨p ++ s.srcs c, q, by rw [hp, srcs1]; simp, by rw [enc1_len, List.length_append, hpl, out1_len]⟩ (fun i hi => hus i (List.mem_append_right _ hi))⟩

theorem out1_push (hm : MR G.U B S ι m w) (O : Over G.U B B true ι m src us ιT mT) {s : S1} {c : C G.U.El} {x : s.T G.U.El} {mk : List (Blk G.U.El)} (h : s.out m c = some x)
    (hpre : ∃ p q, src = p ++ (s.srcs c ++ q) ∧ p.length = mk.length) : Pushed G.U B ι m ιT mT w mk (enc1 true true s x mk).2 := by
  have one : ∀ (t : Nat) (l : List (G.U.El t)), (if c.own then rowOf m t c else none) = some l → (∃ p q, src = p ++ ([c.src] ++ q) ∧ p.length = mk.length) → Pushed G.U B ι m ιT mT w mk (mk ++ [.da t l]) := by
    rintro t l h ⟨p, q, e, hp⟩ i b hb
    have hat : src[mk.length]? = some c.src := by
      rw [e, ← hp, List.getElem?_append_right (Nat.le_refl _)]
      simp
    have hi : i = 0 ∧ b = .da t l := by
      have hlt := (List.getElem?_eq_some_iff.1 hb).1
      simp at hlt
      subst hlt
      exact ⟨rfl, by simpa using hb.symm⟩
    obtain ⟨rfl, rfl⟩ := hi
    rw [Nat.add_zero]
    rcases out_own h with ⟨id, rfl, hb⟩ | ⟨rfl, rfl⟩
    · have := hm.blk _ _ hb
      simp only [BR] at this ⊢
      rw [O.is _ id hat]
      exact this
    · simp only [BR]
      rw [O.no _ hat]
      simpa [flat] using World.ownsRow_nil w 0 t (G.U.sz t)
  cases s with
  | sl t => exact one t x h hpre
  | ip t => exact one t x h hpre
  | _ => exact Pushed.refl
theorem outs1_push (hm : MR G.U B S ι m w) (O : Over G.U B B true ι m src us ιT mT) : ∀ {ss : List S1} {cs : List (C G.U.El)} {x : Ts G.U.El ss} {mk : List (Blk G.U.El)}, outs1 m ss cs = some x →
    (∃ p q, src = p ++ (srcs1 ss cs ++ q) ∧ p.length = mk.length) → Pushed G.U B ι m ιT mT w mk (enc2 true true ss x mk).2
  | [], [], _, _, _, _ => Pushed.refl
  | [], _ :: _, _, _, h, _ => by simp [outs1] at h
  | _ :: _, [], _, _, h, _ => by simp [outs1] at h
  | s :: ss, c :: cs, x, mk, h, ⟨p, q, hp, hpl⟩ => by
    simp only [outs1] at h
    obtain ⟨y, h3, h⟩ := Option.bind_eq_some_iff.1 h
    obtain ⟨z, h4, h⟩ := Option.bind_eq_some_iff.1 h
    cases h
    exact (out1_push hm O h3 ⟨p, srcs1 ss cs ++ q, by rw [hp, srcs1, List.append_assoc], hpl⟩).trans (outs1_push hm O h4 ⟨p ++ s.srcs c, q, by rw [hp, srcs1]; simp, by rw [enc1_len, List.length_append, hpl, out1_len]⟩) (enc1_pre ..) (enc2_pre ..)

theorem ASout_ok (hF : Fits P G.U G.ti) (hm : MR G.U B S ι m w) (hSB : ∀ k, S k → B k) (O : Over G.U B B true ι m src us ιT mT) {s : AS} {y : W G.U.El} {x : s.T G.U.El} {mk : List (Blk G.U.El)} (h : s.out m y = some x)
    (hpre : ∃ p q, src = p ++ (s.srcs m y ++ q) ∧ p.length = mk.length) (hus : ∀ i, i ∈ s.uses m y → i ∈ us) : (isBk s = false → ∀ v, WR G.U B ι m w y v → WR G.U B ιT mT w (encO true true s x mk).1 v) ∧ Pushed G.U B ι m ιT mT w mk (encO true true s x mk).2 := by
  cases s with
  | c s =>
    cases y with
    | agg => cases h
    | c c =>
      refine ⟨fun _ v hv => ?_, out1_push hm O (s := s) h hpre⟩
      have hc : CR G.U B ι m w c v := hv
      have h1 := out1_ok hF hm hSB O (s := s) (mk := mk) h hc.cw hpre hus
      by_cases hs : ∃ t n, s = .arr t n
      · obtain ⟨t, n, rfl⟩ := hs
        have := dec_arr h
        subst this
        exact hc.elim
      · exact CW.cr (enc1_ne true true s x mk fun t n e => hs ⟨t, n, e⟩) h1
  | agg ss =>
    cases y with
    | c => cases h
    | agg xs =>
      refine ⟨fun _ v hv => ?_, outs1_push hm O h hpre⟩
      obtain ⟨vs, e, h1⟩ := hv
      exact ⟨vs, e, outs1_ok hF hm hSB O (mk := mk) h h1 hpre hus⟩
  | io t ss =>
    cases y with
    | c => cases h
    | agg xs =>
      refine ⟨fun _ v hv => ?_, outs1_push hm O h hpre⟩
      obtain ⟨vs, e, h1⟩ := hv
      exact ⟨vs, e, outs1_ok hF hm hSB O (mk := mk) h h1 hpre hus⟩
  | bk t => cases y with
    | agg => cases h
    | c c => exact ⟨fun h => (by cases h), Pushed.refl⟩
  | np t ss =>
    obtain ⟨id, cs, rfl, hb, h1⟩ := out_np (El := G.U.El) (m := m) (t := t) (ss := ss) (y := y) (x := x) h
    simp only [AS.srcs, AS.uses, hb] at hpre hus
    obtain ⟨p, q, hp, hpl⟩ := hpre
    have hp2 : src = p ++ (srcs1 ss cs ++ (some id :: q)) := by rw [hp]; simp
    have hlen : (enc2 true true ss x mk).2.length = mk.length + (srcs1 ss cs).length := (enc2_len true ss x mk).trans (congrArg (mk.length + ·) (outs1_len h1).symm)
    have hat : src[(enc2 true true ss x mk).2.length]? = some (some id) := by
      rw [hp2, hlen, ← hpl, ← List.append_assoc, List.getElem?_append_right (by simp), List.length_append]
      simp
    have hlt : (enc2 true true ss x mk).2.length < mT.length := by rw [O.len]; exact (List.getElem?_eq_some_iff.1 hat).1
    refine ⟨fun _ v hv => ?_, (outs1_push hm O h1 ⟨p, _, hp2, hpl⟩).trans (M2 := (encO true true (.np t ss) x mk).2) ?_ (enc2_pre ..) (List.prefix_append _ _)⟩
    · obtain ⟨_, β, e1, e2⟩ := hv
      exact ⟨hlt, β, (O.is _ _ hat).trans e1, e2⟩
    · intro i b hb'
      have hi : i = 0 ∧ b = .st t (enc2 true true ss x mk).1 := by
        have hlt := (List.getElem?_eq_some_iff.1 hb').1
        simp [encO] at hlt
        subst hlt
        exact ⟨rfl, by simpa [encO] using hb'.symm⟩
      obtain ⟨rfl, rfl⟩ := hi
      rw [Nat.add_zero]
      obtain ⟨β', vs, e1, e2, e3⟩ := hm.blk _ _ hb
      exact ⟨β', vs, (O.is _ _ hat).trans e1, e2, outs1_ok hF hm hSB O (mk := mk) h1 e3 ⟨p, _, hp2, hpl⟩ hus⟩
  | ptr t => cases y <;> cases h
  | skip => cases y <;> cases h
  | fnp f caps => cases y <;> cases h

theorem Oout_ok (hF : Fits P G.U G.ti) (hm : MR G.U B S ι m w) (hSB : ∀ k, S k → B k) (O : Over G.U B B true ι m src us ιT mT) : ∀ {ss : List AS} {ws : List (W G.U.El)} {x : Os G.U.El ss} {mk : List (Blk G.U.El)}, Oout m ss ws = some x →
    (∃ p q, src = p ++ (srcsOf m ss ws ++ q) ∧ p.length = mk.length) → (∀ i, i ∈ usesOf m ss ws → i ∈ us) →
    (∀ (j : Nat) (s : AS) (a b : W G.U.El), ss[j]? = some s → isBk s = false → ws[j]? = some a → (encOs true true ss x mk).1[j]? = some b → ∀ v, WR G.U B ι m w a v → WR G.U B ιT mT w b v) ∧ Pushed G.U B ι m ιT mT w mk (encOs true true ss x mk).2
  | [], [], _, _, _, _, _ => ⟨fun j s a b h => by simp at h, Pushed.refl⟩
  | [s], [y], x, mk, h, hp, hus => by
    have hs : srcsOf m [s] [y] = s.srcs m y := by simp [srcsOf]
    rw [hs] at hp
    obtain ⟨h5, h6⟩ := ASout_ok hF hm hSB O (s := s) (mk := mk) h hp (fun i hi => hus i (List.mem_append_left _ hi))
    refine ⟨fun j s' a b h1 h2 h3 h4 v hv => ?_, h6⟩
    cases j with
    | zero => simp [encOs] at h1 h3 h4; subst h1; subst h3; subst h4; exact h5 h2 v hv
    | succ j => simp at h1
  | s :: s' :: ss, y :: ys, x, mk, h, ⟨p, q, hp, hpl⟩, hus => by
    change ((s.out m y).bind fun x => (Oout m (s' :: ss) ys).bind fun y => some (x, y)) = some x at h
    obtain ⟨a, h3, h⟩ := Option.bind_eq_some_iff.1 h
    obtain ⟨b, h4, h⟩ := Option.bind_eq_some_iff.1 h
    cases h
    obtain ⟨h5, h6⟩ := ASout_ok hF hm hSB O (s := s) (mk := mk) h3 ⟨p, srcsOf m (s' :: ss) ys ++ q, by rw [hp, srcsOf, List.append_assoc], hpl⟩ (fun i hi => hus i (List.mem_append_left _ hi))
    obtain ⟨h7, h8⟩ := Oout_ok hF hm hSB O (mk := (encO true true s a mk).2) h4 ⟨p ++ s.srcs m y, q, by rw [hp, srcsOf]; simp, by rw [encO_len, List.length_append, hpl, ASout_len h3]⟩ (fun i hi => hus i (List.mem_append_right _ hi))
    refine ⟨fun j t c d h1 h2 h3 h4 v hv => ?_, h6.trans h8 (encO_pre ..) (encOs_pre ..)⟩
    cases j with
    | zero => simp [encOs] at h1 h3 h4; subst h1; subst h3; subst h4; exact h5 h2 v hv
    | succ j => exact h7 j t c d (by simpa using h1) h2 (by simpa using h3) (by simpa [encOs] using h4) v hv
  | [], _ :: _, _, _, h, _, _ => by cases h
  | [_], [], _, _, h, _, _ => by cases h
  | [_], _ :: _ :: _, _, _, h, _, _ => by cases h
  | _ :: _ :: _, [], _, _, h, _, _ => by cases h

theorem VsR.get {xs : List (V G.U.El)} {vs : List Value} (h : VsR G.U B ι m w xs vs) : xs.length = vs.length ∧ ∀ i, i < xs.length → VR G.U B ι m w (xs.getD i .und) (vs.getD i undef) := by
  induction xs generalizing vs with
  | nil => cases h; exact ⟨rfl, fun i hi => by simp at hi⟩
  | cons x xs ih =>
    obtain ⟨v, r, rfl, h1, h2⟩ := h
    obtain ⟨h3, h4⟩ := ih h2
    refine ⟨by simp [h3], fun i hi => ?_⟩
    cases i with
    | zero => exact h1
    | succ i => simpa using h4 i (by simpa using hi)


theorem start_SR (hl : ∀ (ins : List AS) (x : ASs G.U.El ins) (mk : List (Blk G.U.El)), (encIs ins x mk).1.length = ins.length) {ins : List AS} {x : ASs G.U.El ins} {vs : List Value} (w0 : Frm) (hw : w0.w0 = w) (hpa : w0.pa = fun i => vs.getD i undef) (h : VsR G.U w0.D ι (encIs ins x []).2 w (encIs ins x []).1 vs) (hM : MR G.U w0.D w0.S ι (encIs ins x []).2 w) (hlv : vs.length ≤ G.ntmps) :
    SR G.U G.ntmps w0 (startOf G ins x) { tmps := vs.toArray ++ Array.replicate (G.ntmps - vs.toArray.size) undef, defers := [] } w := by
  obtain ⟨h1, h2⟩ := VsR.get h
  have key : ∀ t, (vs.toArray ++ Array.replicate (G.ntmps - vs.toArray.size) undef).getD t undef = vs.getD t undef := by
    intro t
    simp only [Array.getD_eq_getD_getElem?]
    by_cases ht : t < vs.length
    · rw [Array.getElem?_append_left (by simp; omega)]
      simp
    · rw [Array.getElem?_append_right (by simp; omega), Array.getElem?_replicate, List.getD_eq_getElem?_getD, List.getElem?_eq_none (by omega)]
      split <;> rfl
  refine ⟨ι, fun t => ?_, by simp; omega, rfl, hM, hw ▸ Fr.refl _ _, fun i _ => by rw [key, hpa]⟩
  rw [key]
  by_cases ht : t < (encIs ins x []).1.length
  · exact h2 t ht
  · have e1 : (startOf G ins x).env t = .und := by simp [startOf, Nat.not_lt.1 ht]
    rw [e1, List.getD_eq_getElem?_getD, List.getElem?_eq_none (by omega)]
    rfl

def resF (a : Act) : ResultVar → Sem Value
  | .tmp t => pure (a.tmps.getD t undef)
  | .cell p t => do loadVar t (← asAddr (a.tmps.getD p undef))

theorem res_ok (hF : Fits P G.U G.ti) {σ : St G.U.El} {a : Act} (hE : ER G.U B ι σ.mem w σ.env a) (hm : MR G.U B S ι σ.mem w) : ∀ {rs : List ResultVar} {ws : List (W G.U.El)}, resOf G rs σ = some ws →
    ∃ vs : List Value, (List.mapM (resF a) rs).run P w = Result.ok vs w ∧ WsR G.U B ι σ.mem w ws vs
  | [], ws, h => by
    cases h
    exact ⟨[], by simp, rfl⟩
  | .tmp t :: rs, ws, h => by
    simp only [resOf] at h
    split at h
    · rename_i x hx
      obtain ⟨ws', h1, rfl⟩ := Option.map_eq_some_iff.1 h
      obtain ⟨vs, h2, h3⟩ := res_ok hF hE hm h1
      have hv := hE t
      rw [hx] at hv
      refine ⟨a.tmps.getD t undef :: vs, ?_, _, vs, rfl, hv, h3⟩
      rw [List.mapM_cons]
      simp only [resF, Sem.run_bind, Sem.run_pure, Result.andThen_ok, h2]
    · cases h
  | .cell p t :: rs, ws, h => by
    simp only [resOf] at h
    obtain ⟨x, h0, h⟩ := Option.bind_eq_some_iff.1 h
    obtain ⟨ws', h1, rfl⟩ := Option.map_eq_some_iff.1 h
    obtain ⟨vs, h2, h3⟩ := res_ok hF hE hm h1
    obtain ⟨y, u, h4, h5, h6⟩ := aLoad_ok (P := P) hF hm (hE p) h0
    cases h5
    have h7 : (resF a (.cell p t)).run P w = .ok u w := by
      simp only [resF]
      cases hp : a.tmps.getD p undef with
      | pointer q =>
        rw [hp] at h4
        cases q with
        | some q => simpa [Instr.loadAt, Instr.sureAddr, asAddr] using h4
        | none => simp [Instr.loadAt, Instr.sureAddr, stuck, Sem.run, Result.andThen] at h4
      | _ => rw [hp] at h4; simp [Instr.loadAt, Instr.sureAddr, stuck, Sem.run, Result.andThen] at h4
    refine ⟨u :: vs, ?_, u, vs, rfl, h6, h3⟩
    rw [List.mapM_cons]
    simp only [Sem.run_bind, Sem.run_pure, Result.andThen_ok, h2, h7]

theorem results_run {fn : Func} {a : Act} {vs : List Value} (h : (List.mapM (resF a) fn.results.toList).run P w = .ok vs w) : (results fn a.tmps).run P w = .ok (if h : vs.length = 1 then vs[0] else .tuple vs.toArray) w := by
  have e : results fn a.tmps = (do let vs ← Array.mapM (resF a) fn.results; pure (if h : vs.size = 1 then vs[0] else .tuple vs)) := by
    unfold results
    congr 1
  rw [e, Array.mapM_eq_mapM_toList]
  simp [h]

theorem resV_single {ws : List (W G.U.El)} {vs : List Value} (h : WsR G.U B ι m w ws vs) : VR G.U B ι m w (resV ws) (if h : vs.length = 1 then vs[0] else .tuple vs.toArray) := by
  match ws, h with
  | [], h => cases h; exact ⟨[], rfl, rfl⟩
  | [x], ⟨v, r, e, h1, h2⟩ =>
    have hr : r = [] := h2
    subst hr
    subst e
    exact h1
  | x :: x' :: xs, ⟨v, r, e, h1, v', r', e', h2, h3⟩ =>
    subst e'
    subst e
    rw [dif_neg (by simp)]
    exact ⟨_, rfl, v, _, rfl, h1, v', r', rfl, h2, h3⟩


theorem bkVs_congr : ∀ {ss : List AS} {us vs : List Value} (pins : List Nat) (i : Nat), us.length = ss.length → vs.length = ss.length → (∀ (j : Nat) (s : AS), ss[j]? = some s → s.bkS ≠ [] → us[j]? = vs[j]?) → bkVs G.U ss us = bkVs G.U ss vs
  | [], [], [], _, _, _, _, _ => rfl
  | s :: ss, u :: us, v :: vs, pins, i, h1, h2, h => by
    simp only [bkVs]
    rw [bkVs_congr pins (i + 1) (by simpa using h1) (by simpa using h2) fun j s hs hb => by simpa using h (j + 1) s (by simpa using hs) hb]
    congr 1
    by_cases hb : s.bkS = []
    · have nob : ∀ w : Value, s.bkV G.U w = [] := by
        intro w
        cases s with
        | c s => exact (bk_none1 (U := G.U) hb (.sc undef) _).2
        | agg ss => cases w <;> first | rfl | exact (bk_none2 (U := G.U) hb [] _).2
        | io t ss => cases hb
        | fnp f caps => cases caps with
          | nil => cases w <;> rfl
          | cons p ps => cases hb
        | _ => cases w <;> rfl
      rw [nob u, nob v]
    · have := h 0 s rfl hb
      simp at this
      rw [this]
  | [], _ :: _, _, _, _, h, _, _ => by simp at h
  | [], [], _ :: _, _, _, _, h, _ => by simp at h
  | _ :: _, [], _, _, _, h, _, _ => by simp at h
  | _ :: _, _ :: _, [], _, _, _, h, _ => by simp at h

theorem bkWs_get : ∀ {ss : List AS} {is : List (Option Nat)} {bs : List (W G.U.El)}, bkWs m ss is = some bs → bs.length = ss.length ∧ ∀ (j : Nat) (s : AS) (b : W G.U.El), ss[j]? = some s → bs[j]? = some b → ∃ i, is[j]? = some i ∧ bkW m s i = some b
  | [], [], bs, h => by cases h; exact ⟨rfl, fun j s b h => by simp at h⟩
  | [], _ :: _, _, h => by simp [bkWs] at h
  | _ :: _, [], _, h => by simp [bkWs] at h
  | s :: ss, i :: is, bs, h => by
    simp only [bkWs] at h
    obtain ⟨w, h1, h⟩ := Option.bind_eq_some_iff.1 h
    obtain ⟨ws, h2, h⟩ := Option.bind_eq_some_iff.1 h
    cases h
    obtain ⟨h3, h4⟩ := bkWs_get h2
    refine ⟨by simp [h3], fun j s' b hs hb => ?_⟩
    cases j with
    | zero => simp at hs hb; subst hs; subst hb; exact ⟨i, rfl, h1⟩
    | succ j => exact h4 j s' b (by simpa using hs) (by simpa using hb)

theorem Oout_get {m : List (Blk G.U.El)} : ∀ {ss : List AS} {ws : List (W G.U.El)} {x : Os G.U.El ss} {mk : List (Blk G.U.El)}, Oout m ss ws = some x → ∀ (j : Nat) (s : AS) (a b : W G.U.El), ss[j]? = some s → ws[j]? = some a → (encOs true true ss x mk).1[j]? = some b → ∃ (y : s.T G.U.El) (mq : List (Blk G.U.El)), s.out m a = some y ∧ b = (encO true true s y mq).1
  | [], [], _, _, _, j, s, a, b, h, _, _ => by simp at h
  | [s], [y], x, mk, h, j, s', a, b, h1, h2, h3 => by
    cases j with
    | zero => simp [encOs] at h1 h2 h3; subst h1; subst h2; subst h3; exact ⟨x, mk, h, rfl⟩
    | succ j => simp at h1
  | s :: s' :: ss, y :: ys, x, mk, h, j, t, a, b, h1, h2, h3 => by
    change ((s.out m y).bind fun x => (Oout m (s' :: ss) ys).bind fun y => some (x, y)) = some x at h
    obtain ⟨q, h4, h⟩ := Option.bind_eq_some_iff.1 h
    obtain ⟨r, h5, h⟩ := Option.bind_eq_some_iff.1 h
    cases h
    cases j with
    | zero => simp [encOs] at h1 h2 h3; subst h1; subst h2; subst h3; exact ⟨q, mk, h4, rfl⟩
    | succ j => exact Oout_get h5 j t a b (by simpa using h1) (by simpa using h2) (by simpa [encOs] using h3)
  | [], _ :: _, _, _, h, _, _, _, _, _, _, _ => by cases h
  | [_], [], _, _, h, _, _, _, _, _, _, _ => by cases h
  | [_], _ :: _ :: _, _, _, h, _, _, _, _, _, _, _ => by cases h
  | _ :: _ :: _, [], _, _, h, _, _, _, _, _, _, _ => by cases h

theorem bkSs_kind : ∀ {ss : List AS} {s : AS}, s ∈ bkSs ss → (∃ t l, s = .io t l) ∨ ∃ t, s = .bk t
  | [], _, h => by simp [bkSs] at h
  | s :: ss, s', h => by
    have k1 : ∀ {ss : List S1} {s : AS}, s ∈ bkS1 ss → ∃ t, s = .bk t := by
      intro ss
      induction ss with
      | nil => intro s h; simp [bkS1] at h
      | cons s ss ih =>
        intro s' h
        rcases List.mem_append.1 h with h | h
        · cases s <;> simp [S1.bkS] at h
          exact ⟨_, h⟩
        · exact ih h
    have k2 : ∀ {caps : List (Nat × List S1)} {s : AS}, s ∈ bkCaps caps → ∃ t l, s = .io t l := by
      intro caps
      induction caps with
      | nil => intro s h; simp [bkCaps] at h
      | cons p ps ih =>
        intro s h
        rcases List.mem_cons.1 h with h | h
        · exact ⟨_, _, h⟩
        · exact ih h
    rcases List.mem_append.1 h with h | h
    · cases s with
      | c s =>
        cases s <;> simp [AS.bkS, S1.bkS] at h
        exact .inr ⟨_, h⟩
      | agg ss => exact .inr (k1 h)
      | io t l => simp [AS.bkS] at h; exact .inl ⟨t, l, h⟩
      | fnp f caps => exact .inl (k2 h)
      | _ => simp [AS.bkS] at h
    · exact bkSs_kind h

/-- What a function's end hands out. -/
theorem end_ok (hF : Fits P G.U G.ti) {w0 : Frm} {fn : Func} {ins outs : List AS} {y : Os G.U.El (outs ++ bkSs ins)} {σ : St G.U.El} {a : Act} {n : Nat} {e : Ex} (hσ : SR G.U G.ntmps w0 σ a w) (hpin : w0.pins = G.pins) {cargs : List Value} (hpa : w0.pa = fun i => cargs.getD i undef) (hcl : cargs.length = ins.length) (hil : ins.length ≤ G.ntmps) (h : kEnd G fn ins outs n e σ = some y) :
    (∀ i, e ≠ .exit i) ∧ a.defers = [] ∧ ∃ v, (results fn a.tmps).run P w = .ok v w ∧ Ended G.U w0.D w0.S ins outs y w0.w0 w cargs v := by
  have hne : ∀ i, e ≠ .exit i := by rintro i rfl; cases h
  have h' : ((resOf G fn.results.toList σ).bind fun vs => (bkWs σ.mem (bkSs ins) (bkIs ins ((List.range ins.length).map σ.env))).bind fun bs =>
      if handsOk (srcsOf σ.mem (outs ++ bkSs ins) (vs ++ bs) ++ bkIs ins ((List.range ins.length).map σ.env)) (usesOf σ.mem (outs ++ bkSs ins) (vs ++ bs)) && (pinsOk G ins 0 && aligns G.U ins ((List.range ins.length).map σ.env) && Nat.beq vs.length outs.length && !(outs.any isBk)) then Oout σ.mem (outs ++ bkSs ins) (vs ++ bs) else none) = some y := by
    cases e with
    | exit i => exact absurd rfl (hne i)
    | normal => exact h
    | ret => exact h
  obtain ⟨ι, hE, hN, hD, hM, hFr, hPn⟩ := hσ
  obtain ⟨ws, h1, h2'⟩ := Option.bind_eq_some_iff.1 h'
  obtain ⟨bs, hbs, h2⟩ := Option.bind_eq_some_iff.1 h2'
  clear h' h2' h
  split at h2
  case isFalse => cases h2
  rename_i hh
  simp only [Bool.and_eq_true, Bool.not_eq_true'] at hh
  obtain ⟨hh, ⟨⟨hpo, hal⟩, hwl⟩, hnb⟩ := hh
  have hwl := Nat.eq_of_beq_eq_true hwl
  obtain ⟨vs, h3, h4⟩ := res_ok hF hE hM h1
  -- what comes back, by the temporaries
  let ps := (List.range ins.length).map σ.env
  let cs := (List.range ins.length).map fun i => a.tmps.getD i undef
  have hps : VsR G.U w0.D ι σ.mem w ps cs := by
    have : ∀ l : List Nat, VsR G.U w0.D ι σ.mem w (l.map σ.env) (l.map fun i => a.tmps.getD i undef) := by
      intro l
      induction l with
      | nil => exact rfl
      | cons i l ih => exact ⟨_, _, rfl, hE i, ih⟩
    exact this _
  obtain ⟨hbl, hbv⟩ := bks_val hF.U hal hps
  have hpin' : ∀ (ss : List AS) (i j : Nat) (s : AS), pinsOk G ss i = true → ss[j]? = some s → s.bkS ≠ [] → i + j ∈ G.pins := by
    intro ss
    induction ss with
    | nil => intro i j s _ h; simp at h
    | cons s ss ih =>
      intro i j s' hp hs hb
      simp only [pinsOk, Bool.and_eq_true, Bool.or_eq_true, List.isEmpty_iff] at hp
      cases j with
      | zero =>
        simp at hs
        subst hs
        rcases hp.1 with h | h
        · exact absurd h hb
        · exact List.contains_iff_mem.1 h
      | succ j =>
        have := ih (i + 1) j s' hp.2 (by simpa using hs) hb
        rwa [show i + 1 + j = i + (j + 1) by omega] at this
  have hcs : bkVs G.U ins cs = bkVs G.U ins cargs := by
    refine bkVs_congr [] 0 (by simp [cs]) hcl fun j s hs hb => ?_
    have hj : j < ins.length := (List.getElem?_eq_some_iff.1 hs).1
    have hp := hpin' ins 0 j s hpo hs hb
    rw [Nat.zero_add] at hp
    have := hPn j (by rw [hpin]; exact hp)
    rw [hpa] at this
    simp only [cs, List.getElem?_map, List.getElem?_range hj, Option.map_some, this]
    rw [List.getD_eq_getElem?_getD, List.getElem?_eq_getElem (by omega)]
    rfl
  rw [hcs] at hbv
  refine ⟨hne, hD, _, results_run h3, hFr, ?_⟩
  obtain ⟨hbsl, hbsg⟩ := bkWs_get hbs
  obtain ⟨hol, hsl⟩ := Oout_len h2
  have hlive1 := fun a ha => Oout_live h2 (a := a) ha
  simp only [handsOk, Bool.and_eq_true, decide_eq_true_eq, List.all_eq_true, Bool.not_eq_true'] at hh
  obtain ⟨hnd, hus⟩ := hh
  generalize hids : bkIs ins ((List.range ins.length).map σ.env) = ids at *
  generalize hpu : (encOs true true (outs ++ bkSs ins) y []).2 = pu at *
  have hpul : pu.length = nps (outs ++ bkSs ins) := by rw [← hpu, encOs_len2]; simp
  generalize hsrc : srcsOf σ.mem (outs ++ bkSs ins) (ws ++ bs) = src0 at *
  have hsl' : src0.length = pu.length := by rw [hpul]; exact hsl
  have hencl : (encOs true true (outs ++ bkSs ins) y []).1.length = outs.length + (bkSs ins).length := by rw [encOs_len, List.length_append]
  let src := src0 ++ ids
  let ιT : Nat → Value := fun i => match src[i]? with
    | some (some a) => ι a
    | _ => .slice none 0 0
  have hmE : endMem ins outs y = pu ++ bkBlks (bkSs ins) ((encOs true true (outs ++ bkSs ins) y []).1.drop outs.length) := by rw [← hpu]; rfl
  have hbkl : (bkBlks (bkSs ins) ((encOs true true (outs ++ bkSs ins) y []).1.drop outs.length)).length = ids.length := by
    rw [bkBlks_len _ _ (by rw [List.length_drop, hencl]; omega), hbl]
  have hmEl : (endMem ins outs y).length = src.length := by
    rw [hmE, List.length_append, hbkl]
    show pu.length + ids.length = (src0 ++ ids).length
    rw [List.length_append, hsl']
  -- the kinds of what comes back
  have bkinfo : ∀ (j : Nat) (b : Blk G.U.El), (bkBlks (bkSs ins) ((encOs true true (outs ++ bkSs ins) y []).1.drop outs.length))[j]? = some b →
      (∃ t ss k cs cs' , (bkSs ins)[j]? = some (.io t ss) ∧ ids[j]? = some (some k) ∧ σ.mem[k]? = some (.st t cs) ∧ b = .st t cs' ∧ (ws ++ bs)[outs.length + j]? = some (.agg cs) ∧ (encOs true true (outs ++ bkSs ins) y []).1[outs.length + j]? = some (.agg cs')) ∨
      (∃ t l, (bkSs ins)[j]? = some (.bk t) ∧ b = .da t l ∧ ((∃ k, ids[j]? = some (some k) ∧ σ.mem[k]? = some (.da t l)) ∨ (ids[j]? = some none ∧ l = []))) := by
    intro j b hb
    have hj : j < (bkSs ins).length := by
      have := (List.getElem?_eq_some_iff.1 hb).1
      omega
    obtain ⟨s, hs⟩ : ∃ s, (bkSs ins)[j]? = some s := ⟨_, List.getElem?_eq_getElem hj⟩
    have hbj : bs[j]? = some (bs[j]'(by omega)) := List.getElem?_eq_getElem (by omega)
    obtain ⟨i, hi, hw⟩ := hbsg j _ _ hs hbj
    have ha : (encOs true true (outs ++ bkSs ins) y []).1[outs.length + j]? = some ((encOs true true (outs ++ bkSs ins) y []).1[outs.length + j]'(by omega)) := List.getElem?_eq_getElem (by omega)
    have hwb : (ws ++ bs)[outs.length + j]? = some (bs[j]'(by omega)) := by
      rw [List.getElem?_append_right (by omega), hwl, show outs.length + j - outs.length = j by omega]
      exact hbj
    have hss : (outs ++ bkSs ins)[outs.length + j]? = some s := by
      rw [List.getElem?_append_right (by omega), show outs.length + j - outs.length = j by omega]
      exact hs
    obtain ⟨yj, mq, hyj, hej⟩ := Oout_get (mk := []) h2 _ _ _ _ hss hwb ha
    have hbb := bkBlks_get (bkSs ins) ((encOs true true (outs ++ bkSs ins) y []).1.drop outs.length) j _ _ hs (by rw [List.getElem?_drop]; exact ha)
    rw [hb] at hbb
    have hbb := Option.some.inj hbb
    rcases bkSs_kind (List.mem_of_getElem? hs) with ⟨t, ss, rfl⟩ | ⟨t, rfl⟩
    · cases i with
      | none => simp [bkW] at hw
      | some k =>
        simp only [bkW] at hw
        split at hw
        · rename_i t' cs hk
          split at hw
          · rename_i e
            subst e
            have hw := Option.some.inj hw
            refine .inl ⟨t', ss, k, cs, (enc2 true true ss yj mq).1, hs, hi, hk, ?_, by rw [hwb, hw], by rw [ha, hej]; rfl⟩
            rw [hbb, hej]
            rfl
          · cases hw
        · cases hw
    · refine .inr ⟨t, yj, hs, by rw [hbb, hej]; rfl, ?_⟩
      cases i with
      | none =>
        simp only [bkW, Option.some.injEq] at hw
        rw [← hw] at hyj
        have hy' : (if C.own (.sc (.slice none 0 0) : C G.U.El) then rowOf σ.mem t (.sc (.slice none 0 0)) else none) = some yj := hyj
        rcases out_own hy' with ⟨id, e, _⟩ | ⟨_, e⟩
        · cases e
        · exact .inr ⟨hi, e⟩
      | some k =>
        simp only [bkW, Option.some.injEq] at hw
        rw [← hw] at hyj
        have hy' : (if C.own (.sl k : C G.U.El) then rowOf σ.mem t (.sl k) else none) = some yj := hyj
        rcases out_own hy' with ⟨id, e, hb⟩ | ⟨e, _⟩
        · cases e
          exact .inl ⟨k, hi, hb⟩
        · cases e
  have hlive : ∀ a, some a ∈ src → ∃ b, σ.mem[a]? = some b ∧ b.live := by
    intro a ha
    rcases List.mem_append.1 ha with ha | ha
    · exact hlive1 a ha
    · obtain ⟨j, hj, hje⟩ := List.getElem_of_mem ha
      have hje' : ids[j]? = some (some a) := by rw [List.getElem?_eq_getElem hj, hje]
      obtain ⟨b, hb⟩ : ∃ b, (bkBlks (bkSs ins) ((encOs true true (outs ++ bkSs ins) y []).1.drop outs.length))[j]? = some b := ⟨_, List.getElem?_eq_getElem (by omega)⟩
      rcases bkinfo j b hb with ⟨t, ss, k, cs, cs', _, e1, e2, _⟩ | ⟨t, l, _, _, ⟨k, e1, e2⟩ | ⟨e1, _⟩⟩
      · rw [hje'] at e1; cases e1; exact ⟨_, e2, trivial⟩
      · rw [hje'] at e1; cases e1; exact ⟨_, e2, trivial⟩
      · rw [hje'] at e1; cases e1
  have own : ∀ id b k, (endMem ins outs y)[id]? = some b → ownOf (ιT id) = some k → ∃ a b', src[id]? = some (some a) ∧ σ.mem[a]? = some b' ∧ b'.live ∧ ownOf (ι a) = some k := by
    intro id b k hb hk
    have hlt : id < src.length := by rw [← hmEl]; exact (List.getElem?_eq_some_iff.1 hb).1
    cases hq : src[id]? with
    | none => simp at hq; omega
    | some o =>
      cases o with
      | none => simp [ιT, hq, ownOf] at hk
      | some a =>
        obtain ⟨b', e1, e2⟩ := hlive a (List.mem_of_getElem? hq)
        exact ⟨a, b', rfl, e1, e2, by simpa [ιT, hq] using hk⟩
  have O : Over G.U w0.D w0.D true ι σ.mem src (usesOf σ.mem (outs ++ bkSs ins) (ws ++ bs)) ιT (endMem ins outs y) := by
    refine ⟨hmEl, fun i a h => by simp [ιT, h], fun i h => by simp [ιT, h], ?_, ?_, hM.inj, own, fun b _ h => h rfl⟩
    · intro b hf id q hq hl hk
      obtain ⟨a, b', _, e2, e3, e4⟩ := own id q b hq hk
      exact hf a b' e2 e3 e4
    · intro i hi hmem
      have := hus i hi
      rw [List.contains_iff_mem.2 hmem] at this
      cases this
  obtain ⟨h5, h6⟩ := Oout_ok hF hM w0.sd O (mk := []) h2 ⟨[], ids, by rw [hsrc]; rfl, rfl⟩ (fun i hi => hi)
  rw [hpu] at h6
  have bat : ∀ j i, ids[j]? = some i → src[pu.length + j]? = some i := by
    intro j i h
    show (src0 ++ ids)[pu.length + j]? = some i
    rw [List.getElem?_append_right (by omega), hsl', show pu.length + j - pu.length = j by omega]
    exact h
  refine ⟨ιT, ?_, ⟨fun id b hb => ?_, ?_, ?_⟩, fun j v hj => ?_⟩
  · refine resV_ok (U' := G.U) (resV_single h4) (by rw [List.length_take, hencl, hwl]; omega) fun j p q hp hq v hv => ?_
    have hj : j < outs.length := by rw [← hwl]; exact (List.getElem?_eq_some_iff.1 hp).1
    rw [List.getElem?_take_of_lt hj] at hq
    refine h5 j outs[j] p q (by rw [List.getElem?_append_left hj, List.getElem?_eq_getElem hj]) ?_ (by rw [List.getElem?_append_left (by omega)]; exact hp) hq v hv
    cases hbk : isBk outs[j] with
    | false => rfl
    | true =>
      have : outs.any isBk = true := List.any_eq_true.2 ⟨_, List.getElem_mem hj, hbk⟩
      rw [this] at hnb
      cases hnb
  · by_cases hlt : id < pu.length
    · rw [hmE, List.getElem?_append_left hlt] at hb
      have := h6 id b (by simpa using hb)
      simpa using this
    · obtain ⟨j, rfl⟩ : ∃ j, id = pu.length + j := ⟨id - pu.length, by omega⟩
      rw [hmE, List.getElem?_append_right (by omega), show pu.length + j - pu.length = j by omega] at hb
      rcases bkinfo j b hb with ⟨t, ss, k, cs, cs', e0, e1, e2, rfl, e4, e5⟩ | ⟨t, l, _, rfl, ⟨k, e1, e2⟩ | ⟨e1, rfl⟩⟩
      · obtain ⟨β, us, e6, e7, e8⟩ := hM.blk _ _ e2
        obtain ⟨us', e9, e10⟩ := h5 (outs.length + j) (.io t ss) _ _ (by rw [List.getElem?_append_right (by omega), show outs.length + j - outs.length = j by omega]; exact e0) rfl e4 e5 (.agg us) ⟨us.toList, by simp, e8⟩
        refine ⟨β, us, (O.is _ _ (bat j _ e1)).trans e6, e7, ?_⟩
        have : us'.toArray = us := by cases e9; rfl
        rw [← this]
        simpa using e10
      · have := hM.blk _ _ e2
        simp only [BR] at this ⊢
        rw [O.is _ _ (bat j _ e1)]
        exact this
      · simp only [BR]
        rw [O.no _ (bat j _ e1)]
        simpa [flat] using World.ownsRow_nil w 0 t (G.U.sz t)
  · intro i j b b' k hi hj hl hl' hk hk'
    obtain ⟨a, q, e1, e2, e3, e4⟩ := own i b k hi hk
    obtain ⟨a', q', e1', e2', e3', e4'⟩ := own j b' k hj hk'
    have haa := hM.inj a a' q q' k e2 e2' e3 e3' e4 e4'
    subst haa
    exact nodup_at hnd e1 e1'
  · intro id b k hb hl hk
    obtain ⟨a, q, e1, e2, e3, e4⟩ := own id b k hb hk
    exact hM.inS a q k e2 e3 e4
  · rw [← hbv, List.getElem?_map] at hj
    obtain ⟨i, hi, rfl⟩ := Option.map_eq_some_iff.1 hj
    cases i with
    | none => exact O.no _ (bat j _ hi)
    | some k => exact O.is _ _ (bat j _ hi)

theorem encIs_len1 : ∀ (ins : List AS) (x : ASs G.U.El ins) (mk : List (Blk G.U.El)), (encIs ins x mk).1.length = ins.length
  | [], _, _ => rfl
  | s :: ss, (x, y), mk => by simp only [encIs, List.length_cons]; rw [encIs_len1 ss]

/-- A function does what its evaluation says. -/
theorem aFun_ok (hF : Fits P G.U G.ti) {con : Nat → Nat → Option (Con G.U.El)} (hcon : ∀ n f c, con n f = some c → ConOk P G.U f c) {f : Nat} {fn : Func} (hf : P.funcs[f % 65536]? = some fn) {c : Code} (hb : fn.body = some c) (hname : (fn.name == "runtime.NumGoroutine") = false)
    (hn : G.ntmps = fn.ntmps) {ins outs : List AS} (hl : ins.length ≤ G.ntmps) {L : Nat → Option (LoopC G.U.El (Os G.U.El (outs ++ bkSs ins)))} (hL : loopsOk G con L c 0 (kEnd G fn ins outs)) {plain : Nat → ASs G.U.El ins → Option (Os G.U.El (outs ++ bkSs ins))}
    (hp : ∀ n x y, plain n x = some y → aev G con L c 0 n (startOf G ins x) (kEnd G fn ins outs) = some y) : ConOk P G.U f ⟨ins, outs, plain⟩ := by
  refine ⟨⟨fn, hf, hname, by simp [hb]⟩, fun n x y hy D S ι vs w hS hSD hv hM => ?_⟩
  have hlen := encIs_len1 (G := G) ins x []
  have hlv : (encIs ins x []).1.length = vs.length := (VsR.get hv).1
  let F : Frm := ⟨w, D, S, G.pins, fun i => vs.getD i undef, hS, hSD⟩
  have hs := start_SR (G := G) encIs_len1 F rfl rfl hv hM (by omega)
  refine calls_of_wp hf hb ?_
  rw [← hn]
  refine aev_ok hF hcon rfl c 0 n _ _ _ _ _ hL (hp n x y hy) hs ?_
  intro n' _ e σ a w' h1 h2
  obtain ⟨h3, h4, v, h5, h6⟩ := end_ok hF h2 rfl (cargs := vs) rfl (by omega) hl h1
  cases e with
  | exit i => exact absurd rfl (h3 i)
  | normal => exact ⟨h4, v, h5, v, rfl, h6⟩
  | ret => exact ⟨h4, v, h5, v, rfl, h6⟩
end
end Go.Proofs.Ytnjmkkgmlkhjeaa.AM
namespace Go.Proofs.Ytnjmkkgmlkhjeaa.AM
variable {ρ : Type}

/-! The rounds of loops and the joins as one list of equations. -/
structure Sides (ρ : Type) where
  X : Type
  l : Nat → X → Option ρ
  r : Nat → X → Option ρ
def Sides.left (s : Sides ρ) : Σ X : Type, Nat → X → Option ρ := ⟨s.X, s.l⟩
def Sides.right (s : Sides ρ) : Σ X : Type, Nat → X → Option ρ := ⟨s.X, s.r⟩

section
variable (G : Cfg) (con : Nat → Nat → Option (Con G.U.El)) (L : Nat → Option (LoopC G.U.El ρ))
noncomputable def sides (c : Code) : Nat → Kt G.U ρ → List (Sides ρ) :=
  Code.rec (motive := fun _ => Nat → Kt G.U ρ → List (Sides ρ))
    (fun _ _ => [])
    (fun id ops draw _ K => match L (2 * id + 1) with
      | some c => ⟨c.shape.X G.U.El, c.l, fun n x => aRegA G con ops draw n (c.shape.enc x) K⟩ :: (match regionOrder G ops draw with
        | some _ => []
        | none => [⟨c.shape.X G.U.El, c.l, fun n x => aRegB G con ops draw n (c.shape.enc x) K⟩, ⟨c.shape.X G.U.El, c.l, fun n x => aRegC G con ops draw n (c.shape.enc x) K⟩])
      | none => [])
    (fun _ b a' b' k K => a' k (fun n e σ => match e with | .normal => aev G con L b k n σ K | .ret => K n .ret σ | .exit i => K n (.exit i) σ) ++ b' k K)
    (fun _ _ _ x y k K => x k K ++ y k K)
    (fun id _ c _ K => c id fun n e σ => match e with | .exit i => cond (Nat.beq i id) (K n .normal σ) (K n (.exit i) σ) | .normal => K n .normal σ | .ret => K n .ret σ)
    (fun body b k K => (match L (2 * k) with
      | some c => [⟨c.shape.X G.U.El, fun _ x => c.l 0 x, fun _ _ => none⟩, ⟨c.shape.X G.U.El, fun n x => c.l (n + 1) x, fun n x => aev G con L body k n (c.shape.enc x) (fun n e σ => match e with | .normal => headOf G L (2 * k) n σ | .ret => K n .ret σ | .exit i => K n (.exit i) σ)⟩] ++ b k fun n e σ => match e with | .normal => headOf G L (2 * k) n σ | .ret => K n .ret σ | .exit i => K n (.exit i) σ
      | none => (List.range rolls).flatMap fun u => b k (rollK G (aev G con L body k) K u)))
    (fun _ _ _ _ _ _ _ _ => [])
    (fun _ _ _ => [])
    (fun _ _ _ _ => [])
    (fun _ _ _ => [])
    (fun _ _ _ => [])
    (fun _ _ => [])
    (fun _ _ _ => []) c
end

theorem map_sides {l : List (Sides ρ)} (h : l.map Sides.left = l.map Sides.right) : ∀ s ∈ l, s.l = s.r := by
  induction l with
  | nil => intro s hs; cases hs
  | cons a l ih =>
    simp only [List.map_cons, List.cons.injEq] at h
    intro s hs
    rcases List.mem_cons.1 hs with rfl | hs
    · obtain ⟨X, f, g⟩ := s
      have := h.1
      simp only [Sides.left, Sides.right, Sigma.mk.injEq, heq_eq_eq, true_and] at this
      exact this
    · exact ih h.2 s hs

section
variable {G : Cfg} {con : Nat → Nat → Option (Con G.U.El)} {L : Nat → Option (LoopC G.U.El ρ)}
theorem loopsOk_of (c : Code) : ∀ (k : Nat) (K : Kt G.U ρ), (∀ s ∈ sides G con L c k K, s.l = s.r) → loopsOk G con L c k K := by
  induction c with
  | skip => exact fun _ _ _ => trivial
  | region id ops draw =>
    intro k K h c hc n x r hr
    have h' : ∀ s ∈ (match L (2 * id + 1) with | some c => (⟨c.shape.X G.U.El, c.l, fun n x => aRegA G con ops draw n (c.shape.enc x) K⟩ : Sides ρ) :: (match regionOrder G ops draw with
        | some _ => []
        | none => [⟨c.shape.X G.U.El, c.l, fun n x => aRegB G con ops draw n (c.shape.enc x) K⟩, ⟨c.shape.X G.U.El, c.l, fun n x => aRegC G con ops draw n (c.shape.enc x) K⟩]) | none => []), s.l = s.r := h
    rw [hc] at h'
    have hA := (congrFun (congrFun (h' _ (List.mem_cons_self ..)) n) x).symm.trans hr
    refine ⟨hA, ?_⟩
    cases ho : regionOrder G ops draw with
    | some is =>
      change aRegA G con ops draw n (c.shape.enc x) K = some r at hA
      unfold aRegA at hA
      rw [ho] at hA
      unfold aRegB aRegC
      rw [ho]
      exact ⟨hA, hA⟩
    | none =>
      rw [ho] at h'
      exact ⟨(congrFun (congrFun (h' _ (List.mem_cons_of_mem _ (List.mem_cons_self ..))) n) x).symm.trans hr, (congrFun (congrFun (h' _ (List.mem_cons_of_mem _ (List.mem_cons_of_mem _ (List.mem_singleton.2 rfl)))) n) x).symm.trans hr⟩
  | seq x y ihx ihy =>
    intro k K h
    have h' : ∀ s ∈ sides G con L x k _ ++ sides G con L y k K, s.l = s.r := h
    exact ⟨ihx k _ fun s hs => h' s (List.mem_append_left _ hs), ihy k K fun s hs => h' s (List.mem_append_right _ hs)⟩
  | cond c x y ihx ihy =>
    intro k K h
    have h' : ∀ s ∈ sides G con L x k K ++ sides G con L y k K, s.l = s.r := h
    exact ⟨ihx k _ fun s hs => h' s (List.mem_append_left _ hs), ihy k K fun s hs => h' s (List.mem_append_right _ hs)⟩
  | block id c ih => exact fun k K h => ih id _ h
  | loop body ih =>
    intro k K h
    have h' : ∀ s ∈ (match L (2 * k) with
      | some c => [(⟨c.shape.X G.U.El, fun _ x => c.l 0 x, fun _ _ => none⟩ : Sides ρ), ⟨c.shape.X G.U.El, fun n x => c.l (n + 1) x, fun n x => aev G con L body k n (c.shape.enc x) (fun n e σ => match e with | .normal => headOf G L (2 * k) n σ | .ret => K n .ret σ | .exit i => K n (.exit i) σ)⟩] ++ sides G con L body k (fun n e σ => match e with | .normal => headOf G L (2 * k) n σ | .ret => K n .ret σ | .exit i => K n (.exit i) σ)
      | none => (List.range rolls).flatMap fun u => sides G con L body k (rollK G (aev G con L body k) K u)), s.l = s.r := h
    refine ⟨fun c hc => ?_, fun hn u hu => ?_⟩
    · rw [hc] at h'
      refine ⟨?_, ih k _ fun s hs => h' s (List.mem_append_right _ hs)⟩
      have h1 := fun s hs => h' s (List.mem_append_left _ hs)
      refine ⟨fun x => ?_, fun n x r hr => ?_⟩
      · exact congrFun (congrFun (h1 _ (List.mem_cons_self ..)) 0) x
      · exact (congrFun (congrFun (h1 _ (List.mem_cons_of_mem _ (List.mem_singleton.2 rfl))) n) x).symm.trans hr
    · rw [hn] at h'
      exact ih k _ fun s hs => h' s (List.mem_flatMap.2 ⟨u, List.mem_range.2 hu, hs⟩)
  | exit id => exact fun _ _ _ => trivial
  | ret => exact fun _ _ _ => trivial
  | rangeFunc => exact fun _ _ _ => trivial
  | scope => exact fun _ _ _ => trivial
  | label => exact fun _ _ _ => trivial
  | goto => exact fun _ _ _ => trivial
  | refuse => exact fun _ _ _ => trivial
end

def lk {α : Type _} : List (Nat × α) → Nat → Option α
  | [], _ => none
  | p :: ps, k => cond (Nat.beq p.1 k) (some p.2) (lk ps k)

def ConsOk (P : Program) (U : Univ) : List (Nat × Con U.El) → Prop
  | [] => True
  | p :: ps => ConOk P U p.1 p.2 ∧ ConsOk P U ps
theorem consOk {P : Program} {U : Univ} : ∀ {l : List (Nat × Con U.El)}, ConsOk P U l → ∀ f c, lk l f = some c → ConOk P U f c
  | [], _, _, _, h => by cases h
  | p :: ps, hl, f, c, h => by
    unfold lk at h
    cases hb : Nat.beq p.1 f with
    | true =>
      rw [hb] at h
      cases h
      rw [← Nat.eq_of_beq_eq_true hb]
      exact hl.1
    | false => rw [hb] at h; exact consOk hl.2 f c h

def fnB (G : Cfg) (fn : Func) (ins : List AS) : Bool := fn.body.isSome && !(fn.name == "runtime.NumGoroutine") && Nat.beq G.ntmps fn.ntmps && Nat.ble ins.length G.ntmps

noncomputable def sidesF (G : Cfg) (con : Nat → Nat → Option (Con G.U.El)) (fn : Func) (ins outs : List AS) (L : Nat → Option (LoopC G.U.El (Os G.U.El (outs ++ bkSs ins)))) : List (Sides (Os G.U.El (outs ++ bkSs ins))) :=
  match fn.body with
  | some c => sides G con L c 0 (kEnd G fn ins outs)
  | none => []

/-- A function is what its plain function says: three equations that the kernel checks. -/
theorem fun_ok {P : Program} {U : Univ} {ti : Nat → Option TI} {own : List Nat} {N : Nat} {ios pins : List Nat} (hF : Fits P U ti) {cs : List (Nat × Con U.El)} (hcs : ConsOk P U cs) {f : Nat} {fn : Func} (hf : P.funcs[f % 65536]? = some fn) {ins outs : List AS} {L : Nat → Option (LoopC U.El (Os U.El (outs ++ bkSs ins)))} {plain : Nat → ASs U.El ins → Option (Os U.El (outs ++ bkSs ins))}
    (hb : fnB ⟨U, ti, own, N, ios, pins⟩ fn ins = true)
    (hs : (sidesF ⟨U, ti, own, N, ios, pins⟩ (fun _ => lk cs) fn ins outs L).map Sides.left = (sidesF ⟨U, ti, own, N, ios, pins⟩ (fun _ => lk cs) fn ins outs L).map Sides.right)
    (hp : plain = fun n x => aFun ⟨U, ti, own, N, ios, pins⟩ (fun _ => lk cs) fn ins outs L n x) : ConOk P U f ⟨ins, outs, plain⟩ := by
  unfold fnB at hb
  simp only [Bool.and_eq_true, Bool.not_eq_true'] at hb
  obtain ⟨⟨⟨h1, h2⟩, h3⟩, h4⟩ := hb
  obtain ⟨c, hc⟩ := Option.isSome_iff_exists.1 h1
  have hs' := map_sides hs
  unfold sidesF at hs'
  rw [hc] at hs'
  refine aFun_ok (G := ⟨U, ti, own, N, ios, pins⟩) hF (fun _ => consOk hcs) hf hc h2 (Nat.eq_of_beq_eq_true h3) (Nat.le_of_ble_eq_true h4) (loopsOk_of c 0 _ hs') (plain := plain) fun n x y h => ?_
  rw [hp] at h
  unfold aFun at h
  rw [hc] at h
  exact h
end Go.Proofs.Ytnjmkkgmlkhjeaa.AM
