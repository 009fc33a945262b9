/- A part of the plain reading of Go's code: what a function's code comes to, by a plain function. No condition. -/
import Derived.Test.YtigoabhkdipdeaaZAXC
namespace Go.Proofs.Ytigoabhkdipdeaa.AM
open Go.RowKit
variable {ρ : Type}

section
variable {P : Program} {G : Cfg} {B : Nat → Prop} {S : Nat → Prop} {ι : Nat → Value} {m : List (Blk G.U.El)} {w : World} {r : ρ} {K : V G.U.El → List (Blk G.U.El) → Option ρ}

theorem VsR.app : ∀ {xs ys : List (V G.U.El)} {us vs : List Value}, VsR G.U B ι m w xs us → VsR G.U B ι m w ys vs → VsR G.U B ι m w (xs ++ ys) (us ++ vs)
  | [], _, _, _, h, h' => by cases h; exact h'
  | _ :: _, _, _, _, ⟨u, r, e, h1, h2⟩, h' => ⟨u, r ++ _, by rw [e]; rfl, h1, VsR.app h2 h'⟩

theorem ptrsOf_ok : ∀ {caps : List (Nat × Nat)} {vs : List Value}, vs.length = caps.length → (∀ (j : Nat) (p : Nat × Nat) (u : Value), caps[j]? = some p → vs[j]? = some u → PR G.U ι m p.1 p.2 u) → VsR G.U B ι m w (ptrsOf caps) vs
  | [], [], _, _ => rfl
  | p :: caps, v :: vs, hl, h => ⟨v, vs, rfl, h 0 p v rfl rfl, ptrsOf_ok (by simpa using hl) fun j q u hq hu => h (j + 1) q u (by simpa using hq) (by simpa using hu)⟩
  | [], _ :: _, hl, _ => by simp at hl
  | _ :: _, [], hl, _ => by simp at hl

theorem enters_run {f : Nat} (h : Enters P f) (args : Array Value) (w : World) : (callFunc f args).run P w = .ok (.enter f args) w := by
  obtain ⟨fn, hf, hn, hb⟩ := h
  have h1 : fn.name ≠ "runtime.NumGoroutine" := by simpa using hn
  obtain ⟨c, hc⟩ := Option.isSome_iff_exists.1 hb
  simp [callFunc, hf, h1, hc]

theorem aOp_ok (hF : Fits P G.U G.ti) {con : Nat → Option (Con G.U.El)} (hcon : ∀ f c, con f = some c → ConOk P G.U f c) {n : Nat} {o : Oper} {e : Nat → V G.U.El} {a : Act} (hE : ER G.U B ι m w e a)
    (hm : MR G.U B S ι m w) (hS : ∀ k, w.heap.size ≤ k → S k) (hSB : ∀ k, S k → B k) (h : aOp G con n o e m K = some r) : OpOk P G B S ι m w (execOp a.eval o) K r := by
  unfold aOp at h
  unfold execOp
  simp only [] at h ⊢
  split at h <;> (try (rename_i heq; rw [heq]; dsimp only))
  · exact .inl ⟨_, _, ι, m, w, .inl rfl, h, opv_ok hE _, Grow.refl, hm, Fr.refl _ _⟩
  · exact .inl ⟨_, _, ι, m, w, .inl rfl, h, opv_ok hE _, Grow.refl, hm, Fr.refl _ _⟩
  · -- pick
    rename_i c x y
    split at h
    · rename_i t hc
      have hv := opv_ok hE c
      rw [hc] at hv
      have hcv := vr_sc hv
      rcases cond_some.1 h with ⟨rfl, h⟩ | ⟨rfl, h⟩
      · exact .inl ⟨_, _, ι, m, w, .inl (by simp [hcv, asBool]), h, opv_ok hE _, Grow.refl, hm, Fr.refl _ _⟩
      · exact .inl ⟨_, _, ι, m, w, .inl (by simp [hcv, asBool]), h, opv_ok hE _, Grow.refl, hm, Fr.refl _ _⟩
    · cases h
  · -- alloc
    split at h
    · rename_i t x hx
      exact .ofM (fun u w' hr => by simp [hr]) (aAlloc_ok (K2 := fun x m' => K (.w x) m') hF hm hS hx h)
    · cases h
  · -- box
    rename_i t x
    split at h
    · rename_i y z hv hz
      split at h
      · have hv' := opv_ok hE x
        rw [hv] at hv'
        exact .ofM (fun u w' hr => by simp [hr]) (aBox_ok (K2 := fun x m' => K (.w x) m') hF hm hS hv' h)
      · cases h
    · cases h
  · -- build
    rename_i t ps
    refine .ofP hm (s := Instr.build t (ps.map fun p => (p.1, a.eval p.2))) (fun u w' hr => by simp [hr]) (aBuild_ok hF ?_ h)
    have := ps_ok hE ps.toList
    simpa using this
  · -- buildSlice
    rename_i t len ps
    refine .ofM (s := Instr.buildSlice t len (ps.map fun p => (p.1, a.eval p.2))) (fun u w' hr => by simp [hr]) (aBuildSlice_ok (K2 := fun x m' => K (.w x) m') hF hm hS (fun k hk => hSB k (hS k hk)) ?_ h)
    have := ps_ok hE ps.toList
    simpa using this
  · -- load
    rename_i t x
    exact .ofP hm (s := Instr.loadAt t (a.eval x)) (fun u w' hr => by simp [hr]) (aLoad_ok hF hm (opv_ok hE x) h)
  · -- store
    rename_i t x y
    split at h
    · rename_i m' hst
      obtain ⟨w', h1, h2, h3, h4⟩ := aStore_ok hF hm (opv_ok hE x) (opv_ok hE y) hst
      exact .inl ⟨.und, undef, ι, m', w', .inr ⟨by simp [h1], rfl⟩, h, rfl, h2, h3, h4⟩
    · cases h
  · -- nilCheck
    rename_i x
    have hv := opv_ok hE x
    split at h
    · rename_i p q hx
      rw [hx] at hv
      obtain ⟨h1, β, h2, h3⟩ := hv
      exact .inl ⟨_, _, ι, m, w, .inl (by rw [h3]; rfl), h, ⟨h1, β, h2, rfl⟩, Grow.refl, hm, Fr.refl _ _⟩
    · rename_i p q i off hx
      rw [hx] at hv
      obtain ⟨h1, g, n, c, h2, h3, h4⟩ := hv
      exact .inl ⟨_, _, ι, m, w, .inl (by rw [h4]; rfl), h, ⟨h1, g, n, c, h2, h3, rfl⟩, Grow.refl, hm, Fr.refl _ _⟩
    · rename_i f cs hx
      rw [hx] at hv
      obtain ⟨vs, h1, h2, h3⟩ := hv
      exact .inl ⟨_, _, ι, m, w, .inl (by rw [h1]; rfl), h, ⟨vs, rfl, h2, h3⟩, Grow.refl, hm, Fr.refl _ _⟩
    · cases h
  · -- binOp
    rename_i op t x y ty
    exact .ofP hm (s := do eqGuard op t x y (a.eval x) (a.eval y); binOp op t (a.eval x) (a.eval y)) (fun u w' hr => by simp only [Sem.run_bind] at hr ⊢; rw [hr]; rfl) (aBin_ok hF (opv_ok hE x) (opv_ok hE y) h)
  · -- unOp
    rename_i op t x
    exact .ofP hm (s := Op.unary op (a.eval x)) (fun u w' hr => by simp [hr]) (aUn_ok (opv_ok hE x) h)
  · -- convert
    rename_i s d x
    exact .ofP hm (s := convert s d (a.eval x)) (fun u w' hr => by simp [hr]) (aConvert_ok hF hm (opv_ok hE x) h)
  · -- makeFunc
    rename_i f first caps
    split at h
    · rename_i hfs
      split at h
      · rename_i cs hcs
        obtain ⟨h1, h2⟩ := caps_ok (vs_ok hE caps.toList) hcs
        have hfe : first = #[] := Array.eq_empty_of_size_eq_zero hfs
        subst hfe
        refine .inl ⟨_, .func (.func f) #[] (caps.map a.eval), ι, m, w, .inl (by simp [Instr.makeFunc]), h, ⟨caps.toList.map a.eval, by rw [← Array.toList_map, Array.toArray_toList], h1, h2⟩, Grow.refl, hm, Fr.refl _ _⟩
      · cases h
    · cases h
  · -- makeSlice
    rename_i t x y
    exact .ofM (s := Instr.makeSlice t (a.eval x) (a.eval y)) (fun u w' hr => by simp [hr]) (aMake_ok (K2 := fun x m' => K (.w x) m') hF hm hS (fun k hk => hSB k (hS k hk)) (opv_ok hE x) (opv_ok hE y) h)
  · -- slice
    rename_i t x lo hi mx
    exact .ofP hm (s := Instr.sliceAt t (a.eval x) (lo.map a.eval) (hi.map a.eval) (mx.map a.eval)) (fun u w' hr => by simp [hr]) (aSlice_ok hF hm (opv_ok hE x) (ovr_ok hE lo) (ovr_ok hE hi) (ovr_ok hE mx) h)
  · -- fieldAddr
    rename_i t x f
    exact .ofP hm (s := Instr.fieldAt t (a.eval x) f) (fun u w' hr => by simp [hr]) (aFieldAddr_ok hF (opv_ok hE x) h)
  · -- field
    rename_i t x f
    exact .ofP hm (s := Instr.field t (a.eval x) f) (fun u w' hr => by simp [hr]) (aField_ok hF (opv_ok hE x) h)
  · -- indexAddr
    rename_i t x i
    exact .ofP hm (s := Instr.indexAt t (a.eval x) (a.eval i)) (fun u w' hr => by simp [hr]) (aIndexAddr_ok hF hm (opv_ok hE x) (opv_ok hE i) h)
  · -- index
    rename_i t x i
    exact .ofP hm (s := Instr.index t (a.eval x) (a.eval i)) (fun u w' hr => by simp [hr]) (aIndex_ok hF (opv_ok hE x) (opv_ok hE i) h)
  · -- extract
    rename_i t i
    have hv := opv_ok hE t
    split at h
    · rename_i ws ht
      rw [ht] at hv
      obtain ⟨vs, h1, h2⟩ := hv
      split at h
      · rename_i x hx
        obtain ⟨v, h3, h4⟩ := h2.get hx
        exact .inl ⟨.w x, v, ι, m, w, .inl (by rw [h1]; simp [Instr.extract, h3]), h, h4, Grow.refl, hm, Fr.refl _ _⟩
      · cases h
    · cases h
  · -- a call
    rename_i c
    have bi : ∀ b, c.callee = .builtin b → (do let d ← resolve a.eval c o.type; invoke d.target d.args : Sem Next) = builtin b c.argTypes o.type (c.args.map fun | .const _ => true | _ => false) (c.args.map a.eval) := by
      intro b hb
      simp only [resolve, hb]
      rfl
    split at h
    · rename_i hc
      split at h
      · rename_i t x ht hx
        have e1 : c.argTypes = #[t] := Array.ext' (by simpa using ht)
        have e2 : c.args = #[x] := Array.ext' (by simpa using hx)
        rw [bi _ hc, e1, e2]
        exact .ofP hm (s := Builtin.len_ #[t] o.type #[a.eval x]) (fun u w' hr => by simp [builtin, hr]) (aLen_ok hF hm (opv_ok hE x) h)
      · cases h
    · rename_i hc
      split at h
      · rename_i t t' s x ht hx
        split at h
        · rename_i htt
          subst htt
          have e1 : c.argTypes = #[t', t'] := Array.ext' (by simpa using ht)
          have e2 : c.args = #[s, x] := Array.ext' (by simpa using hx)
          rw [bi _ hc, e1, e2]
          exact .ofM (s := Builtin.append_ #[t', t'] o.type #[a.eval s, a.eval x]) (fun u w' hr => by simp [builtin, hr]) (aAppend_ok (K2 := fun x m' => K (.w x) m') hF hm hS (opv_ok hE s) (opv_ok hE x) h)
        · cases h
      · cases h
    · rename_i hc
      split at h
      · rename_i x y hx
        have e2 : c.args = #[x, y] := Array.ext' (by simpa using hx)
        rw [bi _ hc, e2]
        have := aMinMax_ok (P := P) (ts := c.argTypes) (t := o.type) (opv_ok hE x) (opv_ok hE y) h
        exact .ofP hm (fun u w' hr => by simp only [if_true] at hr; simp [builtin, hr]) this
      · cases h
    · rename_i hc
      split at h
      · rename_i x y hx
        have e2 : c.args = #[x, y] := Array.ext' (by simpa using hx)
        rw [bi _ hc, e2]
        have := aMinMax_ok (P := P) (ts := c.argTypes) (t := o.type) (opv_ok hE x) (opv_ok hE y) h
        exact .ofP hm (fun u w' hr => by simp only [Bool.false_eq_true, if_false] at hr; simp [builtin, hr]) this
      · cases h
    · rename_i f hc
      split at h
      · rename_i g caps hg
        have hv := opv_ok hE f
        rw [hg] at hv
        obtain ⟨vs, h1, h2, h3⟩ := hv
        unfold aCall at h
        split at h
        · cases h
        · rename_i cn hcn
          split at h
          · cases h
          · rename_i x hx
            split at h
            case isFalse => cases h
            rename_i hco
            obtain ⟨y, hy, h⟩ := Option.bind_eq_some_iff.1 h
            simp only [callOk, Bool.and_eq_true, decide_eq_true_eq, List.all_eq_true, Bool.not_eq_true'] at hco
            obtain ⟨⟨hlt, _⟩, hnd, hus⟩ := hco
            have hlt : g < 65536 := Nat.le_of_ble_eq_true hlt
            have hok := hcon _ cn hcn
            have hkey : ∀ vs : List (V G.U.El), keyOf g vs % 65536 = g := fun vs => by unfold keyOf; omega
            have hargs := (vs_ok hE c.args.toList).app (ptrsOf_ok h2 h3)
            have hcall := call_ok hF hm hS hSB hok hargs hx hnd (fun i hi hmem => by
              have := hus i hi
              rw [List.contains_iff_mem.2 hmem] at this
              cases this) hy (own := ownD G o.dst || !cn.quiet) (fun hq => by rw [hq]; simp) rfl rfl
            rw [hkey] at hcall
            refine .inr ⟨g, ((c.args.toList.map a.eval) ++ vs).toArray, ?_, ?_⟩
            · have : c.args.map a.eval ++ vs.toArray = ((c.args.toList.map a.eval) ++ vs).toArray := by
                apply Array.ext'
                simp
              simp only [resolve, hc, h1, Deferred.ofValue, Sem.run_bind, Sem.run_pure, Result.andThen_ok, invoke, Array.empty_append, this]
              have hen := hok.enters
              rw [hkey] at hen
              exact enters_run hen _ _
            · refine Calls.mono hcall ?_
              rintro e' w' ⟨u, ι', rfl, h4, h5, h6, h7⟩
              exact ⟨_, u, ι', _, rfl, h, h4, h5, h6, h7⟩
      · cases h
    · cases h
  · cases h
end
end Go.Proofs.Ytigoabhkdipdeaa.AM
