/- A part of the plain reading of Go's code: what a function's code comes to, by a plain function. No condition. -/
import Derived.Test.YtigoabhkdipdeaaZAS
namespace Go.Proofs.Ytigoabhkdipdeaa.AM
open Go.RowKit
variable {ρ : Type}

section
variable {P : Program} {G : Cfg} {B : Nat → Prop} {S : Nat → Prop} {ι : Nat → Value} {m : List (Blk G.U.El)} {w : World} {r : ρ} {K : W G.U.El → Option ρ} {K2 : W G.U.El → List (Blk G.U.El) → Option ρ}

theorem own_slice {w : World} {base e size n : Nat} {v : Value} {xs : List Value} (h : w.ownsRow base e size v n xs) : v.oneCell' = true ∧ v.ownBlock = ownOf v := by
  rcases h.2 with ⟨rfl, _⟩ | ⟨g, cap, cur, rfl, _⟩ <;> exact ⟨rfl, rfl⟩

theorem append_none (w : World) (t ty e : TypeId) (i : TypeInfo) (size : Nat) (ht : P.underlying t = some (.slice e)) (hi : P.info? e = some i) (v : Value) (n c : Nat) (xs : List Value) (hown : w.ownsRow 0 e size v n xs) :
    (Builtin.append_ #[t, t] ty #[v, .slice none 0 c]).run P w = .ok v w := by
  rcases hown.2 with ⟨rfl, rfl⟩ | ⟨g, cap, cur, rfl, _, _, hnc, _⟩
  · simp [Builtin.append_, run_underlying ht, sizeOf, typeInfo, hi, Builtin.lenOf, Builtin.firstCells]
  · simp [Builtin.append_, run_underlying ht, sizeOf, typeInfo, hi, Builtin.lenOf, Builtin.firstCells, hnc, storeCells]

theorem aMinMax_ok {mn : Bool} {x y : V G.U.El} {ux uy : Value} {ts : Array TypeId} {t : Nat} (hx : VR G.U B ι m w x ux) (hy : VR G.U B ι m w y uy) (h : aMinMax G mn x y K = some r) :
    RunsP P G B ι m w (if mn then Builtin.min_ ts t #[ux, uy] else Builtin.max_ ts t #[ux, uy]) K r := by
  unfold aMinMax at h
  split at h
  · rename_i k a k' b
    cases vr_sc hx
    cases vr_sc hy
    split at h
    · rename_i hk
      subst hk
      cases mn
      · refine ⟨_, _, ?_, h, wr_sc rfl⟩
        rw [if_neg (by simp), run_max_int2]
        congr 2
        simp only [Bool.false_eq_true, if_false]
        omega
      · refine ⟨_, _, ?_, h, wr_sc rfl⟩
        rw [if_pos rfl, run_min_int2]
        congr 2
        simp only [if_true]
        omega
    · cases h
  · cases h

theorem aAppend_ok (hF : Fits P G.U G.ti) (hm : MR G.U B S ι m w) (hS : ∀ k, w.heap.size ≤ k → S k) {t ty : Nat} {s x : V G.U.El} {us ux : Value} (hs : VR G.U B ι m w s us) (hx : VR G.U B ι m w x ux)
    (h : aAppend G t s x m K2 = some r) : RunsM P G B S ι m w (Builtin.append_ #[t, t] ty #[us, ux]) K2 r := by
  unfold aAppend at h
  split at h
  case h_2 => cases h
  rename_i e s x ht
  split at h
  case h_2 => cases h
  rename_i new y hnew hy
  obtain ⟨A, capx, rfl, hrd, _⟩ := rowOf_ok hF hm hx hnew
  obtain ⟨hu, y', hy', hsz, h0, h0'⟩ := tyOf_ok hF ht
  rw [hy] at hy'
  cases hy'
  obtain ⟨i, z, hi, hisz, hiby, hz, hzc, _⟩ := (hF.ti e y hy).info
  have hel : zvals G.U y.zero = G.U.cells e (G.U.dflt e) := by
    obtain ⟨q, hq, hty⟩ := Option.map_eq_some_iff.1 ht
    exact (hF.ti t q hq).el e 0 (.inl hty) y hy
  have hzs : z.cells.size = G.U.sz e := by rw [← Array.length_toList, hzc, hel]; rfl
  have hpos : 0 < G.U.sz e := by omega
  -- an append to a row of the call's own
  have own : ∀ (v : Value) (l : List (G.U.El e)), w.ownsRow 0 e (G.U.sz e) v l.length (flat G.U e l) → (l.length + new.length) * y.bytes ≤ 140737488355328 →
      ∃ v' w', (Builtin.append_ #[t, t] ty #[v, .slice A new.length capx]).run P w = .ok v' w' ∧ w'.ownsRow 0 e (G.U.sz e) v' (l ++ new).length (flat G.U e (l ++ new)) ∧ w.grownBy w' v.ownBlock ∧
        (v'.ownBlock = v.ownBlock ∨ v'.ownBlock = some w.heap.size) := by
    intro v l hown hb
    cases A with
    | none =>
      have hn : new = [] := by
        cases new with
        | nil => rfl
        | cons q qs =>
          have : 0 < (flat G.U e (q :: qs)).length := by rw [flat_len hF.U]; exact Nat.mul_pos (by simp) hpos
          obtain ⟨b, o, hA, _⟩ := hrd 0 _ (List.getElem?_eq_getElem this)
          cases hA
      subst hn
      refine ⟨v, w, ?_, by simpa using hown, ⟨rfl, rfl, rfl, Nat.le_refl _, fun _ _ _ => rfl⟩, .inl rfl⟩
      exact append_none w t ty e i (G.U.sz e) hu hi v l.length capx _ hown
    | some a =>
      have hle : l.length + new.length ≤ maxLen := by
        have : (l.length + new.length) * 1 ≤ (l.length + new.length) * y.bytes := Nat.mul_le_mul_left _ h0'
        simp only [maxLen]
        omega
      obtain ⟨v', w', h1, h2, h3, _, h5⟩ := run_append_own_at (P := P) w 0 t ty e i z (G.U.sz e) y.bytes hu hi hz (hisz.trans hsz) hiby hzs hpos v l.length _ hown a new.length capx (flat G.U e new) (flat_len hF.U _ _) (fun j u hj => by
        obtain ⟨b, o, hA, hc⟩ := hrd j u hj
        cases hA
        rw [Addr.add_lit]
        exact hc) (flat_one hF.U e new) hle hb (Nat.zero_le _)
      exact ⟨v', w', h1, by rw [List.length_append, flat_append]; exact h2, h3, h5⟩
  split at h
  · rename_i id
    obtain ⟨hid, rfl, _⟩ := hs
    split at h
    · rename_i e' l hm'
      split at h
      · rename_i he
        subst he
        obtain ⟨hb, h⟩ := cond_y.1 h
        simp only [decide_eq_true_eq] at hb
        have hbl := hm.blk _ _ hm'
        simp only [BR] at hbl
        obtain ⟨v', w', h1, h2, h3, h4⟩ := own _ l hbl hb
        have hov := (own_slice hbl).2
        have hov' := own_slice h2
        have hlen : (m.set id (.dead : Blk G.U.El)).length = m.length := List.length_set
        have hlast : ∀ b, (m.set id .dead ++ [Blk.da e' (l ++ new)])[m.length]? = some b → b = .da e' (l ++ new) := by
          intro b hb
          rw [List.getElem?_append_right (by rw [hlen]; exact Nat.le_refl _)] at hb
          simpa [hlen] using hb.symm
        have hu := hm.upd (m' := m.set id .dead ++ [.da e' (l ++ new)]) (ι' := updι ι m.length v') (w' := w') (fun k => ownOf (ι id) = some k) (by simp) (fun i hi => by simp [updι, Nat.ne_of_lt hi]) h3.size
          (fun k hk hne => h3.block k hk (by rw [hov]; exact fun e => hne e.symm)) (fun k hk => ⟨id, _, hm', trivial, hk⟩) (fun i => i = m.length)
          (fun i b hb hlb hne => by
            have hlt := (List.getElem?_eq_some_iff.1 hb).1
            simp only [List.length_append, hlen, List.length_cons, List.length_nil] at hlt
            have hlt' : i < m.length := by omega
            rw [List.getElem?_append_left (by rw [hlen]; exact hlt')] at hb
            by_cases hii : i = id
            · subst hii
              rw [List.getElem?_set_self hlt'] at hb
              cases hb
              exact hlb.elim
            · rw [List.getElem?_set_ne (Ne.symm hii)] at hb
              exact ⟨hlt', hb, fun k hk hk' => hii (hm.inj i id b _ k hb hm' hlb trivial hk hk')⟩)
          (fun i b k hb hlb hi hk => by
            subst hi
            simp only [updι, if_true] at hk
            rw [← hov'.2] at hk
            rcases h4 with h4 | h4
            · rw [h4, hov] at hk
              exact ⟨.inl hk, hm.inS id _ k hm' trivial hk⟩
            · rw [h4] at hk
              cases hk
              exact ⟨.inr (Nat.le_refl _), hS _ (Nat.le_refl _)⟩)
          (fun i j _ _ _ _ _ _ _ hi hj _ _ => hi.trans hj.symm)
          (fun _ i b hb _ hi => by
            subst hi
            cases hlast b hb
            simpa [BR, updι] using h2)
        refine ⟨_, v', _, _, w', h1, h, ⟨by simp, by simp [updι], hov'.1⟩, hu.1, hu.2, Fr.of_grown h3 fun k hk => hm.inS id _ k hm' trivial (by rw [← hov]; exact hk)⟩
      · cases h
    · cases h
  · rename_i e' l loc
    split at h
    · rename_i he
      subst he
      obtain ⟨A0, cap0, rfl, hle0, hrd0, htg⟩ := hs
      have hcap := htg rfl
      subst hcap
      rcases cond_some.1 h with ⟨h1, h⟩ | ⟨h1, h⟩
      · obtain ⟨hb, h⟩ := cond_y.1 h
        simp only [decide_eq_true_eq] at hb h1
        have hpn : 0 < (flat G.U e' new).length := by rw [flat_len hF.U]; exact Nat.mul_pos h1 hpos
        obtain ⟨b, o, hA, _⟩ := hrd 0 _ (List.getElem?_eq_getElem hpn)
        subst hA
        have fin : ∀ v' w', (Builtin.append_ #[t, t] ty #[.slice A0 l.length l.length, .slice (some ⟨b, o, none⟩) new.length capx]).run P w = .ok v' w' → w'.ownsRow 0 e' (G.U.sz e') v' (l ++ new).length (flat G.U e' (l ++ new)) →
            w.grownBy w' none → (∀ k, ownOf v' = some k → w.heap.size ≤ k) → RunsM P G B S ι m w (Builtin.append_ #[t, t] ty #[.slice A0 l.length l.length, .slice (some ⟨b, o, none⟩) new.length capx]) K2 r := by
          intro v' w' h2 h3 h4 h5
          have := newOwn_ok hm hS (w' := w') (l := l ++ new) (v := v') h5 (own_slice h3).1 h4 h3
          exact ⟨_, v', _, _, w', h2, h, this⟩
        cases A0 with
        | none =>
          have hn : l = [] := by
            cases l with
            | nil => rfl
            | cons q qs =>
              have : 0 < (flat G.U e' (q :: qs)).length := by rw [flat_len hF.U]; exact Nat.mul_pos (by simp) hpos
              obtain ⟨b, o, hA, _⟩ := hrd0 0 _ (List.getElem?_eq_getElem this)
              cases hA
          subst hn
          obtain ⟨v', w', h2, h3, h4, h5⟩ := own (.slice none 0 0) [] (World.ownsRow_nil w 0 e' _) hb
          exact fin v' w' h2 h3 h4 (fun k hk => by
            rw [← (own_slice h3).2] at hk
            rcases h5 with h5 | h5
            · rw [h5] at hk; cases hk
            · rw [h5] at hk; cases hk; exact Nat.le_refl _)
        | some a0 =>
          have hle : l.length + new.length ≤ maxLen := by
            have : (l.length + new.length) * 1 ≤ (l.length + new.length) * y.bytes := Nat.mul_le_mul_left _ h0'
            simp only [maxLen]
            omega
          have hrun := run_append_grow (P := P) w t ty e' i z hu hi hz a0 l.length l.length (flat G.U e' l) (by rw [flat_len hF.U, hisz, hsz]) (fun j u hj => by
              obtain ⟨b, o, hA, hc, _⟩ := hrd0 j u hj
              cases hA
              rw [Addr.add_lit]
              exact hc) ⟨b, o, none⟩ new.length capx (flat G.U e' new) (by rw [flat_len hF.U, hisz, hsz]) (fun j u hj => by
              obtain ⟨b, o, hA, hc⟩ := hrd j u hj
              cases hA
              rw [Addr.add_lit]
              exact hc) (by omega) (by simp only [maxLen] at hle; omega) (growslice_fits (by omega) (by rw [hiby]; exact hb))
          have hge := grownCap_ge w (l.length + new.length) l.length e'
          have hcm := grownCap_le_maxLen w (l.length + new.length) l.length e' hle
          refine fin _ _ hrun ⟨flat_len hF.U _ _, .inr ⟨w.heap.size, _, _, by rw [List.length_append], Nat.zero_le _, heap_alloc_new w.drew _, by rw [List.length_append]; exact hge, hcm, ?_, ?_⟩⟩ ⟨rfl, rfl, rfl, by simp, fun k hk _ => heap_alloc_old w.drew _ k hk⟩ (fun k hk => by cases hk; exact Nat.le_refl _)
          · simp only [Array.size_append, List.size_toArray, size_zeroCells, hzs, flat_len hF.U, ← Nat.add_mul]
            congr 1
            omega
          · simp only [Array.toList_append, List.append_assoc]
            rw [← List.append_assoc, ← flat_append, ← flat_len hF.U]
            exact List.take_left
      · simp only [decide_eq_false_iff_not, Nat.not_lt, Nat.le_zero_eq] at h1
        have hn : new = [] := List.eq_nil_of_length_eq_zero h1
        subst hn
        refine ⟨_, .slice A0 l.length l.length, ι, m, w, ?_, h, ⟨A0, l.length, rfl, Nat.le_refl _, hrd0, fun _ => rfl⟩, Grow.refl, hm, Fr.refl _ _⟩
        have hf : ∀ A : Option Addr, (Builtin.firstCells i.size 0 (.slice A 0 capx)).run P w = .ok #[] w := by
          intro A
          cases A with
          | none => exact run_firstCells_none (P := P) w _ _ _ _
          | some a => exact run_firstCells_some (P := P) w i.size 0 a 0 capx [] (by simp) (fun j v hj => by simp at hj)
        cases A0 <;> simp [Builtin.append_, run_underlying hu, sizeOf, typeInfo, hi, Builtin.lenOf, hf, storeCells]
    · cases h
  · obtain ⟨rfl, _⟩ := hs
    obtain ⟨hb, h⟩ := cond_y.1 h
    simp only [decide_eq_true_eq] at hb
    obtain ⟨v', w', h1, h2, h3, h4⟩ := own (.slice none 0 0) [] (World.ownsRow_nil w 0 e _) (by simpa using hb)
    have hov' := own_slice h2
    have := newOwn_ok hm hS (w' := w') (l := new) (v := v') (fun k hk => by
      rw [← hov'.2] at hk
      rcases h4 with h4 | h4
      · rw [h4] at hk; cases hk
      · rw [h4] at hk; cases hk; exact Nat.le_refl _) hov'.1 h3 h2
    exact ⟨_, v', _, _, w', h1, h, this⟩
  · cases h
end
end Go.Proofs.Ytigoabhkdipdeaa.AM
