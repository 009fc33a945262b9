/- A part of the plain reading of Go's code: what a function's code comes to, by a plain function. No condition. -/
import Derived.Test.YtigoabhkdipdeaaZAO
import Derived.Laws.Strings
import Derived.Laws.Strings2
import Derived.Laws.Strings3
import Derived.Laws.MakeOwn
namespace Go.Proofs.Ytigoabhkdipdeaa.AM
open Go.RowKit
variable {ρ : Type}

section
variable (P : Program) (G : Cfg) (B : Nat → Prop) (S : Nat → Prop) (ι : Nat → Value) (m : List (Blk G.U.El)) (w : World)
/-- An operation that may make or write blocks. -/
def RunsM (s : Sem Value) (K : W G.U.El → List (Blk G.U.El) → Option ρ) (r : ρ) : Prop :=
  ∃ x u ι' m' w', s.run P w = .ok u w' ∧ K x m' = some r ∧ WR G.U B ι' m' w' x u ∧ Grow G.U ι m w ι' m' w' ∧ MR G.U B S ι' m' w' ∧ Fr S w w'
end

section
variable {P : Program} {G : Cfg} {B : Nat → Prop} {S : Nat → Prop} {ι : Nat → Value} {m : List (Blk G.U.El)} {w : World} {r : ρ} {K : W G.U.El → Option ρ} {K2 : W G.U.El → List (Blk G.U.El) → Option ρ}

theorem fieldOf_ok (hF : Fits P G.U G.ti) {t f o ft : Nat} (h : fieldOf G t f = some (o, ft)) : ∃ F fl, P.underlying t = some (.struct F) ∧ F[f]? = some fl ∧ fl.offset = o ∧ fl.type = ft := by
  unfold fieldOf Cfg.tyOf at h
  split at h
  · rename_i fs hfs
    obtain ⟨x, hx, hty⟩ := Option.map_eq_some_iff.1 hfs
    have hti := (hF.ti t x hx).ty
    rw [hty] at hti
    obtain ⟨F, h1, rfl, _⟩ := hti
    rw [List.getElem?_map] at h
    obtain ⟨fl, h2, h3⟩ := Option.map_eq_some_iff.1 h
    simp only [Array.getElem?_toList] at h2
    cases h3
    exact ⟨F, fl, h1, h2, rfl, rfl⟩
  · cases h

theorem aFieldAddr_ok (hF : Fits P G.U G.ti) {t f : Nat} {x : V G.U.El} {u : Value} (hx : VR G.U B ι m w x u) (h : aFieldAddr G t f x K = some r) : RunsP P G B ι m w (Instr.fieldAt t u f) K r := by
  unfold aFieldAddr at h
  split at h
  · cases h
  rename_i o ft hf
  obtain ⟨F, fl, h1, h2, h3, h4⟩ := fieldOf_ok hF hf
  split at h
  · cases h
  rename_i hsz
  have hy : ∃ y, G.ti ft = some y ∧ y.size ≠ 0 := by
    cases hy : G.ti ft with
    | none => simp [hy] at hsz
    | some y => exact ⟨y, rfl, by simpa [hy] using hsz⟩
  obtain ⟨y, hy, hy0⟩ := hy
  have run : ∀ b off, u = .pointer (some ⟨b, off, none⟩) → (Instr.fieldAt t u f).run P w = .ok (.pointer (some ⟨b, off + o, none⟩)) w := by
    intro b off hu
    rw [hu]
    simp [Instr.fieldAt, run_underlying h1, h2, Instr.sureAddr, fieldPlace, h4, sizeOf_run (hF.ti ft y hy), hy0, h3, Addr.add_lit]
  split at h
  · obtain ⟨hid, β, e1, e2⟩ := hx
    exact ⟨_, _, run _ _ e2, h, hid, β, e1, rfl⟩
  · obtain ⟨hid, g, n, c, e1, e2, e3⟩ := hx
    exact ⟨_, _, run _ _ e3, h, hid, g, n, c, e1, e2, by rw [Nat.add_assoc]⟩
  · obtain ⟨hid, e0, β, e1, e2⟩ := hx
    exact ⟨_, _, run _ _ e2, h, hid, e0, β, e1, by rw [Nat.add_assoc]⟩
  · obtain ⟨hi, b, o', e1, e2⟩ := hx
    exact ⟨_, _, run _ _ e1, h, hi, b, o', by rw [Nat.add_assoc, Nat.add_assoc], e2⟩
  · cases h

theorem aField_ok (hF : Fits P G.U G.ti) {t f : Nat} {x : V G.U.El} {u : Value} (hx : VR G.U B ι m w x u) (h : aField G t f x K = some r) : RunsP P G B ι m w (Instr.field t u f) K r := by
  unfold aField at h
  split at h
  · rename_i o ft cs hf
    obtain ⟨F, fl, h1, h2, h3, h4⟩ := fieldOf_ok hF hf
    obtain ⟨vs, e1, e2⟩ := hx
    split at h
    · rename_i y hy
      cases hz : (getAt G.U cs o y.size).bind (mkW y) with
      | none => rw [hz] at h; cases h
      | some z =>
        rw [hz] at h
        obtain ⟨cs', h5, h6⟩ := Option.bind_eq_some_iff.1 hz
        obtain ⟨h7, h8⟩ := getAt_ok hF.U h5 e2
        obtain ⟨v, h9, h10⟩ := part_ok (hF.ti ft y hy) vs o h7 h8 h6
        exact ⟨z, v, by rw [e1]; simp [Instr.field, run_underlying h1, h2, asAgg, h4, h3, h9], h, h10⟩
    · cases h
  · cases h

theorem aLen_ok (hF : Fits P G.U G.ti) (hm : MR G.U B S ι m w) {t ty : Nat} {x : V G.U.El} {u : Value} (hx : VR G.U B ι m w x u) (h : aLen G t x m K = some r) : RunsP P G B ι m w (Builtin.len_ #[t] ty #[u]) K r := by
  unfold aLen Cfg.tyOf at h
  have hs : ∀ s : ByteArray, G.tyOf t = some .str → (Builtin.len_ #[t] ty #[.string s]).run P w = .ok (.int .i64 (s.size : Int)) w := by
    intro s ht
    obtain ⟨y, hy, hty⟩ := Option.map_eq_some_iff.1 ht
    have := (hF.ti t y hy).ty
    rw [hty] at this
    simp [Builtin.len_, run_underlying this, goInt]
  have hl : ∀ e A n c, G.tyOf t = some (.sl e) → (Builtin.len_ #[t] ty #[.slice A n c]).run P w = .ok (.int .i64 (n : Int)) w := by
    intro e A n c ht
    obtain ⟨y, hy, hty⟩ := Option.map_eq_some_iff.1 ht
    have := (hF.ti t y hy).ty
    rw [hty] at this
    simp [Builtin.len_, run_underlying this.1, goInt]
  split at h
  · rename_i s ht
    cases vr_sc hx
    exact ⟨_, _, hs s ht, h, wr_sc rfl⟩
  · rename_i e _ l _ _ ht
    obtain ⟨A, cap, rfl, _⟩ := hx
    exact ⟨_, _, hl _ _ _ _ ht, h, wr_sc rfl⟩
  · rename_i e _ _ _ n ht
    obtain ⟨_, A, cap, rfl, _⟩ := hx
    exact ⟨_, _, hl _ _ _ _ ht, h, wr_sc rfl⟩
  · rename_i e id ht
    obtain ⟨_, rfl, _⟩ := hx
    split at h
    · rename_i t' l hm'
      have hb := hm.blk _ _ hm'
      rcases hb.2 with ⟨h1, h2⟩ | ⟨g, cap, cur, h1, _⟩
      · rw [h1]
        exact ⟨_, _, hl _ _ _ _ ht, h, by rw [h2]; exact wr_sc rfl⟩
      · rw [h1]
        exact ⟨_, _, hl _ _ _ _ ht, h, wr_sc rfl⟩
    · cases h
  · rename_i e ht
    cases vr_sc hx
    exact ⟨_, _, hl _ _ _ _ ht, h, wr_sc rfl⟩
  · cases h


theorem tyOf_ok (hF : Fits P G.U G.ti) {t : Nat} {y : Ty} (h : G.tyOf t = some y) : TyOk P G.U G.ti t y := by
  obtain ⟨x, hx, hty⟩ := Option.map_eq_some_iff.1 h
  exact hty ▸ (hF.ti t x hx).ty

theorem aIndexAddr_ok (hF : Fits P G.U G.ti) (hm : MR G.U B S ι m w) {t : Nat} {x i : V G.U.El} {u ui : Value} (hx : VR G.U B ι m w x u) (hi : VR G.U B ι m w i ui) (h : aIndexAddr G t x i m K = some r) :
    RunsP P G B ι m w (Instr.indexAt t u ui) K r := by
  unfold aIndexAddr at h
  split at h
  case h_2 => cases h
  rename_i k i
  cases vr_sc hi
  have run : ∀ {e : Nat} {b o n c : Nat}, G.tyOf t = some (.sl e) → 0 ≤ i → i < (n : Int) → (Instr.indexAt t (.slice (some ⟨b, o, none⟩) n c) (.int k i)).run P w = .ok (.pointer (some ⟨b, o + i.toNat * G.U.sz e, none⟩)) w := by
    intro e b o n c ht h0 h1
    obtain ⟨h2, y, hy, hs, _⟩ := tyOf_ok hF ht
    simp [Instr.indexAt, run_underlying h2, asIntOf, h0, h1, sizeOf_run (hF.ti e y hy), hs, Addr.add_lit]
  split at h
  · rename_i e t' l tight loc ht
    split at h
    · rename_i he
      subst he
      obtain ⟨h0, h⟩ := cond_y.1 h
      obtain ⟨h1, h⟩ := cond_y.1 h
      simp only [decide_eq_true_eq] at h0 h1
      obtain ⟨A, cap, rfl, hc, hr, _⟩ := hx
      obtain ⟨h2, y, hy, hs, h3⟩ := tyOf_ok hF ht
      have hlt : i.toNat < l.length := by omega
      have h4 : 0 < (flat G.U e l).length := by rw [flat_len hF.U]; exact Nat.mul_pos (by omega) (by omega)
      obtain ⟨b, o, rfl, _⟩ := hr 0 _ (List.getElem?_eq_getElem h4)
      refine ⟨_, _, run ht h0 h1, h, hlt, b, o, rfl, fun j v hv => ?_⟩
      obtain ⟨b', o', e1, e2, e3, _⟩ := hr j v hv
      exact ⟨b', o', e1, e2, e3, fun e => by cases e⟩
    · cases h
  · rename_i e id ht
    split at h
    · rename_i t' l hm'
      split at h
      · rename_i he
        subst he
        obtain ⟨h0, h⟩ := cond_y.1 h
        obtain ⟨h1, h⟩ := cond_y.1 h
        simp only [decide_eq_true_eq] at h0 h1
        obtain ⟨hid, rfl, _⟩ := hx
        rcases (hm.blk _ _ hm').2 with ⟨e1, e2⟩ | ⟨g, cap, cur, e1, _⟩
        · omega
        · rw [e1]
          exact ⟨_, _, run ht h0 h1, h, hid, g, _, _, e1, by omega, by simp⟩
      · cases h
    · cases h
  · rename_i e id t' off len ht
    split at h
    · rename_i he
      subst he
      obtain ⟨h0, h⟩ := cond_y.1 h
      obtain ⟨h1, h⟩ := cond_y.1 h
      simp only [decide_eq_true_eq] at h0 h1
      obtain ⟨hid, A, cap, rfl, _, e2⟩ := hx
      obtain ⟨g, n, c, e3, e4, rfl⟩ := e2 (by omega)
      exact ⟨_, _, run ht h0 h1, h, hid, g, n, c, e3, by omega, by rw [Nat.add_mul]; rfl⟩
    · cases h
  · rename_i k' e id off ht
    obtain ⟨h0, h⟩ := cond_y.1 h
    obtain ⟨h1, h⟩ := cond_y.1 h
    simp only [decide_eq_true_eq] at h0 h1
    obtain ⟨hid, β, e1, rfl⟩ := hx
    obtain ⟨h2, y, hy, hs, _⟩ := tyOf_ok hF ht
    refine ⟨_, .pointer (some ⟨β, off + i.toNat * G.U.sz e + 0, none⟩), ?_, h, hid, by omega, β, e1, rfl⟩
    simp [Instr.indexAt, run_underlying h2, Instr.sureAddr, asIntOf, h0, h1, sizeOf_run (hF.ti e y hy), hs, Addr.add_lit]
  · cases h

theorem bt_ok (s : ByteArray) (i : Nat) (h : i < s.size) : bt s i = (s[i].toNat : Int) := by
  have h' : i < s.data.size := h
  unfold bt
  rw [Array.getD, dif_pos h']
  rfl

theorem aIndex_ok (hF : Fits P G.U G.ti) {t : Nat} {x i : V G.U.El} {u ui : Value} (hx : VR G.U B ι m w x u) (hi : VR G.U B ι m w i ui) (h : aIndex G t x i K = some r) :
    RunsP P G B ι m w (Instr.index t u ui) K r := by
  unfold aIndex at h
  split at h
  · rename_i s k i ht
    cases vr_sc hi
    cases vr_sc hx
    obtain ⟨h0, h⟩ := cond_y.1 h
    obtain ⟨h1, h⟩ := cond_y.1 h
    simp only [decide_eq_true_eq] at h0 h1
    have h2 := tyOf_ok hF ht
    have hlt : i.toNat < s.size := by omega
    refine ⟨_, _, ?_, h, wr_sc rfl⟩
    have : s[i.toNat]? = some s[i.toNat] := by simp [hlt]
    have hb : bt s i.toNat = (s[i.toNat].toNat : Int) := bt_ok s _ hlt
    simp [Instr.index, run_underlying h2, asIntOf, h0, this, hb]
  · rename_i k' e' e k l k2 i ht
    cases vr_sc hi
    split at h
    · rename_i y hy
      replace h := cond_y.1 h
      obtain ⟨h0, h⟩ := h
      replace h := cond_y.1 h
      obtain ⟨h1, h⟩ := h
      simp only [decide_eq_true_eq] at h0 h1
      split at h
      · rename_i hk
        subst hk
        split at h
        · rename_i he
          subst he
          obtain ⟨vs, rfl, a, r', e1, ⟨e2, e3⟩, e4⟩ := hx
          cases e4
          rw [List.append_nil] at e1
          rw [e3] at e1
          subst e1
          obtain ⟨h2, y', hy', hs, _⟩ := tyOf_ok hF ht
          rw [hy] at hy'
          cases hy'
          have hlt : i.toNat < l.length := by omega
          cases hz : (elemAt G e' (rd (G.U.dflt e') l i.toNat) 0 y.size).bind (mkW y) with
          | none => rw [hz] at h; cases h
          | some z =>
            rw [hz] at h
            obtain ⟨cs, h5, h6⟩ := Option.bind_eq_some_iff.1 hz
            obtain ⟨h7, h8⟩ := elem_cs (B := B) (ι := ι) (m := m) (w := w) hF.U h5
            have hfl := flat_at hF.U e' l i.toNat hlt (G.U.dflt e')
            rw [List.drop_zero, ← hfl, List.take_take, hs, Nat.min_self] at h8
            have hle : i.toNat * y.size + y.size ≤ (flat G.U e' l).length := by
              rw [flat_len hF.U, hs]
              calc i.toNat * G.U.sz e' + G.U.sz e' = (i.toNat + 1) * G.U.sz e' := by rw [Nat.add_mul]; omega
                _ ≤ l.length * G.U.sz e' := Nat.mul_le_mul_right _ hlt
            obtain ⟨v, h9, h10⟩ := part_ok (P := P) (hF.ti e' y hy) (flat G.U e' l) (i.toNat * y.size) hle (by rw [hs]; exact h8) h6
            exact ⟨z, v, by simp [Instr.index, run_underlying h2, asIntOf, h0, h1, sizeOf_run (hF.ti e' y hy), h9], h, h10⟩
        · cases h
      · cases h
    · cases h
  · cases h
end
end Go.Proofs.Ytigoabhkdipdeaa.AM
