/- A part of the plain reading of Go's code: what a function's code comes to, by a plain function. No condition. -/
import Derived.Test.YtnjmkkgmlkhjeaaZA0
import Derived.Laws.Strings
import Derived.Laws.Strings2
import Derived.Laws.Strings3
import Derived.Laws.MakeOwn
import Derived.Laws.Tables
import Derived.ChangeKeysEq
namespace Go.Proofs.Ytnjmkkgmlkhjeaa.AM
open Go.RowKit
variable {ρ : Type}

section
variable (P : Program) (G : Cfg) (B : Nat → Prop) (S : Nat → Prop) (ι : Nat → Value) (m : List (Blk G.U.El)) (w : World)
/-- An operation that may make or write blocks. -/
def RunsM (s : Sem Value) (K : W G.U.El → List (Blk G.U.El) → Option ρ) (r : ρ) : Prop :=
  ∃ x u ι' m' w', s.run P w = .ok u w' ∧ K x m' = some r ∧ WR G.U B ι' m' w' x u ∧ Grow G.U ι m w ι' m' w' ∧ MR G.U B S ι' m' w' ∧ Fr S w w'
end

section
variable {P : Program} {G : Cfg} {B : Nat → Prop} {S : Nat → Prop} {ι : Nat → Value} {m : List (Blk G.U.El)} {w : World} {r : ρ} {K : W G.U.El → Option ρ} {K2 : W G.U.El → List (Blk G.U.El) → Option ρ}

theorem fieldOf_ok (hF : Fits P G.U G.ti) {t f o ft : Nat} (h : fieldOf G t f = some (o, ft)) : ∃ F fl, P.underlying t = some (.struct F) ∧ F[f]? = some fl ∧ fl.offset = o ∧ fl.type = ft := by
  unfold fieldOf Cfg.tyOf at h
  split at h
  · rename_i fs hfs
    obtain ⟨x, hx, hty⟩ := Option.map_eq_some_iff.1 hfs
    have hti := (hF.ti t x hx).ty
    rw [hty] at hti
    obtain ⟨F, h1, rfl, _⟩ := hti
    rw [List.getElem?_map] at h
    obtain ⟨fl, h2, h3⟩ := Option.map_eq_some_iff.1 h
    simp only [Array.getElem?_toList] at h2
    cases h3
    exact ⟨F, fl, h1, h2, rfl, rfl⟩
  · cases h

theorem aFieldAddr_ok (hF : Fits P G.U G.ti) {t f : Nat} {x : V G.U.El} {u : Value} (hx : VR G.U B ι m w x u) (h : aFieldAddr G t f x K = some r) : RunsP P G B ι m w (Instr.fieldAt t u f) K r := by
  unfold aFieldAddr at h
  split at h
  · cases h
  rename_i o ft hf
  obtain ⟨F, fl, h1, h2, h3, h4⟩ := fieldOf_ok hF hf
  split at h
  · cases h
  rename_i hsz
  have hy : ∃ y, G.ti ft = some y ∧ y.size ≠ 0 := by
    cases hy : G.ti ft with
    | none => simp [hy] at hsz
    | some y => exact ⟨y, rfl, by simpa [hy] using hsz⟩
  obtain ⟨y, hy, hy0⟩ := hy
  have run : ∀ b off, u = .pointer (some ⟨b, off, none⟩) → (Instr.fieldAt t u f).run P w = .ok (.pointer (some ⟨b, off + o, none⟩)) w := by
    intro b off hu
    rw [hu]
    simp [Instr.fieldAt, run_underlying h1, h2, Instr.sureAddr, fieldPlace, h4, sizeOf_run (hF.ti ft y hy), hy0, h3, Addr.add_lit]
  split at h
  · obtain ⟨hid, β, e1, e2⟩ := hx
    exact ⟨_, _, run _ _ e2, h, hid, β, e1, rfl⟩
  · obtain ⟨hid, g, n, c, e1, e2, e3⟩ := hx
    exact ⟨_, _, run _ _ e3, h, hid, g, n, c, e1, e2, by rw [Nat.add_assoc]⟩
  · obtain ⟨hid, e0, β, e1, e2⟩ := hx
    exact ⟨_, _, run _ _ e2, h, hid, e0, β, e1, by rw [Nat.add_assoc]⟩
  · obtain ⟨hi, b, o', e1, e2⟩ := hx
    exact ⟨_, _, run _ _ e1, h, hi, b, o', by rw [Nat.add_assoc, Nat.add_assoc], e2⟩
  · cases h

theorem aField_ok (hF : Fits P G.U G.ti) {t f : Nat} {x : V G.U.El} {u : Value} (hx : VR G.U B ι m w x u) (h : aField G t f x K = some r) : RunsP P G B ι m w (Instr.field t u f) K r := by
  unfold aField at h
  split at h
  · rename_i o ft cs hf
    obtain ⟨F, fl, h1, h2, h3, h4⟩ := fieldOf_ok hF hf
    obtain ⟨vs, e1, e2⟩ := hx
    split at h
    · rename_i y hy
      cases hz : (getAt G.U cs o y.size).bind (mkW y) with
      | none => rw [hz] at h; cases h
      | some z =>
        rw [hz] at h
        obtain ⟨cs', h5, h6⟩ := Option.bind_eq_some_iff.1 hz
        obtain ⟨h7, h8⟩ := getAt_ok hF.U h5 e2
        obtain ⟨v, h9, h10⟩ := part_ok (hF.ti ft y hy) vs o h7 h8 h6
        exact ⟨z, v, by rw [e1]; simp [Instr.field, run_underlying h1, h2, asAgg, h4, h3, h9], h, h10⟩
    · cases h
  · cases h

theorem aLen_ok (hF : Fits P G.U G.ti) (hm : MR G.U B S ι m w) {t ty : Nat} {x : V G.U.El} {u : Value} (hx : VR G.U B ι m w x u) (h : aLen G t x m K = some r) : RunsP P G B ι m w (Builtin.len_ #[t] ty #[u]) K r := by
  unfold aLen Cfg.tyOf at h
  have hs : ∀ s : ByteArray, G.tyOf t = some .str → (Builtin.len_ #[t] ty #[.string s]).run P w = .ok (.int .i64 (s.size : Int)) w := by
    intro s ht
    obtain ⟨y, hy, hty⟩ := Option.map_eq_some_iff.1 ht
    have := (hF.ti t y hy).ty
    rw [hty] at this
    simp [Builtin.len_, run_underlying this, goInt]
  have hl : ∀ e A n c, G.tyOf t = some (.sl e) → (Builtin.len_ #[t] ty #[.slice A n c]).run P w = .ok (.int .i64 (n : Int)) w := by
    intro e A n c ht
    obtain ⟨y, hy, hty⟩ := Option.map_eq_some_iff.1 ht
    have := (hF.ti t y hy).ty
    rw [hty] at this
    simp [Builtin.len_, run_underlying this.1, goInt]
  split at h
  · rename_i s ht
    cases vr_sc hx
    exact ⟨_, _, hs s ht, h, wr_sc rfl⟩
  · rename_i e _ l _ _ ht
    obtain ⟨A, cap, rfl, _⟩ := hx
    exact ⟨_, _, hl _ _ _ _ ht, h, wr_sc rfl⟩
  · rename_i e _ _ _ n ht
    obtain ⟨_, A, cap, rfl, _⟩ := hx
    exact ⟨_, _, hl _ _ _ _ ht, h, wr_sc rfl⟩
  · rename_i e id ht
    obtain ⟨_, rfl, _⟩ := hx
    split at h
    · rename_i t' l hm'
      have hb := hm.blk _ _ hm'
      rcases hb.2 with ⟨h1, h2⟩ | ⟨g, cap, cur, h1, _⟩
      · rw [h1]
        exact ⟨_, _, hl _ _ _ _ ht, h, by rw [h2]; exact wr_sc rfl⟩
      · rw [h1]
        exact ⟨_, _, hl _ _ _ _ ht, h, wr_sc rfl⟩
    · cases h
  · rename_i e ht
    cases vr_sc hx
    exact ⟨_, _, hl _ _ _ _ ht, h, wr_sc rfl⟩
  · rename_i e id n ht
    obtain ⟨_, β, _, rfl⟩ := hx
    obtain ⟨y, hy, hty⟩ := Option.map_eq_some_iff.1 ht
    have := (hF.ti t y hy).ty
    rw [hty] at this
    exact ⟨_, _, (show _ = Result.ok (Value.int .i64 (n : Int)) w by simp [Builtin.len_, run_underlying this.1, goInt]), h, wr_sc rfl⟩
  · cases h


theorem tyOf_ok (hF : Fits P G.U G.ti) {t : Nat} {y : Ty} (h : G.tyOf t = some y) : TyOk P G.U G.ti t y := by
  obtain ⟨x, hx, hty⟩ := Option.map_eq_some_iff.1 h
  exact hty ▸ (hF.ti t x hx).ty

theorem aIndexAddr_ok (hF : Fits P G.U G.ti) (hm : MR G.U B S ι m w) {t : Nat} {x i : V G.U.El} {u ui : Value} (hx : VR G.U B ι m w x u) (hi : VR G.U B ι m w i ui) (h : aIndexAddr G t x i m K = some r) :
    RunsP P G B ι m w (Instr.indexAt t u ui) K r := by
  unfold aIndexAddr at h
  split at h
  case h_2 => cases h
  rename_i k i
  cases vr_sc hi
  have run : ∀ {e : Nat} {b o n c : Nat}, G.tyOf t = some (.sl e) → 0 ≤ i → i < (n : Int) → (Instr.indexAt t (.slice (some ⟨b, o, none⟩) n c) (.int k i)).run P w = .ok (.pointer (some ⟨b, o + i.toNat * G.U.sz e, none⟩)) w := by
    intro e b o n c ht h0 h1
    obtain ⟨h2, y, hy, hs, _⟩ := tyOf_ok hF ht
    simp [Instr.indexAt, run_underlying h2, asIntOf, h0, h1, sizeOf_run (hF.ti e y hy), hs, Addr.add_lit]
  split at h
  · rename_i e t' l tight loc ht
    split at h
    · rename_i he
      subst he
      obtain ⟨h0, h⟩ := cond_y.1 h
      obtain ⟨h1, h⟩ := cond_y.1 h
      simp only [decide_eq_true_eq] at h0 h1
      obtain ⟨A, cap, rfl, hc, hr, _⟩ := hx
      obtain ⟨h2, y, hy, hs, h3⟩ := tyOf_ok hF ht
      have hlt : i.toNat < l.length := by omega
      have h4 : 0 < (flat G.U e l).length := by rw [flat_len hF.U]; exact Nat.mul_pos (by omega) (by omega)
      obtain ⟨b, o, rfl, _⟩ := hr 0 _ (List.getElem?_eq_getElem h4)
      refine ⟨_, _, run ht h0 h1, h, hlt, b, o, rfl, fun j v hv => ?_⟩
      obtain ⟨b', o', e1, e2, e3, _⟩ := hr j v hv
      exact ⟨b', o', e1, e2, e3, fun e => by cases e⟩
    · cases h
  · rename_i e id ht
    split at h
    · rename_i t' l hm'
      split at h
      · rename_i he
        subst he
        obtain ⟨h0, h⟩ := cond_y.1 h
        obtain ⟨h1, h⟩ := cond_y.1 h
        simp only [decide_eq_true_eq] at h0 h1
        obtain ⟨hid, rfl, _⟩ := hx
        rcases (hm.blk _ _ hm').2 with ⟨e1, e2⟩ | ⟨g, cap, cur, e1, _⟩
        · omega
        · rw [e1]
          exact ⟨_, _, run ht h0 h1, h, hid, g, _, _, e1, by omega, by simp⟩
      · cases h
    · cases h
  · rename_i e id t' off len ht
    split at h
    · rename_i he
      subst he
      obtain ⟨h0, h⟩ := cond_y.1 h
      obtain ⟨h1, h⟩ := cond_y.1 h
      simp only [decide_eq_true_eq] at h0 h1
      obtain ⟨hid, A, cap, rfl, _, e2⟩ := hx
      obtain ⟨g, n, c, e3, e4, rfl⟩ := e2 (by omega)
      exact ⟨_, _, run ht h0 h1, h, hid, g, n, c, e3, by omega, by rw [Nat.add_mul]; rfl⟩
    · cases h
  · rename_i k' e id off ht
    obtain ⟨h0, h⟩ := cond_y.1 h
    obtain ⟨h1, h⟩ := cond_y.1 h
    simp only [decide_eq_true_eq] at h0 h1
    obtain ⟨hid, β, e1, rfl⟩ := hx
    obtain ⟨h2, y, hy, hs, _⟩ := tyOf_ok hF ht
    refine ⟨_, .pointer (some ⟨β, off + i.toNat * G.U.sz e + 0, none⟩), ?_, h, hid, by omega, β, e1, rfl⟩
    simp [Instr.indexAt, run_underlying h2, Instr.sureAddr, asIntOf, h0, h1, sizeOf_run (hF.ti e y hy), hs, Addr.add_lit]
  · rename_i e id n ht
    obtain ⟨h0, h⟩ := cond_y.1 h
    obtain ⟨h1, h⟩ := cond_y.1 h
    simp only [decide_eq_true_eq] at h0 h1
    obtain ⟨hid, β, e1, rfl⟩ := hx
    obtain ⟨h2, y, hy, hs⟩ := tyOf_ok hF ht
    refine ⟨_, .pointer (some ⟨β, i.toNat, none⟩), ?_, h, hid, β, e1, rfl⟩
    simp [Instr.indexAt, run_underlying h2, asIntOf, h0, h1, sizeOf_run (hF.ti e y hy), hs, Addr.add_lit]
  · cases h

theorem bt_ok (s : ByteArray) (i : Nat) (h : i < s.size) : bt s i = (s[i].toNat : Int) := by
  have h' : i < s.data.size := h
  unfold bt
  rw [Array.getD, dif_pos h']
  rfl

theorem aIndex_ok (hF : Fits P G.U G.ti) {t : Nat} {x i : V G.U.El} {u ui : Value} (hx : VR G.U B ι m w x u) (hi : VR G.U B ι m w i ui) (h : aIndex G t x i K = some r) :
    RunsP P G B ι m w (Instr.index t u ui) K r := by
  unfold aIndex at h
  split at h
  · rename_i s k i ht
    cases vr_sc hi
    cases vr_sc hx
    obtain ⟨h0, h⟩ := cond_y.1 h
    obtain ⟨h1, h⟩ := cond_y.1 h
    simp only [decide_eq_true_eq] at h0 h1
    have h2 := tyOf_ok hF ht
    have hlt : i.toNat < s.size := by omega
    refine ⟨_, _, ?_, h, wr_sc rfl⟩
    have : s[i.toNat]? = some s[i.toNat] := by simp [hlt]
    have hb : bt s i.toNat = (s[i.toNat].toNat : Int) := bt_ok s _ hlt
    simp [Instr.index, run_underlying h2, asIntOf, h0, this, hb]
  · rename_i k' e' e k l k2 i ht
    cases vr_sc hi
    split at h
    · rename_i y hy
      replace h := cond_y.1 h
      obtain ⟨h0, h⟩ := h
      replace h := cond_y.1 h
      obtain ⟨h1, h⟩ := h
      simp only [decide_eq_true_eq] at h0 h1
      split at h
      · rename_i hk
        subst hk
        split at h
        · rename_i he
          subst he
          obtain ⟨vs, rfl, a, r', e1, ⟨e2, e3⟩, e4⟩ := hx
          cases e4
          rw [List.append_nil] at e1
          rw [e3] at e1
          subst e1
          obtain ⟨h2, y', hy', hs, _⟩ := tyOf_ok hF ht
          rw [hy] at hy'
          cases hy'
          have hlt : i.toNat < l.length := by omega
          cases hz : (elemAt G e' (rd (G.U.dflt e') l i.toNat) 0 y.size).bind (mkW y) with
          | none => rw [hz] at h; cases h
          | some z =>
            rw [hz] at h
            obtain ⟨cs, h5, h6⟩ := Option.bind_eq_some_iff.1 hz
            obtain ⟨h7, h8⟩ := elem_cs (B := B) (ι := ι) (m := m) (w := w) hF.U h5
            have hfl := flat_at hF.U e' l i.toNat hlt (G.U.dflt e')
            rw [List.drop_zero, ← hfl, List.take_take, hs, Nat.min_self] at h8
            have hle : i.toNat * y.size + y.size ≤ (flat G.U e' l).length := by
              rw [flat_len hF.U, hs]
              calc i.toNat * G.U.sz e' + G.U.sz e' = (i.toNat + 1) * G.U.sz e' := by rw [Nat.add_mul]; omega
                _ ≤ l.length * G.U.sz e' := Nat.mul_le_mul_right _ hlt
            obtain ⟨v, h9, h10⟩ := part_ok (P := P) (hF.ti e' y hy) (flat G.U e' l) (i.toNat * y.size) hle (by rw [hs]; exact h8) h6
            exact ⟨z, v, by simp [Instr.index, run_underlying h2, asIntOf, h0, h1, sizeOf_run (hF.ti e' y hy), h9], h, h10⟩
        · cases h
      · cases h
    · cases h
  · cases h
end
end Go.Proofs.Ytnjmkkgmlkhjeaa.AM
namespace Go.Proofs.Ytnjmkkgmlkhjeaa.AM
open Go.RowKit
variable {ρ : Type}

section
variable {P : Program} {G : Cfg} {B : Nat → Prop} {S : Nat → Prop} {ι : Nat → Value} {m : List (Blk G.U.El)} {w : World} {r : ρ} {K : W G.U.El → Option ρ} {K2 : W G.U.El → List (Blk G.U.El) → Option ρ}

theorem flat_drop (hU : UOk G.U) (t : Nat) : ∀ (l : List (G.U.El t)) (n : Nat), flat G.U t (l.drop n) = (flat G.U t l).drop (n * G.U.sz t)
  | [], n => by simp [flat]
  | y :: l, 0 => by simp
  | y :: l, n + 1 => by
    have e : flat G.U t (y :: l) = G.U.cells t y ++ flat G.U t l := by simp [flat]
    rw [List.drop_succ_cons, flat_drop hU t l n, e, show (n + 1) * G.U.sz t = (G.U.cells t y).length + n * G.U.sz t by rw [hU.len, Nat.add_mul]; omega, List.drop_length_add_append]

theorem flat_take (hU : UOk G.U) (t : Nat) : ∀ (l : List (G.U.El t)) (n : Nat), flat G.U t (l.take n) = (flat G.U t l).take (n * G.U.sz t)
  | [], n => by simp [flat]
  | y :: l, 0 => by simp [flat]
  | y :: l, n + 1 => by
    have e : ∀ l : List (G.U.El t), flat G.U t (y :: l) = G.U.cells t y ++ flat G.U t l := fun l => by simp [flat]
    rw [List.take_succ_cons, e, flat_take hU t l n, e, show (n + 1) * G.U.sz t = (G.U.cells t y).length + n * G.U.sz t by rw [hU.len, Nat.add_mul]; omega, List.take_length_add_append]

/-- Cells that can be read at a place. -/
def Rd (w : World) (A : Option Addr) (cells : List Value) : Prop := ∀ j v, cells[j]? = some v → ∃ b o, A = some ⟨b, o, none⟩ ∧ w.cell? ⟨b, o + j, none⟩ = some v

theorem rowOf_ok (hF : Fits P G.U G.ti) (hm : MR G.U B S ι m w) {t : Nat} {c : C G.U.El} {l : List (G.U.El t)} {u : Value} (hc : CR G.U B ι m w c u) (h : rowOf m t c = some l) :
    ∃ A cap, u = .slice A l.length cap ∧ Rd w A (flat G.U t l) ∧ l.length ≤ cap := by
  cases c with
  | row t' l' tight loc =>
    simp only [rowOf] at h
    split at h
    · rename_i e
      subst e
      cases h
      obtain ⟨A, cap, rfl, hle, h3, _⟩ := hc
      exact ⟨A, cap, rfl, fun j v hv => let ⟨b, o, e1, e2, _⟩ := h3 j v hv; ⟨b, o, e1, e2⟩, hle⟩
    · cases h
  | sl id =>
    obtain ⟨hid, rfl, _⟩ := hc
    simp only [rowOf] at h
    split at h
    · rename_i t' l' hm'
      split at h
      · rename_i e
        subst e
        cases h
        have hb := hm.blk _ _ hm'
        simp only [BR] at hb
        rcases hb.2 with ⟨e1, e2⟩ | ⟨g, cap, cur, e1, _, _, hnc, _⟩
        · have : l' = [] := List.eq_nil_of_length_eq_zero e2
          subst this
          exact ⟨none, 0, e1, fun j v hv => by simp [flat] at hv, Nat.le_refl _⟩
        · rw [e1] at hb ⊢
          refine ⟨_, _, rfl, fun j v hv => ⟨g, 0, rfl, ?_⟩, hnc⟩
          have hlt := (List.getElem?_eq_some_iff.1 hv).1
          rw [flat_len hF.U] at hlt
          rw [Nat.zero_add, World.ownsRow.cellAt hb j hlt, hv]
      · cases h
    · cases h
  | sub id t' off len =>
    obtain ⟨hid, A, cap, rfl, hle, hA⟩ := hc
    simp only [rowOf] at h
    split at h
    · rename_i t'' l' hm'
      split at h
      · rename_i e
        subst e
        split at h
        · rename_i e
          subst e
          cases h
          have hb := hm.blk _ _ hm'
          simp only [BR] at hb
          by_cases h0 : 0 < len
          · obtain ⟨g, n, c, e1, e2, rfl⟩ := hA h0
            rw [e1] at hb
            have hn : l'.length = n := by
              rcases hb.2 with ⟨e3, _⟩ | ⟨_, _, _, e3, _⟩
              · cases e3
              · simp at e3; exact e3.2.1.symm
            subst hn
            have hl : ((l'.drop off).take len).length = len := by simp; omega
            refine ⟨_, cap, by rw [hl], fun j v hv => ⟨g, off * G.U.sz t', rfl, ?_⟩, by rw [hl]; exact hle⟩
            rw [flat_take hF.U, flat_drop hF.U, List.getElem?_take] at hv
            split at hv
            · rw [List.getElem?_drop] at hv
              have hlt := (List.getElem?_eq_some_iff.1 hv).1
              rw [flat_len hF.U] at hlt
              rw [World.ownsRow.cellAt hb _ hlt, hv]
            · cases hv
          · obtain rfl : len = 0 := by omega
            exact ⟨A, cap, by simp, fun j v hv => by simp [flat] at hv, by simp⟩
        · cases h
      · cases h
    · cases h
  | sc v =>
    have hv : v = .slice none 0 0 ∧ l = [] := by
      simp only [rowOf] at h
      split at h <;> simp_all
    obtain ⟨rfl, rfl⟩ := hv
    obtain ⟨rfl, _⟩ := hc
    exact ⟨none, 0, rfl, fun j v hv => by simp [flat] at hv, Nat.le_refl _⟩
  | _ => simp [rowOf] at h

theorem foldl_push (ns : List Int) (f : Int → UInt8) : ∀ acc : ByteArray, ns.foldl (fun r n => r.push (f n)) acc = ⟨acc.data ++ (ns.map f).toArray⟩ := by
  induction ns with
  | nil => intro acc; cases acc; simp
  | cons n ns ih => intro acc; rw [List.foldl_cons, ih]; simp [ByteArray.push]

theorem ints_of (hU : UOk G.U) {e : Nat} {k : IntKind} (he : (G.U.ent e).k = some k) : ∀ l : List (G.U.El e), ∃ ns : List Int, flat G.U e l = ns.map (Value.int k) ∧ ns.length = l.length ∧ l.map (fun y => byteOf (G.U.cells e y)) = ns.map (fun n => UInt8.ofNat n.toNat)
  | [] => ⟨[], rfl, rfl, rfl⟩
  | y :: l => by
    obtain ⟨n, hn⟩ := hU.int e k he y
    obtain ⟨ns, h1, h2, h3⟩ := ints_of hU he l
    refine ⟨n :: ns, ?_, by simp [h2], by rw [List.map_cons, List.map_cons, h3, hn]; rfl⟩
    have e' : flat G.U e (y :: l) = G.U.cells e y ++ flat G.U e l := by simp [flat]
    rw [e', hn, h1]
    rfl

theorem aConvert_ok (hF : Fits P G.U G.ti) (hm : MR G.U B S ι m w) {src dst : Nat} {x : V G.U.El} {u : Value} (hx : VR G.U B ι m w x u) (h : aConvert G src dst x m K = some r) :
    RunsP P G B ι m w (convert src dst u) K r := by
  have some_ : ∀ {t : Nat} {y : Ty}, G.tyOf t = some y → ∃ d, P.underlying t = some d := by
    intro t y ht
    have := tyOf_ok hF ht
    cases y <;> simp only [TyOk] at this
    case int => exact ⟨_, this⟩
    case bool => exact ⟨_, this⟩
    case str => exact ⟨_, this⟩
    case sl => exact ⟨_, this.1⟩
    case slf => exact ⟨_, this.1⟩
    case st => exact ⟨_, this.choose_spec.1⟩
    case arr => exact ⟨_, this.1⟩
    case ptr => exact ⟨_, this⟩
    case other => exact Option.isSome_iff_exists.1 this.1
  unfold aConvert at h
  split at h
  · rename_i y k k' n hs hd
    cases vr_sc hx
    obtain ⟨d, hs'⟩ := some_ hs
    have hd' := tyOf_ok hF hd
    simp only [TyOk] at hd'
    exact ⟨_, _, by simp [convert, run_underlying hs', run_underlying hd', Conv.intToInt], h, wr_sc rfl⟩
  · rename_i y s hs hd
    cases vr_sc hx
    obtain ⟨d, hs'⟩ := some_ hs
    have hd' := tyOf_ok hF hd
    simp only [TyOk] at hd'
    exact ⟨_, _, by simp [convert, run_underlying hs', run_underlying hd'], h, wr_sc rfl⟩
  · rename_i e c hs hd
    split at h
    · rename_i hk
      split at h
      · rename_i l hu hl
        obtain ⟨A, cap, rfl, hr, _⟩ := rowOf_ok hF hm hx hl
        obtain ⟨hs', y, hy, _⟩ := tyOf_ok hF hs
        have hd' := tyOf_ok hF hd
        simp only [TyOk] at hd'
        obtain ⟨ns, h1, h2, h3⟩ := ints_of hF.U hk l
        rw [h3] at h
        have hu8 := tyOf_ok hF hu
        simp only [TyOk] at hu8
        refine ⟨_, _, ?_, h, wr_sc rfl⟩
        rw [run_convert_bytes_string w src dst _ A l.length cap hs' hu8 hd']
        cases A with
        | none =>
          have : ns = [] := by
            cases ns with
            | nil => rfl
            | cons n ns => obtain ⟨b, o, hA, _⟩ := hr 0 (.int .u8 n) (by rw [h1]; rfl); cases hA
          subst this
          simp [Conv.bytesToString]
          rfl
        | some a =>
          have hld : (loadCells a l.length).run P w = .ok (ns.map (Value.int .u8)).toArray w := by
            have := run_loadCells_list (P := P) w a (ns.map (Value.int .u8)) (fun j v hv => by
              obtain ⟨b, o, hA, hc⟩ := hr j v (by rw [h1]; exact hv)
              cases hA
              rw [Addr.add_lit]
              exact hc)
            rwa [List.length_map, h2] at this
          rw [run_bytesToString w a l.length cap ns hld, foldl_push]
          have : (ByteArray.empty.data ++ (List.map (fun n : Int => UInt8.ofNat n.toNat) ns).toArray) = (List.map (fun n : Int => UInt8.ofNat n.toNat) ns).toArray := Array.empty_append
          rw [this]
      · cases h
    · cases h
  · cases h


def OVR (U : Univ) (B : Nat → Prop) (ι : Nat → Value) (m : List (Blk U.El)) (w : World) : Option (V U.El) → Option Value → Prop
  | none, none => True
  | some v, some u => VR U B ι m w v u
  | _, _ => False

theorem ovr_some {v : V G.U.El} {u : Value} (h : OVR G.U B ι m w (some v) (some u)) : VR G.U B ι m w v u := h

theorem natOf_ok {o : Option (V G.U.El)} {uo : Option Value} (ho : OVR G.U B ι m w o uo) {d : Nat} {K' : Nat → Option ρ} (h : natOf o d K' = some r) :
    (uo = none ∧ o = none ∧ K' d = some r) ∨ ∃ k i, uo = some (.int k i) ∧ 0 ≤ i ∧ K' i.toNat = some r := by
  unfold natOf at h
  split at h
  · cases uo with
    | none => exact .inl ⟨rfl, rfl, h⟩
    | some u => exact ho.elim
  · cases uo with
    | none => exact ho.elim
    | some u =>
      cases vr_sc (ovr_some ho)
      obtain ⟨h0, h⟩ := cond_y.1 h
      exact .inr ⟨_, _, rfl, by simpa using h0, h⟩
  · cases h


theorem bounds_ok {isSlice : Bool} {len cap : Nat} (hlc : len ≤ cap) {lo hi : Option (V G.U.El)} {ulo uhi : Option Value} (hlo : OVR G.U B ι m w lo ulo) (hhi : OVR G.U B ι m w hi uhi) {K' : Nat → Nat → Option ρ}
    (h : (natOf hi len fun h => cond (decide (h ≤ len)) (natOf lo 0 fun l => cond (decide (l ≤ h)) (K' l h) none) none) = some r) :
    ∃ l h, l ≤ h ∧ h ≤ len ∧ K' l h = some r ∧ (Instr.sliceBounds isSlice len cap ulo uhi none).run P w = .ok (l, h, cap) w ∧ (hi = none → h = len) := by
  rcases natOf_ok hhi h with ⟨rfl, _, h⟩ | ⟨k, i, rfl, hi0, h⟩
  · obtain ⟨h3, h⟩ := cond_y.1 h
    rcases natOf_ok hlo h with ⟨rfl, _, h⟩ | ⟨k', j, rfl, hj0, h⟩
    · obtain ⟨h4, h⟩ := cond_y.1 h
      simp only [decide_eq_true_eq] at h3 h4
      exact ⟨_, _, h4, h3, h, by simp [Instr.sliceBounds], fun _ => rfl⟩
    · obtain ⟨h4, h⟩ := cond_y.1 h
      simp only [decide_eq_true_eq] at h3 h4
      exact ⟨_, _, h4, h3, h, by simp [Instr.sliceBounds, run_sliceBound w k' j len _ hj0 (by omega)], fun _ => rfl⟩
  · have hne : hi ≠ none := fun e => by rw [e] at hhi; exact hhi.elim
    obtain ⟨h3, h⟩ := cond_y.1 h
    rcases natOf_ok hlo h with ⟨rfl, _, h⟩ | ⟨k', j, rfl, hj0, h⟩
    · obtain ⟨h4, h⟩ := cond_y.1 h
      simp only [decide_eq_true_eq] at h3 h4
      exact ⟨_, _, h4, h3, h, by simp [Instr.sliceBounds, run_sliceBound w k i cap _ hi0 (by omega)], fun e => absurd e hne⟩
    · obtain ⟨h4, h⟩ := cond_y.1 h
      simp only [decide_eq_true_eq] at h3 h4
      exact ⟨_, _, h4, h3, h, by simp [Instr.sliceBounds, run_sliceBound w k i cap _ hi0 (by omega), run_sliceBound w k' j i.toNat _ hj0 (by omega)], fun e => absurd e hne⟩

theorem aSlice_ok (hF : Fits P G.U G.ti) (hm : MR G.U B S ι m w) {t : Nat} {x : V G.U.El} {u : Value} {lo hi mx : Option (V G.U.El)} {ulo uhi umx : Option Value} (hx : VR G.U B ι m w x u)
    (hlo : OVR G.U B ι m w lo ulo) (hhi : OVR G.U B ι m w hi uhi) (hmx : OVR G.U B ι m w mx umx) (h : aSlice G t x lo hi mx m K = some r) :
    RunsP P G B ι m w (Instr.sliceAt t u ulo uhi umx) K r := by
  unfold aSlice at h
  split at h
  · -- a string
    rename_i s ht
    have h2 := tyOf_ok hF ht
    simp only [TyOk] at h2
    cases vr_sc hx
    cases umx with
    | some _ => exact hmx.elim
    | none =>
    obtain ⟨l, h', h3, h4, h5, h6, _⟩ := bounds_ok (P := P) (isSlice := false) (Nat.le_refl _) hlo hhi h
    exact ⟨_, _, by simp [Instr.sliceAt, Instr.slice, run_underlying h2, h6], h5, wr_sc rfl⟩
  · -- a view
    rename_i e e' rr tight loc ht
    split at h
    · rename_i he
      subst he
      cases umx with
      | some _ => exact hmx.elim
      | none =>
      obtain ⟨A, cap, rfl, hle, hr, htg⟩ := hx
      obtain ⟨h2, y, hy, hs, h0⟩ := tyOf_ok hF ht
      obtain ⟨l, h', h3, h4, h5, h6, h7⟩ := bounds_ok (P := P) (isSlice := true) hle hlo hhi h
      have run : (Instr.sliceAt t (.slice A rr.length cap) ulo uhi none).run P w = .ok (.slice (if cap = l then A else A.map (·.add (l * G.U.sz e))) (h' - l) (cap - l)) w := by
        simp [Instr.sliceAt, Instr.slice, run_underlying h2, h6, sizeOf_run (hF.ti e y hy), hs]
      have key : RD G.U B ι m w loc (if cap = l then A else A.map (·.add (l * G.U.sz e))) (flat G.U e ((rr.take h').drop l)) := by
        intro j v hv
        rw [flat_drop hF.U, flat_take hF.U, List.getElem?_drop, List.getElem?_take] at hv
        split at hv
        · rename_i hlt
          have hne : cap ≠ l := by
            intro e1
            have : h' = l := by omega
            rw [this] at hlt
            omega
          obtain ⟨b, o, rfl, e2, e3, e4⟩ := hr _ v hv
          refine ⟨b, o + l * G.U.sz e, by rw [if_neg hne]; simp [Addr.add_lit], by rw [Nat.add_assoc]; exact e2, e3, e4⟩
        · cases hv
      cases hi with
      | none =>
        have h8 := h7 rfl
        subst h8
        rw [List.take_length] at key
        exact ⟨_, _, run, h5, _, _, by rw [List.length_drop], by rw [List.length_drop]; omega, key, fun e1 => by rw [List.length_drop, htg e1]⟩
      | some v =>
        have hl : ((rr.take h').drop l).length = h' - l := by rw [List.length_drop, List.length_take, Nat.min_eq_left h4]
        exact ⟨_, _, run, h5, _, _, by rw [hl], by rw [hl]; omega, key, fun e1 => by cases e1⟩
    · cases h
  · -- nothing of a view
    rename_i e e' rr tight loc k ht
    split at h
    · rename_i he
      subst he
      split at h
      · cases ulo with
        | some _ => exact hlo.elim
        | none =>
        cases uhi with
        | none => exact hhi.elim
        | some v1 =>
        cases umx with
        | none => exact hmx.elim
        | some v2 =>
        cases vr_sc (ovr_some hhi)
        cases vr_sc (ovr_some hmx)
        obtain ⟨A, cap, rfl, hle, hr, htg⟩ := hx
        obtain ⟨h2, y, hy, hs, h0⟩ := tyOf_ok hF ht
        refine ⟨_, .slice A 0 0, ?_, h, A, 0, rfl, Nat.le_refl _, fun j v hv => by simp [flat] at hv, fun _ => rfl⟩
        simp [Instr.sliceAt, Instr.slice, run_underlying h2, Instr.sliceBounds, run_sliceBound w, sizeOf_run (hF.ti e y hy)]
      · cases h
    · cases h
  · rename_i e id ht
    split at h
    · rename_i t' rr hm'
      split at h
      · rename_i he
        subst he
        cases umx with
        | some _ => exact hmx.elim
        | none =>
        obtain ⟨hid, rfl, _⟩ := hx
        obtain ⟨h2, y, hy, hs, h0⟩ := tyOf_ok hF ht
        have hb := hm.blk _ _ hm'
        simp only [BR] at hb
        rcases hb.2 with ⟨e1, e2⟩ | ⟨g, cap, cur, e1, _, _, e2, _⟩
        · rw [e1]
          have e3 : rr = [] := List.eq_nil_of_length_eq_zero e2
          subst e3
          obtain ⟨l, h', h3, h4, h5, h6, h7⟩ := bounds_ok (P := P) (isSlice := true) (len := 0) (cap := 0) (Nat.le_refl _) hlo hhi h
          obtain rfl : l = 0 := by omega
          obtain rfl : h' = 0 := by omega
          exact ⟨_, .slice none 0 0, by simp [Instr.sliceAt, Instr.slice, run_underlying h2, h6, sizeOf_run (hF.ti e y hy)], h5, hid, none, 0, rfl, Nat.le_refl _, fun hh => absurd hh (Nat.lt_irrefl _)⟩
        · obtain ⟨l, h', h3, h4, h5, h6, h7⟩ := bounds_ok (P := P) (isSlice := true) e2 hlo hhi h
          refine ⟨_, .slice (if cap = l then some ⟨g, 0, none⟩ else some ⟨g, l * G.U.sz e, none⟩) (h' - l) (cap - l), ?_, h5, hid, _, _, rfl, by omega, fun hh => ⟨g, _, _, e1, by omega, by rw [if_neg (by omega)]⟩⟩
          rw [e1]
          simp only [Instr.sliceAt, Instr.slice, Sem.run_bind, run_underlying h2, Result.andThen_ok, h6, sizeOf_run (hF.ti e y hy), hs, Sem.run_pure]
          congr 2
          split <;> simp [Addr.add_lit]
      · cases h
    · cases h
  · cases h
end
end Go.Proofs.Ytnjmkkgmlkhjeaa.AM
namespace Go.Proofs.Ytnjmkkgmlkhjeaa.AM
open Go.RowKit
variable {ρ : Type}

section
variable {P : Program} {G : Cfg} {B : Nat → Prop} {S : Nat → Prop} {ι : Nat → Value} {m : List (Blk G.U.El)} {w : World} {r : ρ} {K : W G.U.El → Option ρ} {K2 : W G.U.El → List (Blk G.U.El) → Option ρ}

theorem RunsP.toM {s : Sem Value} (hm : MR G.U B S ι m w) (h : RunsP P G B ι m w s (fun x => K2 x m) r) : RunsM P G B S ι m w s K2 r :=
  let ⟨x, u, h1, h2, h3⟩ := h
  ⟨x, u, ι, m, w, h1, h2, h3, Grow.refl, hm, Fr.refl _ _⟩

theorem Fr.alloc (S : Nat → Prop) (w : World) (o : Obj) : Fr S w (w.alloc o) := Fr.of_grown (World.grownBy_alloc w o none) (fun _ h => by cases h)

theorem zeroC_ok : ∀ zs : List Z, CsR G.U B ι m w (zeroC G.U zs) (zvals G.U zs)
  | [] => rfl
  | .int k :: zs => ⟨[_], _, rfl, ⟨_, rfl, rfl, rfl⟩, zeroC_ok zs⟩
  | .bool :: zs => ⟨[_], _, rfl, ⟨_, rfl, rfl, rfl⟩, zeroC_ok zs⟩
  | .str :: zs => ⟨[_], _, rfl, ⟨_, rfl, rfl, rfl⟩, zeroC_ok zs⟩
  | .sl :: zs => ⟨[_], _, rfl, ⟨_, rfl, rfl, rfl⟩, zeroC_ok zs⟩
  | .ptr :: zs => ⟨[_], _, rfl, ⟨_, rfl, rfl, rfl⟩, zeroC_ok zs⟩
  | .func :: zs => ⟨[_], _, rfl, ⟨_, rfl, rfl, rfl⟩, zeroC_ok zs⟩
  | .arr e n :: zs => ⟨_, _, rfl, ⟨by simp, rfl⟩, zeroC_ok zs⟩

theorem zero_run {t : Nat} {x : TI} (hx : TIok P G.U G.ti t x) : ∃ z, (zeroValue t).run P w = .ok z w ∧ z.cells.toList = zvals G.U x.zero := by
  obtain ⟨i, z, hi, _, _, hz, hc, _⟩ := hx.info
  exact ⟨z, by simp [zeroValue, typeInfo, hi, hz], hc⟩

/-- A new variable. -/
theorem newVar_ok (hm : MR G.U B S ι m w) (hS : ∀ k, w.heap.size ≤ k → S k) {t : Nat} {cs : List (C G.U.El)} {vs : Array Value} (hc : CsR G.U B ι m w cs vs.toList) :
    let ι' := updι ι m.length (.pointer (some ⟨w.heap.size, 0, none⟩)); let m' := m ++ [.st t cs]; let w' := w.alloc (.cells vs t)
    WR G.U B ι' m' w' (.c (.ptr m.length 0)) (.pointer (some ⟨w.heap.size, 0, none⟩)) ∧ Grow G.U ι m w ι' m' w' ∧ MR G.U B S ι' m' w' ∧ Fr S w w' := by
  intro ι' m' w'
  have h := hm.push (w' := w') hS (.st t cs) (.pointer (some ⟨w.heap.size, 0, none⟩)) (by simp [w']) (fun k hk => heap_alloc_old w _ k hk) (fun k hk => by cases hk; exact Nat.le_refl _)
    (fun hg => ⟨w.heap.size, vs, by simp [updι], heap_alloc_new w _, hc.grow hg⟩)
  refine ⟨⟨by simp [m'], w.heap.size, by simp [ι', updι], rfl⟩, h.1, h.2, Fr.alloc _ _ _⟩

/-- A new row of the call's own. -/
theorem newOwn_ok (hm : MR G.U B S ι m w) (hS : ∀ k, w.heap.size ≤ k → S k) {w' : World} {t : Nat} {l : List (G.U.El t)} {v : Value} (hv : ∀ k, ownOf v = some k → w.heap.size ≤ k) (h1 : v.oneCell' = true)
    (hg : w.grownBy w' none) (hown : w'.ownsRow 0 t (G.U.sz t) v l.length (flat G.U t l)) :
    let ι' := updι ι m.length v; let m' := m ++ [.da t l]
    WR G.U B ι' m' w' (.c (.sl m.length)) v ∧ Grow G.U ι m w ι' m' w' ∧ MR G.U B S ι' m' w' ∧ Fr S w w' := by
  intro ι' m'
  have h := hm.push (w' := w') hS (.da t l) v hg.size (fun k hk => hg.block k hk (by simp)) hv (fun _ => by simpa [BR, updι] using hown)
  exact ⟨⟨by simp [m'], by simp [ι', updι], h1⟩, h.1, h.2, Fr.of_grown hg (fun _ h => by cases h)⟩

theorem aAlloc_ok (hF : Fits P G.U G.ti) (hm : MR G.U B S ι m w) (hS : ∀ k, w.heap.size ≤ k → S k) {t : Nat} {x : TI} (hx : G.ti t = some x)
    (h : K2 (.c (.ptr m.length 0)) (m ++ [.st t (zeroC G.U x.zero)]) = some r) : RunsM P G B S ι m w (Instr.alloc t true (.tuple #[])) K2 r := by
  obtain ⟨z, hz, hc⟩ := zero_run (P := P) (w := w) (hF.ti t x hx)
  have := newVar_ok hm hS (t := t) (cs := zeroC G.U x.zero) (vs := z.cells) (by rw [hc]; exact zeroC_ok _)
  refine ⟨_, _, _, _, _, ?_, h, this⟩
  simp [Instr.alloc, hz, newVar, newRow]

theorem aBox_ok (hF : Fits P G.U G.ti) (hm : MR G.U B S ι m w) (hS : ∀ k, w.heap.size ≤ k → S k) {t : Nat} {y : W G.U.El} {u : Value} (hy : WR G.U B ι m w y u)
    (h : K2 (.c (.ptr m.length 0)) (m ++ [.st t y.cells]) = some r) : RunsM P G B S ι m w (Instr.box t u) K2 r := by
  have := newVar_ok hm hS (t := t) (cs := y.cells) (vs := u.cells) hy.cells
  refine ⟨_, _, _, _, _, ?_, h, this⟩
  simp [Instr.box, newVar, newRow]

theorem made_flat (hU : UOk G.U) {e : Nat} {z : Array Value} (hz : z.toList = G.U.cells e (G.U.dflt e)) (h0 : 0 < G.U.sz e) (a n : Nat) (hn : a * G.U.sz e ≤ n) :
    (madeCells z n).toList.take (a * G.U.sz e) = flat G.U e (List.replicate a (G.U.dflt e)) := by
  have hzs : z.size = G.U.sz e := by rw [← Array.length_toList, hz]; rfl
  apply List.ext_getElem?
  intro j
  by_cases hj : j < a * G.U.sz e
  · have hi : j / G.U.sz e < a := (Nat.div_lt_iff_lt_mul h0).2 hj
    have hr : j % G.U.sz e < G.U.sz e := Nat.mod_lt _ h0
    have hd : rd (G.U.dflt e) (List.replicate a (G.U.dflt e)) (j / G.U.sz e) = G.U.dflt e := by simp [rd, List.getD_eq_getElem?_getD, List.getElem?_replicate, hi]
    have hc : (G.U.cells e (rd (G.U.dflt e) (List.replicate a (G.U.dflt e)) (j / G.U.sz e)))[j % G.U.sz e]? = some (z[j % z.size]!) := by
      rw [hd, ← hz, hzs, Array.getElem?_toList]
      simp [hzs, hr]
    have := flat_get hU e (List.replicate a (G.U.dflt e)) (j / G.U.sz e) (by simpa using hi) _ _ _ hc
    rw [Nat.div_add_mod' j (G.U.sz e)] at this
    rw [this, List.getElem?_take, if_pos hj]
    simp only [madeCells, Array.toList_map, Array.toList_range, List.getElem?_map, List.getElem?_range (by omega : j < n), Option.map_some]
  · rw [List.getElem?_eq_none (by simp; omega), List.getElem?_eq_none (by rw [flat_len hU]; simp; omega)]

theorem aMake_ok (hF : Fits P G.U G.ti) (hm : MR G.U B S ι m w) (hS : ∀ k, w.heap.size ≤ k → S k) (hB : ∀ k, w.heap.size ≤ k → B k) {own : Bool} {t : Nat} {a b : V G.U.El} {ua ub : Value} (ha : VR G.U B ι m w a ua) (hb : VR G.U B ι m w b ub)
    (h : aMakeSlice G own t a b m K2 = some r) : RunsM P G B S ι m w (Instr.makeSlice t ua ub) K2 r := by
  unfold aMakeSlice at h
  split at h
  · rename_i e a b ht
    cases vr_sc ha
    cases vr_sc hb
    split at h
    · rename_i x hx
      obtain ⟨h1, h⟩ := cond_y.1 h
      obtain ⟨h2, h⟩ := cond_y.1 h
      obtain ⟨h3, h⟩ := cond_y.1 h
      simp only [decide_eq_true_eq] at h1 h2 h3
      obtain ⟨hu, y, hy, hs, h0, h0'⟩ := tyOf_ok hF ht
      rw [hx] at hy
      cases hy
      obtain ⟨i, z, hi, hsz, hby, hz, hc, _⟩ := (hF.ti e x hx).info
      have hel : zvals G.U x.zero = G.U.cells e (G.U.dflt e) := by
        obtain ⟨y, hy, hty⟩ := Option.map_eq_some_iff.1 ht
        exact (hF.ti t y hy).el e 0 (.inl hty) x hx
      have hbb : b ≤ 140737488355328 := by
        have : (1 : Int) * b ≤ x.bytes * b := Int.mul_le_mul_of_nonneg_right (by omega) (by omega)
        omega
      have hr := run_make (P := P) w t e i z hu hi hz .i64 .i64 a b h1 h2 (by rw [hby]; omega) (by omega)
      have hg := World.grownBy_alloc w (.cells (madeCells z.cells (b.toNat * i.size)) e) none
      have hown : (w.alloc (.cells (madeCells z.cells (b.toNat * i.size)) e)).ownsRow 0 e (G.U.sz e) (.slice (some ⟨w.heap.size, 0, none⟩) a.toNat b.toNat) (List.replicate a.toNat (G.U.dflt e)).length (flat G.U e (List.replicate a.toNat (G.U.dflt e))) := by
        refine ⟨flat_len hF.U _ _, .inr ⟨w.heap.size, b.toNat, _, by rw [List.length_replicate], Nat.zero_le _, heap_alloc_new w _, by rw [List.length_replicate]; omega, by simp [maxLen]; omega, ?_, ?_⟩⟩
        · rw [size_madeCells, hsz, hs]
        · rw [List.length_replicate]
          exact made_flat hF.U (by rw [hc, hel]) (by omega) a.toNat _ (by rw [hsz, hs]; exact Nat.mul_le_mul_right _ (by omega))
      cases own with
      | false =>
        have hqm := hm.quiet (w' := w.alloc (.cells (madeCells z.cells (b.toNat * i.size)) e)) hg.size (fun k hk => hg.block k hk (by simp))
        refine ⟨_, _, _, _, _, hr, h, ⟨some ⟨w.heap.size, 0, none⟩, b.toNat, by rw [List.length_replicate], by rw [List.length_replicate]; omega, ?_, fun h => by cases h⟩, hqm.1, hqm.2, Fr.alloc _ _ _⟩
        intro j v hv
        have hlt := (List.getElem?_eq_some_iff.1 hv).1
        have hl := hown.1
        have hL : (List.replicate a.toNat (G.U.dflt e)).length = a.toNat := List.length_replicate
        generalize List.replicate a.toNat (G.U.dflt e) = L at hv hown hlt hl hL
        rw [← hL] at hown
        refine ⟨w.heap.size, 0, rfl, ?_, ?_, fun _ => hB _ (Nat.le_refl _)⟩
        · rw [Nat.zero_add, World.ownsRow.cellAt hown j (by rw [← hl]; exact hlt), hv]
        · intro id b hb hlb hk
          have := own_lt (hm.blk id b hb) hlb hk
          omega
      | true =>
      have := newOwn_ok hm hS (l := List.replicate a.toNat (G.U.dflt e)) (fun k hk => by cases hk; exact Nat.le_refl _) rfl hg hown
      exact ⟨_, _, _, _, _, hr, h, this⟩
    · cases h
  · cases h

theorem set_cells (off : Nat) : ∀ (l : List Value) (k : Nat) (cs : Array Value), off + k + l.length ≤ cs.size →
    ((l.zipIdx k).foldl (fun cs (p : Value × Nat) => cs.setIfInBounds (off + p.2) p.1) cs).toList = cs.toList.take (off + k) ++ (l ++ cs.toList.drop (off + k + l.length))
  | [], k, cs, _ => by simp
  | v :: l, k, cs, h => by
    simp only [List.zipIdx_cons, List.foldl_cons]
    simp only [List.length_cons] at h
    rw [set_cells off l (k + 1) _ (by simp; omega)]
    have := list_seg_step cs.toList (off + k) v l (by simp; omega)
    rw [Array.toList_setIfInBounds]
    simp only [List.append_assoc, List.length_cons] at this ⊢
    rw [show off + (k + 1) = off + k + 1 by omega]
    rw [this]

theorem fill_step {place : Nat → Option (Nat × Nat)} {cells : Array Value} {i off size : Nat} {v : Value} {rest : List (Nat × Value)} (hp : place i = some (off, size)) (hs : v.cells.size = size) (hl : off + size ≤ cells.size) :
    ∃ cells', Instr.fill place cells ((i, v) :: rest) = Instr.fill place cells' rest ∧ cells'.toList = cells.toList.take off ++ (v.cells.toList ++ cells.toList.drop (off + size)) := by
  refine ⟨v.cells.zipIdx.foldl (fun cs (p : Value × Nat) => cs.setIfInBounds (off + p.2) p.1) cells, ?_, ?_⟩
  · simp only [Instr.fill, hp]
    rw [if_neg (by simp [hs]; omega)]
  · rw [← Array.foldl_toList, Array.toList_zipIdx]
    have := set_cells off v.cells.toList 0 cells (by simp [hs]; omega)
    simp only [Nat.add_zero, Array.length_toList, hs] at this
    exact this

def PsR (U : Univ) (B : Nat → Prop) (ι : Nat → Value) (m : List (Blk U.El)) (w : World) : List (Nat × V U.El) → List (Nat × Value) → Prop
  | [], ps => ps = []
  | (i, v) :: vs, ps => ∃ u us, ps = (i, u) :: us ∧ VR U B ι m w v u ∧ PsR U B ι m w vs us

theorem mapM_get {α β : Type} (f : α → Option β) : ∀ (l : List α) (r : List β), l.mapM f = some r → ∀ (i : Nat) (x : α), l[i]? = some x → ∃ y : β, r[i]? = some y ∧ f x = some y
  | [], _, _, i, x, h => by simp at h
  | a :: l, r, h, i, x, hx => by
    simp only [List.mapM_cons, Option.bind_eq_bind, Option.pure_def] at h
    obtain ⟨b, h1, h⟩ := Option.bind_eq_some_iff.1 h
    obtain ⟨bs, h2, h⟩ := Option.bind_eq_some_iff.1 h
    cases h
    cases i with
    | zero => simp at hx; subst hx; exact ⟨b, rfl, h1⟩
    | succ i => exact mapM_get f l bs h2 i x (by simpa using hx)

theorem aFill_ok (hF : Fits P G.U G.ti) {fs : List (Nat × Nat)} {places : List (Nat × Nat)} (hpl : ∀ (i o ft : Nat) (y : TI), fs[i]? = some (o, ft) → G.ti ft = some y → places[i]? = some (o, y.size)) :
    ∀ {ps : List (Nat × V G.U.El)} {us : List (Nat × Value)} {cs cs' : List (C G.U.El)} {cells : Array Value}, PsR G.U B ι m w ps us → CsR G.U B ι m w cs cells.toList → aFill G fs ps cs = some cs' →
      ∃ cells', Instr.fill (places.toArray[·]?) cells us = some cells' ∧ CsR G.U B ι m w cs' cells'.toList
  | [], us, cs, cs', cells, hp, hc, h => by
    cases hp
    cases h
    exact ⟨cells, rfl, hc⟩
  | (i, .w v) :: ps, us, cs, cs', cells, ⟨u, us', e, hv, hp⟩, hc, h => by
    subst e
    simp only [aFill] at h
    split at h
    · rename_i o ft hf
      split at h
      · rename_i y hy
        split at h
        · rename_i hwd
          obtain ⟨cs1, h1, h2⟩ := Option.bind_eq_some_iff.1 h
          have hcv := WR.cells hv
          have hl := hcv.len hF.U
          obtain ⟨h3, h4⟩ := putAt_ok hF.U h1 hc hcv
          obtain ⟨cells', h5, h6⟩ := fill_step (rest := us') (place := (places.toArray[·]?)) (cells := cells) (i := i) (v := u) (by simpa using hpl i o ft y hf hy) (by rw [← Array.length_toList, hl, hwd]) (by simpa using h3)
          obtain ⟨cells2, h7, h8⟩ := aFill_ok hF hpl hp (cells := cells') (by rw [h6]; exact h4) h2
          exact ⟨cells2, h5.trans h7, h8⟩
        · cases h
      · cases h
    · cases h
  | (i, .un) :: ps, _, _, _, _, _, _, h | (i, .und) :: ps, _, _, _, _, _, _, h | (i, .tup _) :: ps, _, _, _, _, _, _, h => by simp [aFill] at h

theorem aBuild_ok (hF : Fits P G.U G.ti) {t : Nat} {ps : List (Nat × V G.U.El)} {us : Array (Nat × Value)} (hp : PsR G.U B ι m w ps us.toList) (h : aBuild G t ps K = some r) :
    RunsP P G B ι m w (Instr.build t us) K r := by
  unfold aBuild at h
  split at h
  · rename_i x hx
    split at h
    · rename_i fs hfs
      have hti := hF.ti t x hx
      have hty := hti.ty
      rw [hfs] at hty
      obtain ⟨F, h1, h2, ⟨places, h3⟩, _⟩ := hty
      obtain ⟨i, z, hi, hsz, hby, hz, hc, _⟩ := hti.info
      cases hcs : aFill G fs ps (zeroC G.U x.zero) with
      | none => rw [hcs] at h; cases h
      | some cs =>
        rw [hcs] at h
        have hpl : ∀ (i o ft : Nat) (y : TI), fs[i]? = some (o, ft) → G.ti ft = some y → places[i]? = some (o, y.size) := by
          intro i o ft y e1 e2
          rw [← h2, List.getElem?_map] at e1
          obtain ⟨fl, e3, e4⟩ := Option.map_eq_some_iff.1 e1
          obtain ⟨q, e5, e6⟩ := mapM_get _ _ _ h3 i fl e3
          obtain ⟨inf, _, e7, e8, _⟩ := (hF.ti ft y e2).info
          cases e4
          rw [e7] at e6
          cases e6
          rw [e5, ← e8]
        obtain ⟨cells, h4, h5⟩ := aFill_ok hF hpl hp (cells := z.cells) (by rw [hc]; exact zeroC_ok _) hcs
        refine ⟨_, _, run_build w t us cells ?_, h, cells.toList, rfl, h5⟩
        simp only [Program.built, hi, h1, hz, h3]
        exact h4
    · cases h
  · cases h

theorem litFill_ok (hF : Fits P G.U G.ti) {e : Nat} :
    ∀ {ps : List (Nat × V G.U.El)} {us : List (Nat × Value)} {l l' : List (G.U.El e)} {cells : Array Value}, PsR G.U B ι m w ps us → cells.toList = flat G.U e l → litFill G e ps l = some l' →
      l'.length = l.length ∧ ∃ cells', Instr.fill (fun i => some (i * G.U.sz e, G.U.sz e)) cells us = some cells' ∧ cells'.toList = flat G.U e l'
  | [], us, l, l', cells, hp, hc, h => by
    cases hp
    cases h
    exact ⟨rfl, cells, rfl, hc⟩
  | (i, .w v) :: ps, us, l, l', cells, ⟨u, us', e', hv, hp⟩, hc, h => by
    subst e'
    simp only [litFill] at h
    split at h
    · rename_i hi
      obtain ⟨vs, h1, h⟩ := Option.bind_eq_some_iff.1 h
      split at h
      · rename_i hl
        obtain ⟨y, h2, h⟩ := Option.bind_eq_some_iff.1 h
        have hcv := WR.cells hv
        have hus := scs_ok h1 hcv
        have hy := hF.U.back _ _ _ h2
        have hsz : cells.size = l.length * G.U.sz e := by rw [← Array.length_toList, hc, flat_len hF.U]
        have hle : i * G.U.sz e + G.U.sz e ≤ cells.size := by
          rw [hsz]
          calc i * G.U.sz e + G.U.sz e = (i + 1) * G.U.sz e := by rw [Nat.add_mul]; omega
            _ ≤ l.length * G.U.sz e := Nat.mul_le_mul_right _ hi
        obtain ⟨cells', h5, h6⟩ := fill_step (rest := us') (place := fun i => some (i * G.U.sz e, G.U.sz e)) (cells := cells) (i := i) (v := u) rfl (by rw [← Array.length_toList, hus, hl]) hle
        have h7 : cells'.toList = flat G.U e (l.set i y) := by rw [h6, hc, flat_set hF.U e l i hi, hus, hy]
        obtain ⟨h8, cells2, h9, h10⟩ := litFill_ok hF hp h7 h
        exact ⟨by rw [h8, List.length_set], cells2, h5.trans h9, h10⟩
      · cases h
    · cases h
  | (i, .un) :: ps, _, _, _, _, _, _, h | (i, .und) :: ps, _, _, _, _, _, _, h | (i, .tup _) :: ps, _, _, _, _, _, _, h => by simp [litFill] at h

theorem aBuildSlice_ok (hF : Fits P G.U G.ti) (hm : MR G.U B S ι m w) (hS : ∀ k, w.heap.size ≤ k → S k) (hB : ∀ k, w.heap.size ≤ k → B k) {own : Bool} {t len : Nat} {ps : List (Nat × V G.U.El)} {us : Array (Nat × Value)} (hp : PsR G.U B ι m w ps us.toList)
    (h : aBuildSlice G own t len ps m K2 = some r) : RunsM P G B S ι m w (Instr.buildSlice t len us) K2 r := by
  unfold aBuildSlice at h
  split at h
  · rename_i e ht
    split at h
    · rename_i l hl
      split at hl
      · rename_i hmax
        obtain ⟨hu, y, hy, hs, h0, _⟩ := tyOf_ok hF ht
        obtain ⟨i, z, hi, hsz, hby, hz, hc, _⟩ := (hF.ti e y hy).info
        have hel : zvals G.U y.zero = G.U.cells e (G.U.dflt e) := by
          obtain ⟨x, hx, hty⟩ := Option.map_eq_some_iff.1 ht
          exact (hF.ti t x hx).el e 0 (.inl hty) y hy
        have hz0 : (if len * G.U.sz e = 0 then (#[] : Array Value) else z.cells) = if len = 0 then #[] else z.cells := by
          by_cases hl0 : len = 0
          · simp [hl0]
          · rw [if_neg hl0, if_neg (by intro h; rcases Nat.mul_eq_zero.1 h with h | h <;> omega)]
        have hcells : ((Array.range (len * G.U.sz e)).map (fun j => (if len * G.U.sz e = 0 then (#[] : Array Value) else z.cells)[j % (if len * G.U.sz e = 0 then (#[] : Array Value) else z.cells).size]!)).toList = flat G.U e (List.replicate len (G.U.dflt e)) := by
          by_cases hl0 : len = 0
          · subst hl0; simp [flat]
          · rw [if_neg (by intro h; rcases Nat.mul_eq_zero.1 h with h | h <;> omega)]
            have := made_flat hF.U (z := z.cells) (by rw [hc, hel]) (by omega) len (len * G.U.sz e) (Nat.le_refl _)
            rw [← this, List.take_of_length_le (by simp [madeCells])]
            rfl
        obtain ⟨hlen, cells', h1, h2⟩ := litFill_ok hF hp hcells hl
        rw [List.length_replicate] at hlen
        have hsize : cells'.size = len * G.U.sz e := by rw [← Array.length_toList, h2, flat_len hF.U, hlen]
        have hrun : (Instr.buildSlice t len us).run P w = .ok (.slice (some ⟨w.heap.size, 0, none⟩) len len) (w.alloc (.cells cells' e)) := by
          by_cases hl0 : len * G.U.sz e = 0
          · rw [if_pos hl0] at h1
            simp [Instr.buildSlice, run_underlying hu, sizeOf_run (hF.ti e y hy), hs, hl0, h1, newRow]
            simp [hl0] at h1
            simp [h1]
          · rw [if_neg hl0] at h1
            simp [Instr.buildSlice, run_underlying hu, sizeOf_run (hF.ti e y hy), hs, hl0, Nat.not_lt.2 hmax, zeroValue, typeInfo, hi, hz, h1, newRow]
        have hg := World.grownBy_alloc w (.cells cells' e) none
        split at h
        · have hown : (w.alloc (.cells cells' e)).ownsRow 0 e (G.U.sz e) (.slice (some ⟨w.heap.size, 0, none⟩) len len) l.length (flat G.U e l) := by
            have := World.ownsRow_lit (base := 0) (e := e) (size := G.U.sz e) w cells' len (Nat.zero_le _) (by
              have : len * 1 ≤ len * G.U.sz e := Nat.mul_le_mul_left _ (by omega)
              simp [maxLen]; omega) hsize
            rw [h2] at this
            rw [hlen]
            exact this
          have := newOwn_ok hm hS (l := l) (fun k hk => by cases hk; exact Nat.le_refl _) rfl hg hown
          exact ⟨_, _, _, _, _, hrun, h, this⟩
        · have hq := hm.quiet (w' := w.alloc (.cells cells' e)) hg.size (fun k hk => hg.block k hk (by simp))
          refine ⟨_, _, _, _, _, hrun, h, ⟨some ⟨w.heap.size, 0, none⟩, len, by rw [hlen], by omega, ?_, fun _ => hlen.symm⟩, hq.1, hq.2, Fr.alloc _ _ _⟩
          intro j v hv
          refine ⟨w.heap.size, 0, rfl, ?_, ?_, fun _ => hB _ (Nat.le_refl _)⟩
          · rw [← h2, Array.getElem?_toList] at hv
            rw [Nat.zero_add]
            exact (cell_of_row (w.alloc (.cells cells' e)) w.heap.size j cells' e (0, 0) (heap_alloc_new w _)).trans hv
          · intro id b hb hlb hk
            have := own_lt (hm.blk id b hb) hlb hk
            omega
      · cases hl
    · cases h
  · cases h
theorem fnParts_ok : ∀ {ps : List (Nat × V G.U.El)} {us : List (Nat × Value)} {k : Nat} {cs : List (C G.U.El)} {cells : Array Value}, PsR G.U B ι m w ps us → fnParts G ps k = some cs → k + cs.length ≤ cells.size →
    ∃ cells' vs, Instr.fill (fun i => some (i * 1, 1)) cells us = some cells' ∧ cells'.toList = cells.toList.take k ++ (vs ++ cells.toList.drop (k + cs.length)) ∧ CsR G.U B ι m w cs vs ∧ vs.length = cs.length
  | [], us, k, cs, cells, hp, h, _ => by
    cases hp
    cases h
    exact ⟨cells, [], rfl, by simp, rfl, rfl⟩
  | (i, v) :: ps, us, k, cs, cells, ⟨u, us', e', hv, hp⟩, h, hk => by
    subst e'
    have step : ∀ (c : C G.U.El) (cs' : List (C G.U.El)), i = k → CR G.U B ι m w c u → CW G.U B ι m w c [u] → fnParts G ps (k + 1) = some cs' → cs = c :: cs' → ∃ cells' vs, Instr.fill (fun i => some (i * 1, 1)) cells ((i, u) :: us') = some cells' ∧ cells'.toList = cells.toList.take k ++ (vs ++ cells.toList.drop (k + cs.length)) ∧ CsR G.U B ι m w cs vs ∧ vs.length = cs.length := by
      rintro c cs' rfl hc hw hps rfl
      simp only [List.length_cons] at hk
      have hu1 : u.cells.toList = [u] := by
        have := hc.one
        cases u <;> first | rfl | (simp [Value.oneCell'] at this)
      obtain ⟨cells1, h1, h2⟩ := fill_step (rest := us') (place := fun i => some (i * 1, 1)) (cells := cells) (i := i) (v := u) rfl (by rw [← Array.length_toList, hu1]; rfl) (by omega)
      rw [hu1, Nat.mul_one] at h2
      have hs1 : cells1.size = cells.size := by
        rw [← Array.length_toList, h2]
        simp
        omega
      obtain ⟨cells2, vs, h3, h4, h5, h6⟩ := fnParts_ok (cells := cells1) hp hps (by omega)
      refine ⟨cells2, u :: vs, h1.trans h3, ?_, ⟨[u], vs, rfl, hw, h5⟩, by simp [h6]⟩
      have hlen : (cells.toList.take i).length = i := by simp; omega
      rw [h4, h2, List.take_append, hlen, show i + 1 - i = 1 by omega, List.take_of_length_le (by omega), List.drop_append, hlen, List.drop_eq_nil_of_le (as := cells.toList.take i) (by omega)]
      simp only [List.singleton_append, List.take_succ_cons, List.take_zero, List.nil_append, List.append_assoc, List.cons_append]
      rw [show i + 1 + cs'.length - i = cs'.length + 1 by omega, List.drop_succ_cons, List.drop_drop, show i + 1 + cs'.length = i + (c :: cs').length by simp; omega]
    cases v with
    | w y =>
      cases y with
      | c c =>
        cases c with
        | fn f caps =>
          simp only [fnParts] at h
          split at h
          · rename_i hik
            obtain ⟨cs', h1, h2⟩ := Option.map_eq_some_iff.1 h
            have hv' : CR G.U B ι m w (.fn f caps) u := hv
            exact step _ cs' hik hv' (CR.cw hv') h1 h2.symm
          · cases h
        | bfn f a b =>
          simp only [fnParts] at h
          split at h
          · rename_i hik
            obtain ⟨cs', h1, h2⟩ := Option.map_eq_some_iff.1 h
            have hv' : CR G.U B ι m w (.bfn f a b) u := hv
            exact step _ cs' hik hv' (CR.cw hv') h1 h2.symm
          · cases h
        | _ => simp [fnParts] at h
      | agg => simp [fnParts] at h
    | _ => simp [fnParts] at h

theorem aBuildFns_ok (hF : Fits P G.U G.ti) (hm : MR G.U B S ι m w) (hS : ∀ k, w.heap.size ≤ k → S k) {own : Bool} {t len : Nat} {ps : List (Nat × V G.U.El)} {us : Array (Nat × Value)} (hp : PsR G.U B ι m w ps us.toList)
    (h : aBuildFns G own t len ps m K2 = some r) : RunsM P G B S ι m w (Instr.buildSlice t len us) K2 r := by
  unfold aBuildFns at h
  split at h
  · rename_i e cs ht hcs
    split at h
    · rename_i hcond
      obtain ⟨_, hcl, hpos, hmax⟩ := hcond
      obtain ⟨hu, y, hy, hs⟩ := tyOf_ok hF ht
      obtain ⟨i, z, hi, hsz, hby, hz, hc, _⟩ := (hF.ti e y hy).info
      obtain ⟨cells', vs, h1, h2, h3, h4⟩ := fnParts_ok (cells := (Array.range (len * 1)).map (fun j => z.cells[j % z.cells.size]!)) hp hcs (by simp; omega)
      have hl : ((Array.range (len * 1)).map (fun j => z.cells[j % z.cells.size]!)).toList.length = len := by simp
      have hv : cells'.toList = vs := by
        rw [h2, List.take_zero, List.nil_append, List.drop_eq_nil_of_le (by omega), List.append_nil]
      have hne : ¬ (len * 1 = 0) := by omega
      have hrun : (Instr.buildSlice t len us).run P w = .ok (.slice (some ⟨w.heap.size, 0, none⟩) len len) (w.alloc (.cells cells' e)) := by
        simp only [Nat.mul_one] at h1
        have hle : len ≤ 16777216 := by omega
        simp [Instr.buildSlice, run_underlying hu, sizeOf_run (hF.ti e y hy), hs, show ¬ len = 0 by omega, Nat.not_lt.2 hle, zeroValue, typeInfo, hi, hz, h1, newRow]
      have hpush := hm.push (w' := w.alloc (.cells cells' e)) hS (.st e cs) (.pointer (some ⟨w.heap.size, 0, none⟩)) (by simp) (fun k hk => heap_alloc_old w _ k hk) (fun k hk => by cases hk; exact Nat.le_refl _)
        (fun hg => ⟨w.heap.size, cells', by simp [updι], heap_alloc_new w _, by rw [hv]; exact h3.grow hg⟩)
      exact ⟨_, _, _, _, _, hrun, h, ⟨by simp, w.heap.size, by simp [updι], rfl⟩, hpush.1, hpush.2, Fr.alloc _ _ _⟩
    · cases h
  · cases h
end
end Go.Proofs.Ytnjmkkgmlkhjeaa.AM
namespace Go.Proofs.Ytnjmkkgmlkhjeaa.AM
open Go.RowKit
variable {ρ : Type}

section
variable {P : Program} {G : Cfg} {B : Nat → Prop} {S : Nat → Prop} {ι : Nat → Value} {m : List (Blk G.U.El)} {w : World} {r : ρ} {K : W G.U.El → Option ρ} {K2 : W G.U.El → List (Blk G.U.El) → Option ρ}

theorem own_slice {w : World} {base e size n : Nat} {v : Value} {xs : List Value} (h : w.ownsRow base e size v n xs) : v.oneCell' = true ∧ v.ownBlock = ownOf v := by
  rcases h.2 with ⟨rfl, _⟩ | ⟨g, cap, cur, rfl, _⟩ <;> exact ⟨rfl, rfl⟩

theorem append_none (w : World) (t ty e : TypeId) (i : TypeInfo) (size : Nat) (ht : P.underlying t = some (.slice e)) (hi : P.info? e = some i) (v : Value) (n c : Nat) (xs : List Value) (hown : w.ownsRow 0 e size v n xs) :
    (Builtin.append_ #[t, t] ty #[v, .slice none 0 c]).run P w = .ok v w := by
  rcases hown.2 with ⟨rfl, rfl⟩ | ⟨g, cap, cur, rfl, _, _, hnc, _⟩
  · simp [Builtin.append_, run_underlying ht, sizeOf, typeInfo, hi, Builtin.lenOf, Builtin.firstCells]
  · simp [Builtin.append_, run_underlying ht, sizeOf, typeInfo, hi, Builtin.lenOf, Builtin.firstCells, hnc, storeCells]

theorem aMinMax_ok {mn : Bool} {x y : V G.U.El} {ux uy : Value} {ts : Array TypeId} {t : Nat} (hx : VR G.U B ι m w x ux) (hy : VR G.U B ι m w y uy) (h : aMinMax G mn x y K = some r) :
    RunsP P G B ι m w (if mn then Builtin.min_ ts t #[ux, uy] else Builtin.max_ ts t #[ux, uy]) K r := by
  unfold aMinMax at h
  split at h
  · rename_i k a k' b
    cases vr_sc hx
    cases vr_sc hy
    split at h
    · rename_i hk
      subst hk
      cases mn
      · refine ⟨_, _, ?_, h, wr_sc rfl⟩
        rw [if_neg (by simp), run_max_int2]
        congr 2
        simp only [Bool.false_eq_true, if_false]
        omega
      · refine ⟨_, _, ?_, h, wr_sc rfl⟩
        rw [if_pos rfl, run_min_int2]
        congr 2
        simp only [if_true]
        omega
    · cases h
  · cases h

theorem aAppend_ok (hF : Fits P G.U G.ti) (hm : MR G.U B S ι m w) (hS : ∀ k, w.heap.size ≤ k → S k) {t ty : Nat} {s x : V G.U.El} {us ux : Value} (hs : VR G.U B ι m w s us) (hx : VR G.U B ι m w x ux)
    (h : aAppend G t s x m K2 = some r) : RunsM P G B S ι m w (Builtin.append_ #[t, t] ty #[us, ux]) K2 r := by
  unfold aAppend at h
  split at h
  case h_2 => cases h
  rename_i e s x ht
  split at h
  case h_2 => cases h
  rename_i new y hnew hy
  obtain ⟨A, capx, rfl, hrd, _⟩ := rowOf_ok hF hm hx hnew
  obtain ⟨hu, y', hy', hsz, h0, h0'⟩ := tyOf_ok hF ht
  rw [hy] at hy'
  cases hy'
  obtain ⟨i, z, hi, hisz, hiby, hz, hzc, _⟩ := (hF.ti e y hy).info
  have hel : zvals G.U y.zero = G.U.cells e (G.U.dflt e) := by
    obtain ⟨q, hq, hty⟩ := Option.map_eq_some_iff.1 ht
    exact (hF.ti t q hq).el e 0 (.inl hty) y hy
  have hzs : z.cells.size = G.U.sz e := by rw [← Array.length_toList, hzc, hel]; rfl
  have hpos : 0 < G.U.sz e := by omega
  -- an append to a row of the call's own
  have own : ∀ (v : Value) (l : List (G.U.El e)), w.ownsRow 0 e (G.U.sz e) v l.length (flat G.U e l) → (l.length + new.length) * y.bytes ≤ 140737488355328 →
      ∃ v' w', (Builtin.append_ #[t, t] ty #[v, .slice A new.length capx]).run P w = .ok v' w' ∧ w'.ownsRow 0 e (G.U.sz e) v' (l ++ new).length (flat G.U e (l ++ new)) ∧ w.grownBy w' v.ownBlock ∧
        (v'.ownBlock = v.ownBlock ∨ v'.ownBlock = some w.heap.size) := by
    intro v l hown hb
    cases A with
    | none =>
      have hn : new = [] := by
        cases new with
        | nil => rfl
        | cons q qs =>
          have : 0 < (flat G.U e (q :: qs)).length := by rw [flat_len hF.U]; exact Nat.mul_pos (by simp) hpos
          obtain ⟨b, o, hA, _⟩ := hrd 0 _ (List.getElem?_eq_getElem this)
          cases hA
      subst hn
      refine ⟨v, w, ?_, by simpa using hown, ⟨rfl, rfl, rfl, Nat.le_refl _, fun _ _ _ => rfl⟩, .inl rfl⟩
      exact append_none w t ty e i (G.U.sz e) hu hi v l.length capx _ hown
    | some a =>
      have hle : l.length + new.length ≤ maxLen := by
        have : (l.length + new.length) * 1 ≤ (l.length + new.length) * y.bytes := Nat.mul_le_mul_left _ h0'
        simp only [maxLen]
        omega
      obtain ⟨v', w', h1, h2, h3, _, h5⟩ := run_append_own_at (P := P) w 0 t ty e i z (G.U.sz e) y.bytes hu hi hz (hisz.trans hsz) hiby hzs hpos v l.length _ hown a new.length capx (flat G.U e new) (flat_len hF.U _ _) (fun j u hj => by
        obtain ⟨b, o, hA, hc⟩ := hrd j u hj
        cases hA
        rw [Addr.add_lit]
        exact hc) (flat_one hF.U e new) hle hb (Nat.zero_le _)
      exact ⟨v', w', h1, by rw [List.length_append, flat_append]; exact h2, h3, h5⟩
  split at h
  · rename_i id
    obtain ⟨hid, rfl, _⟩ := hs
    split at h
    · rename_i e' l hm'
      split at h
      · rename_i he
        subst he
        obtain ⟨hb, h⟩ := cond_y.1 h
        simp only [decide_eq_true_eq] at hb
        have hbl := hm.blk _ _ hm'
        simp only [BR] at hbl
        obtain ⟨v', w', h1, h2, h3, h4⟩ := own _ l hbl hb
        have hov := (own_slice hbl).2
        have hov' := own_slice h2
        have hlen : (m.set id (.dead : Blk G.U.El)).length = m.length := List.length_set
        have hlast : ∀ b, (m.set id .dead ++ [Blk.da e' (l ++ new)])[m.length]? = some b → b = .da e' (l ++ new) := by
          intro b hb
          rw [List.getElem?_append_right (by rw [hlen]; exact Nat.le_refl _)] at hb
          simpa [hlen] using hb.symm
        have hu := hm.upd (m' := m.set id .dead ++ [.da e' (l ++ new)]) (ι' := updι ι m.length v') (w' := w') (fun k => ownOf (ι id) = some k) (by simp) (fun i hi => by simp [updι, Nat.ne_of_lt hi]) h3.size
          (fun k hk hne => h3.block k hk (by rw [hov]; exact fun e => hne e.symm)) (fun k hk => ⟨id, _, hm', trivial, hk⟩) (fun i => i = m.length)
          (fun i b hb hlb hne => by
            have hlt := (List.getElem?_eq_some_iff.1 hb).1
            simp only [List.length_append, hlen, List.length_cons, List.length_nil] at hlt
            have hlt' : i < m.length := by omega
            rw [List.getElem?_append_left (by rw [hlen]; exact hlt')] at hb
            by_cases hii : i = id
            · subst hii
              rw [List.getElem?_set_self hlt'] at hb
              cases hb
              exact hlb.elim
            · rw [List.getElem?_set_ne (Ne.symm hii)] at hb
              exact ⟨hlt', hb, fun k hk hk' => hii (hm.inj i id b _ k hb hm' hlb trivial hk hk')⟩)
          (fun i b k hb hlb hi hk => by
            subst hi
            simp only [updι, if_true] at hk
            rw [← hov'.2] at hk
            rcases h4 with h4 | h4
            · rw [h4, hov] at hk
              exact ⟨.inl hk, hm.inS id _ k hm' trivial hk⟩
            · rw [h4] at hk
              cases hk
              exact ⟨.inr (Nat.le_refl _), hS _ (Nat.le_refl _)⟩)
          (fun i j _ _ _ _ _ _ _ hi hj _ _ => hi.trans hj.symm)
          (fun _ i b hb _ hi => by
            subst hi
            cases hlast b hb
            simpa [BR, updι] using h2)
        refine ⟨_, v', _, _, w', h1, h, ⟨by simp, by simp [updι], hov'.1⟩, hu.1, hu.2, Fr.of_grown h3 fun k hk => hm.inS id _ k hm' trivial (by rw [← hov]; exact hk)⟩
      · cases h
    · cases h
  · rename_i e' l loc
    split at h
    · rename_i he
      subst he
      obtain ⟨A0, cap0, rfl, hle0, hrd0, htg⟩ := hs
      have hcap := htg rfl
      subst hcap
      rcases cond_some.1 h with ⟨h1, h⟩ | ⟨h1, h⟩
      · obtain ⟨hb, h⟩ := cond_y.1 h
        simp only [decide_eq_true_eq] at hb h1
        have hpn : 0 < (flat G.U e' new).length := by rw [flat_len hF.U]; exact Nat.mul_pos h1 hpos
        obtain ⟨b, o, hA, _⟩ := hrd 0 _ (List.getElem?_eq_getElem hpn)
        subst hA
        have fin : ∀ v' w', (Builtin.append_ #[t, t] ty #[.slice A0 l.length l.length, .slice (some ⟨b, o, none⟩) new.length capx]).run P w = .ok v' w' → w'.ownsRow 0 e' (G.U.sz e') v' (l ++ new).length (flat G.U e' (l ++ new)) →
            w.grownBy w' none → (∀ k, ownOf v' = some k → w.heap.size ≤ k) → RunsM P G B S ι m w (Builtin.append_ #[t, t] ty #[.slice A0 l.length l.length, .slice (some ⟨b, o, none⟩) new.length capx]) K2 r := by
          intro v' w' h2 h3 h4 h5
          have := newOwn_ok hm hS (w' := w') (l := l ++ new) (v := v') h5 (own_slice h3).1 h4 h3
          exact ⟨_, v', _, _, w', h2, h, this⟩
        cases A0 with
        | none =>
          have hn : l = [] := by
            cases l with
            | nil => rfl
            | cons q qs =>
              have : 0 < (flat G.U e' (q :: qs)).length := by rw [flat_len hF.U]; exact Nat.mul_pos (by simp) hpos
              obtain ⟨b, o, hA, _⟩ := hrd0 0 _ (List.getElem?_eq_getElem this)
              cases hA
          subst hn
          obtain ⟨v', w', h2, h3, h4, h5⟩ := own (.slice none 0 0) [] (World.ownsRow_nil w 0 e' _) hb
          exact fin v' w' h2 h3 h4 (fun k hk => by
            rw [← (own_slice h3).2] at hk
            rcases h5 with h5 | h5
            · rw [h5] at hk; cases hk
            · rw [h5] at hk; cases hk; exact Nat.le_refl _)
        | some a0 =>
          have hle : l.length + new.length ≤ maxLen := by
            have : (l.length + new.length) * 1 ≤ (l.length + new.length) * y.bytes := Nat.mul_le_mul_left _ h0'
            simp only [maxLen]
            omega
          have hrun := run_append_grow (P := P) w t ty e' i z hu hi hz a0 l.length l.length (flat G.U e' l) (by rw [flat_len hF.U, hisz, hsz]) (fun j u hj => by
              obtain ⟨b, o, hA, hc, _⟩ := hrd0 j u hj
              cases hA
              rw [Addr.add_lit]
              exact hc) ⟨b, o, none⟩ new.length capx (flat G.U e' new) (by rw [flat_len hF.U, hisz, hsz]) (fun j u hj => by
              obtain ⟨b, o, hA, hc⟩ := hrd j u hj
              cases hA
              rw [Addr.add_lit]
              exact hc) (by omega) (by simp only [maxLen] at hle; omega) (growslice_fits (by omega) (by rw [hiby]; exact hb))
          have hge := grownCap_ge w (l.length + new.length) l.length e'
          have hcm := grownCap_le_maxLen w (l.length + new.length) l.length e' hle
          refine fin _ _ hrun ⟨flat_len hF.U _ _, .inr ⟨w.heap.size, _, _, by rw [List.length_append], Nat.zero_le _, heap_alloc_new w.drew _, by rw [List.length_append]; exact hge, hcm, ?_, ?_⟩⟩ ⟨rfl, rfl, rfl, by simp, fun k hk _ => heap_alloc_old w.drew _ k hk⟩ (fun k hk => by cases hk; exact Nat.le_refl _)
          · simp only [Array.size_append, List.size_toArray, size_zeroCells, hzs, flat_len hF.U, ← Nat.add_mul]
            congr 1
            omega
          · simp only [Array.toList_append, List.append_assoc]
            rw [← List.append_assoc, ← flat_append, ← flat_len hF.U]
            exact List.take_left
      · simp only [decide_eq_false_iff_not, Nat.not_lt, Nat.le_zero_eq] at h1
        have hn : new = [] := List.eq_nil_of_length_eq_zero h1
        subst hn
        refine ⟨_, .slice A0 l.length l.length, ι, m, w, ?_, h, ⟨A0, l.length, rfl, Nat.le_refl _, hrd0, fun _ => rfl⟩, Grow.refl, hm, Fr.refl _ _⟩
        have hf : ∀ A : Option Addr, (Builtin.firstCells i.size 0 (.slice A 0 capx)).run P w = .ok #[] w := by
          intro A
          cases A with
          | none => exact run_firstCells_none (P := P) w _ _ _ _
          | some a => exact run_firstCells_some (P := P) w i.size 0 a 0 capx [] (by simp) (fun j v hj => by simp at hj)
        cases A0 <;> simp [Builtin.append_, run_underlying hu, sizeOf, typeInfo, hi, Builtin.lenOf, hf, storeCells]
    · cases h
  · obtain ⟨rfl, _⟩ := hs
    obtain ⟨hb, h⟩ := cond_y.1 h
    simp only [decide_eq_true_eq] at hb
    obtain ⟨v', w', h1, h2, h3, h4⟩ := own (.slice none 0 0) [] (World.ownsRow_nil w 0 e _) (by simpa using hb)
    have hov' := own_slice h2
    have := newOwn_ok hm hS (w' := w') (l := new) (v := v') (fun k hk => by
      rw [← hov'.2] at hk
      rcases h4 with h4 | h4
      · rw [h4] at hk; cases hk
      · rw [h4] at hk; cases hk; exact Nat.le_refl _) hov'.1 h3 h2
    exact ⟨_, v', _, _, w', h1, h, this⟩
  · cases h
end
end Go.Proofs.Ytnjmkkgmlkhjeaa.AM
namespace Go.Proofs.Ytnjmkkgmlkhjeaa.AM
open Go.RowKit
variable {ρ : Type}

section
variable {P : Program} {G : Cfg} {B : Nat → Prop} {S : Nat → Prop} {ι : Nat → Value} {m : List (Blk G.U.El)} {w : World} {r : ρ} {K : W G.U.El → Option ρ} {K2 : W G.U.El → List (Blk G.U.El) → Option ρ}

def eqVs : List Nat → List Value → List Value → Option Bool
  | [], [], [] => some true
  | k :: ks, a :: as, b :: bs => match eqSc k a b, eqVs ks as bs with
    | some x, some y => some (x && y)
    | _, _ => none
  | _, _, _ => none

theorem eqVs_len : ∀ {ks : List Nat} {vs us : List Value} {b : Bool}, eqVs ks vs us = some b → vs.length = ks.length ∧ us.length = ks.length
  | [], [], [], _, _ => ⟨rfl, rfl⟩
  | k :: ks, v :: vs, u :: us, b, h => by
    simp only [eqVs] at h
    split at h
    · rename_i x y hx hy
      have := eqVs_len hy
      simp [this.1, this.2]
    · cases h
  | [], _ :: _, _, _, h => by simp [eqVs] at h
  | [], [], _ :: _, _, h => by simp [eqVs] at h
  | _ :: _, [], _, _, h => by simp [eqVs] at h
  | _ :: _, _ :: _, [], _, h => by simp [eqVs] at h

theorem eqVs_app : ∀ {k1 k2 : List Nat} {v1 v2 u1 u2 : List Value} {b1 b2 : Bool}, eqVs k1 v1 u1 = some b1 → eqVs k2 v2 u2 = some b2 → eqVs (k1 ++ k2) (v1 ++ v2) (u1 ++ u2) = some (b1 && b2)
  | [], k2, [], v2, [], u2, b1, b2, h1, h2 => by
    simp only [eqVs, Option.some.injEq] at h1
    subst h1
    simpa using h2
  | k :: k1, k2, v :: v1, v2, u :: u1, u2, b1, b2, h1, h2 => by
    simp only [eqVs] at h1
    split at h1
    · rename_i x y hx hy
      cases h1
      simp only [List.cons_append, eqVs, hx, eqVs_app hy h2, Bool.and_assoc]
    · cases h1
  | [], _, _ :: _, _, _, _, _, _, h, _ => by simp [eqVs] at h
  | [], _, [], _, _ :: _, _, _, _, h, _ => by simp [eqVs] at h
  | _ :: _, _, [], _, _, _, _, _, h, _ => by simp [eqVs] at h
  | _ :: _, _, _ :: _, _, [], _, _, _, h, _ => by simp [eqVs] at h

theorem eqVs_arr {U : Univ} (hU : UOk U) {e : Nat} {k : IntKind} (hk : (U.ent e).k = some k) : ∀ {a b : List (U.El e)}, a.length = b.length → eqVs (List.replicate a.length 0) (flat U e a) (flat U e b) = some (arrEq U e a b)
  | [], [], _ => rfl
  | y :: a, z :: b, h => by
    obtain ⟨n, hn⟩ := hU.int e k hk y
    obtain ⟨n', hn'⟩ := hU.int e k hk z
    have e1 : flat U e (y :: a) = [.int k n] ++ flat U e a := by simp [flat, hn]
    have e2 : flat U e (z :: b) = [.int k n'] ++ flat U e b := by simp [flat, hn']
    have ih := eqVs_arr hU hk (a := a) (b := b) (by simpa using h)
    rw [e1, e2, show List.replicate (y :: a).length 0 = [0] ++ List.replicate a.length 0 by simp [List.replicate_succ]]
    rw [eqVs_app (b1 := n == n') (by simp [eqVs, eqSc]) ih]
    simp [arrEq, hn, hn', intOf]
  | [], _ :: _, h => by simp at h
  | _ :: _, [], h => by simp at h

theorem eqCs_vs (hU : UOk G.U) : ∀ {as bs : List (C G.U.El)} {ks : List Nat} {vs us : List Value} {b : Bool}, eqCs G.U ks as bs = some b → CsR G.U B ι m w as vs → CsR G.U B ι m w bs us → eqVs ks vs us = some b := by
  intro as
  induction as with
  | nil =>
    intro bs ks vs us b h h1 h2
    cases ks <;> cases bs <;> simp only [eqCs] at h <;> first | cases h | skip
    cases h1
    cases h2
    rfl
  | cons a as ih =>
    intro bs ks vs us b h h1 h2
    cases bs with
    | nil => cases ks <;> cases a <;> simp [eqCs] at h
    | cons b' bs =>
      cases a with
      | sc a =>
        cases ks with
        | nil => cases b' <;> simp [eqCs] at h
        | cons k ks =>
          cases b' <;> simp only [eqCs] at h <;> first | cases h | skip
          obtain ⟨_, r1, e1, ⟨v, e2, e3, _⟩, h1⟩ := h1
          obtain ⟨_, r2, e4, ⟨u, e5, e6, _⟩, h2⟩ := h2
          split at h
          · rename_i x y hx hy
            cases h
            rw [e1, e2, e3, e4, e5, e6]
            simp only [List.singleton_append, eqVs, hx, ih hy h1 h2]
          · cases h
      | arr e n a =>
        cases b' with
        | arr e' n' b' =>
          have h' : (if h : e' = e then if n' = n ∧ (G.U.ent e).k.isSome = true ∧ ks.take n = List.replicate n 0 then match eqCs G.U (ks.drop n) as bs with
            | some y => some (arrEq G.U e a (h ▸ b') && y)
            | none => none
            else none else none) = some b := by
            cases ks <;> exact h
          split at h'
          · rename_i he
            subst he
            split at h'
            · rename_i hc
              obtain ⟨rfl, hk, ht⟩ := hc
              obtain ⟨k, hk⟩ := Option.isSome_iff_exists.1 hk
              split at h'
              · rename_i y hy
                cases h'
                obtain ⟨v1, r1, e1, ⟨l1, e2⟩, h1⟩ := h1
                obtain ⟨v2, r2, e3, ⟨l2, e4⟩, h2⟩ := h2
                have hi := ih hy h1 h2
                have ha := eqVs_arr hU hk (l1.trans l2.symm)
                rw [e1, e2, e3, e4, ← List.take_append_drop n' ks, ht, ← l1]
                rw [l1] at ha ⊢
                exact eqVs_app ha hi
              · cases h'
            · cases h'
          · cases h'
        | _ => cases ks <;> simp [eqCs] at h
      | _ => cases ks <;> cases b' <;> simp [eqCs] at h

theorem eqVs_split : ∀ (k1 : List Nat) {k2 : List Nat} {vs us : List Value} {b : Bool}, eqVs (k1 ++ k2) vs us = some b →
    ∃ b1 b2, eqVs k1 (vs.take k1.length) (us.take k1.length) = some b1 ∧ eqVs k2 (vs.drop k1.length) (us.drop k1.length) = some b2 ∧ b = (b1 && b2)
  | [], k2, vs, us, b, h => ⟨true, b, by simp [eqVs], by simpa using h, by simp⟩
  | k :: k1, k2, v :: vs, u :: us, b, h => by
    simp only [List.cons_append, eqVs] at h
    split at h
    · rename_i x y hx hy
      cases h
      obtain ⟨b1, b2, h1, h2, rfl⟩ := eqVs_split k1 hy
      exact ⟨x && b1, b2, by simp [eqVs, hx, h1], by simpa using h2, by simp [Bool.and_assoc]⟩
    · cases h
  | k :: k1, _, [], _, _, h => by simp [eqVs] at h
  | k :: k1, _, _ :: _, [], _, h => by simp [eqVs] at h

/-- A value of a type out of its cells' values. -/
def mkV (x : TI) (vs : List Value) : Value := if isAggT x then .agg vs.toArray else vs.headD undef

theorem part_val {t : Nat} {x : TI} (hx : TIok P G.U G.ti t x) (all : List Value) (o : Nat) (hl : o + x.size ≤ all.length) (h1 : isAggT x = false → x.size = 1) : (part t all.toArray o).run P w = .ok (mkV x ((all.drop o).take x.size)) w := by
  unfold mkV
  simp only [part, Sem.run_bind, isAgg_run hx, Result.andThen_ok]
  split
  · rename_i ha
    simp only [Sem.run_bind, sizeOf_run hx, Result.andThen_ok]
    have : all.toArray.extract o (o + x.size) = ((all.drop o).take x.size).toArray := by simp [List.extract_toArray, List.extract_eq_take_drop]
    rw [this]
    rfl
  · rename_i ha
    have hs := h1 (by simpa using ha)
    have hlt : o < all.length := by omega
    have : ((all.drop o).take x.size) = [all[o]] := by
      rw [hs, List.drop_eq_getElem_cons hlt]
      rfl
    simp [this, hlt]

theorem eqFs_len {p : Nat → Option (List Nat)} : ∀ {fs : List (Nat × Nat)} {off size : Nat} {ks : List Nat}, eqFs p fs off size = some ks → off + ks.length = size
  | [], off, size, ks, h => by
    simp only [eqFs] at h
    split at h
    · cases h; simpa
    · cases h
  | (o, ft) :: fs, off, size, ks, h => by
    simp only [eqFs] at h
    split at h
    · obtain ⟨k1, h1, h2⟩ := Option.bind_eq_some_iff.1 h
      obtain ⟨k2, h3, rfl⟩ := Option.map_eq_some_iff.1 h2
      have := eqFs_len h3
      simp
      omega
    · cases h

theorem eqTy_len {ti : Nat → Option TI} : ∀ {d t : Nat} {ks : List Nat}, eqTy ti d t = some ks → ∃ x, ti t = some x ∧ ks.length = x.size ∧ (isAggT x = false → x.size = 1)
  | 0, _, _, h => by simp [eqTy] at h
  | d + 1, t, ks, h => by
    simp only [eqTy] at h
    split at h
    · rename_i x hx
      refine ⟨x, hx, ?_⟩
      split at h
      · split at h
        · rename_i hs; cases h; exact ⟨hs.symm, fun _ => hs⟩
        · cases h
      · split at h
        · rename_i hs; cases h; exact ⟨hs.symm, fun _ => hs⟩
        · cases h
      · split at h
        · rename_i hs; cases h; exact ⟨hs.symm, fun _ => hs⟩
        · cases h
      · rename_i fs hfs
        have := eqFs_len h
        exact ⟨by omega, fun h => by simp [isAggT, hfs] at h⟩
      · rename_i n e hfs
        split at h
        · split at h
          · rename_i hs
            cases h
            exact ⟨by simp [hs], fun h => by simp [isAggT, hfs] at h⟩
          · cases h
        · cases h
      · cases h
    · cases h

theorem eqVal_ok (hF : Fits P G.U G.ti) : ∀ (d : Nat) {t D : Nat} {x : TI} {ks : List Nat} {vs us : List Value} {b : Bool}, eqTy G.ti d t = some ks → d ≤ D → G.ti t = some x → eqVs ks vs us = some b →
    (Op.equalIn D t (mkV x vs) (mkV x us)).run P w = .ok b w
  | 0, _, _, _, _, _, _, _, h, _, _, _ => by simp [eqTy] at h
  | d + 1, t, 0, _, _, _, _, _, _, h, _, _ => by omega
  | d + 1, t, D + 1, x, ks, vs, us, b, h, hD, hx, he => by
    simp only [eqTy, hx] at h
    have hti := hF.ti t x hx
    have hty := hti.ty
    have single : ∀ k, ks = [k] → ∃ v u, vs = [v] ∧ us = [u] ∧ eqSc k v u = some b := by
      rintro k rfl
      obtain ⟨hl1, hl2⟩ := eqVs_len he
      match vs, us, hl1, hl2, he with
      | [v], [u], _, _, he =>
        simp only [eqVs] at he
        split at he
        · rename_i x y hx hy
          cases hy
          cases he
          exact ⟨v, u, rfl, rfl, by simpa using hx⟩
        · cases he
    split at h
    · rename_i k hk
      rw [hk] at hty
      split at h
      · cases h
        obtain ⟨v, u, rfl, rfl, h1⟩ := single 0 rfl
        have ha : isAggT x = false := by simp [isAggT, hk]
        simp only [mkV, ha, Bool.false_eq_true, if_false, List.headD_cons]
        cases v <;> cases u <;> simp only [eqSc] at h1 <;> first | cases h1 | skip
        split at h1
        · rename_i hkk
          subst hkk
          cases h1
          exact run_equalIn_int w D t _ k _ _ hty
        · cases h1
      · cases h
    · rename_i hk
      rw [hk] at hty
      split at h
      · cases h
        obtain ⟨v, u, rfl, rfl, h1⟩ := single 1 rfl
        have ha : isAggT x = false := by simp [isAggT, hk]
        simp only [mkV, ha, Bool.false_eq_true, if_false, List.headD_cons]
        cases v <;> cases u <;> simp only [eqSc] at h1 <;> first | cases h1 | skip
        exact run_equalIn_bool' w D t _ _ hty
      · cases h
    · rename_i hk
      rw [hk] at hty
      split at h
      · cases h
        obtain ⟨v, u, rfl, rfl, h1⟩ := single 2 rfl
        have ha : isAggT x = false := by simp [isAggT, hk]
        simp only [mkV, ha, Bool.false_eq_true, if_false, List.headD_cons]
        cases v <;> cases u <;> simp only [eqSc] at h1 <;> first | cases h1 | skip
        exact run_equalIn_string w D t _ _ hty
      · cases h
    · rename_i fs hfs
      rw [hfs] at hty
      obtain ⟨F, h1, h2, _, h3, _, h4⟩ := hty
      have ha : isAggT x = true := by simp [isAggT, hfs]
      simp only [mkV, ha, if_true]
      have hFo : P.fieldsOf t = F := by simp [Program.fieldsOf, h1]
      rw [run_equalIn_struct w D t _ _ (by rw [hFo]; exact h1) h3, hFo]
      have hlen := eqFs_len h
      obtain ⟨hl1, hl2⟩ := eqVs_len he
      have key : ∀ (fl : List Field) (off : Nat) (ks : List Nat) (b : Bool), (∀ f ∈ fl, f.name ≠ "_") → eqFs (eqTy G.ti d) (fl.map fun f => (f.offset, f.type)) off x.size = some ks → 
          eqVs ks (vs.drop off) (us.drop off) = some b → (Op.eqFields D vs.toArray us.toArray fl).run P w = .ok b w := by
        intro fl
        induction fl with
        | nil =>
          intro off ks b _ hh hb
          simp only [List.map_nil, eqFs] at hh
          split at hh
          · cases hh
            rw [List.drop_of_length_le (by omega), List.drop_of_length_le (by omega)] at hb
            cases hb
            rfl
          · cases hh
        | cons f fl ih =>
          intro off ks b hn hh hb
          have hk := eqFs_len hh
          simp only [List.map_cons, eqFs] at hh
          split at hh
          · rename_i hoff
            obtain ⟨k1, h5, h6⟩ := Option.bind_eq_some_iff.1 hh
            obtain ⟨k2, h7, rfl⟩ := Option.map_eq_some_iff.1 h6
            obtain ⟨b1, b2, h8, h9, rfl⟩ := eqVs_split k1 hb
            obtain ⟨y, hy, hks, h1s⟩ := eqTy_len h5
            rw [List.length_append] at hk
            rw [hks] at h8 h9
            have h10 := eqVal_ok hF d h5 (by omega : d ≤ D) hy h8
            have hpv := part_val (P := P) (w := w) (hF.ti _ y hy) vs off (by omega) h1s
            have hpu := part_val (P := P) (w := w) (hF.ti _ y hy) us off (by omega) h1s
            rw [List.drop_drop, List.drop_drop] at h9
            rw [hks] at h7
            have h11 := ih (off + y.size) k2 b2 (fun g hg => hn g (by simp [hg])) h7 h9
            simp only [Op.eqFields, hoff]
            rw [if_pos (hn f (by simp))]
            simp only [Sem.run_bind, hpv, hpu, h10, Result.andThen_ok]
            cases b1
            · simp
            · simpa using h11
          · cases hh
      exact key F.toList 0 ks b h4 (by rw [h2]; exact h) (by simpa using he)
    · rename_i n e hfs
      rw [hfs] at hty
      obtain ⟨h1, y, hy, _⟩ := hty
      split at h
      · rename_i he0
        split at h
        · rename_i hsz
          cases h
          have ha : isAggT x = true := by simp [isAggT, hfs]
          simp only [mkV, ha, if_true]
          obtain ⟨y', hy', hks, hs1⟩ := eqTy_len he0
          rw [hy] at hy'
          cases hy'
          obtain ⟨i, z, hi, hisz, _⟩ := (hF.ti e y hy).info
          have hc1 : P.cellsOf e = 1 := by simp [Program.cellsOf, hi, hisz, ← hks]
          rw [run_equalIn_array (w := w) D vs.toArray us.toArray h1 hi, hc1, List.range_eq_range']
          obtain ⟨hl1, hl2⟩ := eqVs_len he
          simp only [List.length_replicate] at hl1 hl2
          have key : ∀ (k j : Nat) (b : Bool), j + k = n → eqVs (List.replicate k 0) (vs.drop j) (us.drop j) = some b → (Op.eqItems D e 1 vs.toArray us.toArray (List.range' j k)).run P w = .ok b w := by
            intro k
            induction k with
            | zero =>
              intro j b hj hb
              rw [List.drop_of_length_le (by omega), List.drop_of_length_le (by omega)] at hb
              cases hb
              simp [Op.eqItems]
            | succ k ih =>
              intro j b hj hb
              rw [List.replicate_succ] at hb
              obtain ⟨b1, b2, h8, h9, rfl⟩ := eqVs_split [0] (k2 := List.replicate k 0) hb
              simp only [List.length_singleton, List.drop_drop] at h8 h9
              have h10 := eqVal_ok hF d he0 (by omega : d ≤ D) hy h8
              have hys : y.size = 1 := by simpa using hks.symm
              have hpv := part_val (P := P) (w := w) (hF.ti _ y hy) vs (j * 1) (by omega) hs1
              have hpu := part_val (P := P) (w := w) (hF.ti _ y hy) us (j * 1) (by omega) hs1
              rw [hys, Nat.mul_one] at hpv hpu
              have h11 := ih (j + 1) b2 (by omega) h9
              rw [List.range'_succ]
              simp only [Op.eqItems, Nat.mul_one, Sem.run_bind, hpv, hpu, h10, Result.andThen_ok]
              cases b1
              · simp
              · simpa using h11
          exact key n 0 b (by omega) (by simpa using he)
        · cases h
      · cases h
    · cases h

theorem aBin_ok (hF : Fits P G.U G.ti) {op : BinOp} {t : Nat} {x y : V G.U.El} {ux uy : Value} {ox oy : Operand} (hx : VR G.U B ι m w x ux) (hy : VR G.U B ι m w y uy) (h : aBin G.U G.ti op t x y K = some r) :
    RunsP P G B ι m w (do eqGuard op t ox oy ux uy; binOp op t ux uy) K r := by
  unfold aBin at h
  have un : ∀ {s : Sem Value}, (∃ u, ux = u ∧ eqGuard op t ox oy u uy = pure ()) → RunsP P G B ι m w s K r → s = binOp op t ux uy → RunsP P G B ι m w (do eqGuard op t ox oy ux uy; binOp op t ux uy) K r := by
    rintro s ⟨u, rfl, hg⟩ ⟨z, v, h1, h2, h3⟩ rfl
    exact ⟨z, v, by rw [hg]; simpa using h1, h2, h3⟩
  split at h
  · cases vr_sc hx
    cases vr_sc hy
    refine un ⟨_, rfl, eqGuard_at_int ..⟩ ?_ rfl
    split at h
    · exact aInt_ok t (.inl rfl) h
    · exact aInt_ok t (.inr (.inl rfl)) h
    · split at h
      · rename_i hk
        exact aInt_ok t (.inr (.inr hk)) h
      · cases h
  · cases vr_sc hx
    cases vr_sc hy
    exact un ⟨_, rfl, eqGuard_at_string ..⟩ (aStr_ok t h) rfl
  · cases vr_sc hx
    cases vr_sc hy
    split at h
    · rename_i ht
      have hu := tyOf_ok hF ht
      simp only [TyOk] at hu
      refine un ⟨_, rfl, eqGuard_at_bool ..⟩ ⟨_, _, ?_, h, wr_sc rfl⟩ rfl
      have := fun a b => run_equalIn_bool' (P := P) w 9999 t a b hu
      simp only [binOp, Op.equal, Op.maxDepth, Sem.run_bind, this, Result.andThen_ok, Sem.run_pure]
    · rename_i ht
      have hu := tyOf_ok hF ht
      simp only [TyOk] at hu
      refine un ⟨_, rfl, eqGuard_at_bool ..⟩ ⟨_, _, ?_, h, wr_sc rfl⟩ rfl
      have := fun a b => run_equalIn_bool' (P := P) w 9999 t a b hu
      simp only [binOp, Op.equal, Op.maxDepth, Sem.run_bind, this, Result.andThen_ok, Sem.run_pure]
    · cases h
  · rename_i as bs
    obtain ⟨vs, rfl, h1⟩ := hx
    obtain ⟨us, rfl, h2⟩ := hy
    have eq : ∀ b fs, (G.ti t).map TI.ty = some (.st fs) → ((eqTy G.ti 10 t).bind fun ks => eqCs G.U ks as bs) = some b → (Op.equal t (.agg vs.toArray) (.agg us.toArray)).run P w = .ok b w ∧ (eqGuard op t ox oy (.agg vs.toArray) (.agg us.toArray)).run P w = .ok () w := by
      intro b fs hst hb
      obtain ⟨ks, h3, h4⟩ := Option.bind_eq_some_iff.1 hb
      obtain ⟨x, hx, hks, h1s⟩ := eqTy_len h3
      have h5 := eqCs_vs hF.U h4 h1 h2
      have h6 := eqVal_ok (w := w) hF 10 h3 (by omega : 10 ≤ 10000) hx h5
      have hfs : x.ty = .st fs := by rw [hx] at hst; simpa using hst
      have ha : isAggT x = true := by simp [isAggT, hfs]
      have hty := (hF.ti t x hx).ty
      rw [hfs] at hty
      obtain ⟨F, _, _, _, _, h7, _⟩ := hty
      simp only [mkV, ha, if_true] at h6
      exact ⟨h6, run_eqGuard_agg w op t ox oy _ _ h7⟩
    split at h
    · rename_i fs b hst hb
      obtain ⟨h3, h4⟩ := eq b fs hst hb
      refine ⟨_, _, ?_, h, wr_sc rfl⟩
      simp only [Sem.run_bind, h4, Result.andThen_ok, binOp, h3, Sem.run_pure]
    · rename_i fs b hst hb
      obtain ⟨h3, h4⟩ := eq b fs hst hb
      refine ⟨_, _, ?_, h, wr_sc rfl⟩
      simp only [Sem.run_bind, h4, Result.andThen_ok, binOp, h3, Sem.run_pure]
    · cases h
  · cases h
end
end Go.Proofs.Ytnjmkkgmlkhjeaa.AM
namespace Go.Proofs.Ytnjmkkgmlkhjeaa.AM
open Go.RowKit
variable {ρ : Type}

def VsR (U : Univ) (B : Nat → Prop) (ι : Nat → Value) (m : List (Blk U.El)) (w : World) : List (V U.El) → List Value → Prop
  | [], vs => vs = []
  | x :: xs, vs => ∃ v r, vs = v :: r ∧ VR U B ι m w x v ∧ VsR U B ι m w xs r

/-- The function can be entered. -/
def Enters (P : Program) (f : Nat) : Prop := ∃ fn, P.funcs[f]? = some fn ∧ (fn.name == "runtime.NumGoroutine") = false ∧ fn.body.isSome = true

/-- The concrete values of what comes back. -/
def S1.bkV : S1 → List Value → List Value
  | .ip _, vs => vs.take 1
  | _, _ => []
def bkV1 (U : Univ) : List S1 → List Value → List Value
  | [], _ => []
  | s :: ss, vs => s.bkV vs ++ bkV1 U ss (vs.drop (s.width U))
def AS.bkV (U : Univ) : AS → Value → List Value
  | .c s, v => s.bkV [v]
  | .agg ss, .agg vs => bkV1 U ss vs.toList
  | .io _ _, v => [v]
  | .fnp _ (_ :: _), .func _ _ vs => vs.toList
  | _, _ => []
def bkVs (U : Univ) : List AS → List Value → List Value
  | s :: ss, v :: vs => s.bkV U v ++ bkVs U ss vs
  | _, _ => []

/-- The blocks that a call hands out, and those that come back behind them. -/
def endMem {El : Nat → Type} (ins outs : List AS) (y : Os El (outs ++ bkSs ins)) : List (Blk El) :=
  (encOs true true (outs ++ bkSs ins) y []).2 ++ bkBlks (bkSs ins) ((encOs true true (outs ++ bkSs ins) y []).1.drop outs.length)

/-- What a call's end must hold: of the new blocks, and of those that it was handed. -/
def Ended (U : Univ) (D S : Nat → Prop) (ins outs : List AS) (y : Os U.El (outs ++ bkSs ins)) (w w' : World) (cargs : List Value) (u : Value) : Prop :=
  Fr S w w' ∧ ∃ ι', VR U D ι' (endMem ins outs y) w' (resV ((encOs true true (outs ++ bkSs ins) y []).1.take outs.length)) u ∧ MR U D S ι' (endMem ins outs y) w' ∧
    ∀ j v, (bkVs U ins cargs)[j]? = some v → ι' ((encOs true true (outs ++ bkSs ins) y []).2.length + j) = v

structure ConOk (P : Program) (U : Univ) (key : Nat) (c : Con U.El) : Prop where
  enters : Enters P (key % 65536)
  sound : ∀ n x y, c.plain n x = some y → ∀ (D S : Nat → Prop) (ι : Nat → Value) (cargs : List Value) (w : World), (∀ k, w.heap.size ≤ k → S k) → (∀ k, S k → D k) →
    VsR U D ι (encIs c.ins x []).2 w (encIs c.ins x []).1 cargs → MR U D S ι (encIs c.ins x []).2 w →
    Calls P (key % 65536) cargs.toArray w fun e w' => ∃ u, e = .returned u ∧ Ended U D S c.ins c.outs y w w' cargs u

section
variable {P : Program} {G : Cfg} {B : Nat → Prop} {S : Nat → Prop} {ι : Nat → Value} {m : List (Blk G.U.El)} {w : World} {r : ρ}

theorem vr_w {x : W G.U.El} {v : Value} (h : WR G.U B ι m w x v) : VR G.U B ι m w (.w x) v := h

theorem ofConst_ok (v : Value) : VR G.U B ι m w (ofConst v) v := by
  cases v
  case agg cs =>
    simp only [ofConst]
    split
    · rename_i h
      exact ⟨cs.toList, rfl, CsR.scs fun v hv => List.all_eq_true.1 h v hv⟩
    · trivial
  case tuple => trivial
  all_goals exact vr_w (wr_sc rfl)

/-- The temporaries are what the environment says. -/
def ER (U : Univ) (B : Nat → Prop) (ι : Nat → Value) (m : List (Blk U.El)) (w : World) (e : Nat → V U.El) (a : Act) : Prop := ∀ t, VR U B ι m w (e t) (a.tmps.getD t undef)

theorem opv_ok {e : Nat → V G.U.El} {a : Act} (h : ER G.U B ι m w e a) (x : Operand) : VR G.U B ι m w (opv e x) (a.eval x) := by
  cases x with
  | tmp t => exact h t
  | const v => exact ofConst_ok v
  | func f => exact ⟨[], rfl, rfl, fun j p u hp _ => by simp at hp⟩
  | global g => trivial

theorem ps_ok {e : Nat → V G.U.El} {a : Act} (h : ER G.U B ι m w e a) : ∀ ps : List (Nat × Operand), PsR G.U B ι m w (ps.map fun p => (p.1, opv e p.2)) (ps.map fun p => (p.1, a.eval p.2))
  | [] => rfl
  | p :: ps => ⟨_, _, rfl, opv_ok h p.2, ps_ok h ps⟩

theorem vs_ok {e : Nat → V G.U.El} {a : Act} (h : ER G.U B ι m w e a) : ∀ xs : List Operand, VsR G.U B ι m w (xs.map (opv e)) (xs.map a.eval)
  | [] => rfl
  | x :: xs => ⟨_, _, rfl, opv_ok h x, vs_ok h xs⟩

theorem ovr_ok {e : Nat → V G.U.El} {a : Act} (h : ER G.U B ι m w e a) (x : Option Operand) : OVR G.U B ι m w (x.map (opv e)) (x.map a.eval) := by
  cases x with
  | none => trivial
  | some x => exact opv_ok h x

/-- What an operation must come to. -/
def OpOk (P : Program) (G : Cfg) (B : Nat → Prop) (S : Nat → Prop) (ι : Nat → Value) (m : List (Blk G.U.El)) (w : World) (s : Sem Next) (K : V G.U.El → List (Blk G.U.El) → Option ρ) (r : ρ) : Prop :=
  (∃ v u ι' m' w', (s.run P w = .ok (.value u) w' ∨ (s.run P w = .ok .skip w' ∧ u = undef)) ∧ K v m' = some r ∧ VR G.U B ι' m' w' v u ∧ Grow G.U ι m w ι' m' w' ∧ MR G.U B S ι' m' w' ∧ Fr S w w') ∨
  (∃ f args, s.run P w = .ok (.enter f args) w ∧ Calls P f args w fun e w' => ∃ v u ι' m', e = .returned u ∧ K v m' = some r ∧ VR G.U B ι' m' w' v u ∧ Grow G.U ι m w ι' m' w' ∧ MR G.U B S ι' m' w' ∧ Fr S w w')

variable {K : V G.U.El → List (Blk G.U.El) → Option ρ}

theorem OpOk.ofP (hm : MR G.U B S ι m w) {s : Sem Value} {s' : Sem Next} (hs : ∀ u w', s.run P w = .ok u w' → s'.run P w = .ok (.value u) w') (h : RunsP P G B ι m w s (fun x => K (.w x) m) r) : OpOk P G B S ι m w s' K r :=
  let ⟨x, u, h1, h2, h3⟩ := h
  .inl ⟨.w x, u, ι, m, w, .inl (hs _ _ h1), h2, h3, Grow.refl, hm, Fr.refl _ _⟩

theorem OpOk.ofM {s : Sem Value} {s' : Sem Next} (hs : ∀ u w', s.run P w = .ok u w' → s'.run P w = .ok (.value u) w') (h : RunsM P G B S ι m w s (fun x m' => K (.w x) m') r) : OpOk P G B S ι m w s' K r :=
  let ⟨x, u, ι', m', w', h1, h2, h3⟩ := h
  .inl ⟨.w x, u, ι', m', w', .inl (hs _ _ h1), h2, h3⟩

theorem WsR.get {xs : List (W G.U.El)} {vs : List Value} (h : WsR G.U B ι m w xs vs) : ∀ {i : Nat} {x : W G.U.El}, xs[i]? = some x → ∃ v, vs[i]? = some v ∧ WR G.U B ι m w x v := by
  induction xs generalizing vs with
  | nil => intro i x h; simp at h
  | cons y ys ih =>
    intro i x hx
    obtain ⟨v, r', rfl, h1, h2⟩ := h
    cases i with
    | zero => simp at hx; subst hx; exact ⟨v, rfl, h1⟩
    | succ i => exact ih h2 (by simpa using hx)

theorem caps_ok : ∀ {vs : List (V G.U.El)} {us : List Value} {cs : List (Nat × Nat)}, VsR G.U B ι m w vs us → capsOf vs = some cs → us.length = cs.length ∧ ∀ (j : Nat) (p : Nat × Nat) (u : Value), cs[j]? = some p → us[j]? = some u → PR G.U ι m p.1 p.2 u
  | [], us, cs, h, hc => by
    cases h
    cases hc
    exact ⟨rfl, fun j p u hp _ => by simp at hp⟩
  | .w (.c (.ptr a b)) :: vs, us, cs, ⟨u, us', e, h1, h2⟩, hc => by
    subst e
    obtain ⟨cs', h3, rfl⟩ := Option.map_eq_some_iff.1 (by simpa [capsOf] using hc)
    obtain ⟨h4, h5⟩ := caps_ok h2 h3
    refine ⟨by simp [h4], fun j p u' hp hu => ?_⟩
    cases j with
    | zero => simp at hp hu; subst hp; subst hu; exact h1
    | succ j => exact h5 j p u' (by simpa using hp) (by simpa using hu)
  | .un :: _, _, _, _, hc | .und :: _, _, _, _, hc | .tup _ :: _, _, _, _, hc | .w (.agg _) :: _, _, _, _, hc => by simp [capsOf] at hc
  | .w (.c (.sc _)) :: _, _, _, _, hc | .w (.c (.row ..)) :: _, _, _, _, hc | .w (.c (.sl _)) :: _, _, _, _, hc | .w (.c (.sub ..)) :: _, _, _, _, hc | .w (.c (.arr ..)) :: _, _, _, _, hc | .w (.c (.pda ..)) :: _, _, _, _, hc
  | .w (.c (.parr ..)) :: _, _, _, _, hc | .w (.c (.prow ..)) :: _, _, _, _, hc | .w (.c (.fn ..)) :: _, _, _, _, hc | .w (.c (.bfn ..)) :: _, _, _, _, hc | .w (.c (.fsl ..)) :: _, _, _, _, hc => by simp [capsOf] at hc
end
end Go.Proofs.Ytnjmkkgmlkhjeaa.AM
namespace Go.Proofs.Ytnjmkkgmlkhjeaa.AM
open Go.RowKit
variable {ρ : Type}

section
theorem dec_int {El : Nat → Type} {k : IntKind} {c : C El} {x : Int} (h : C.int? k c = some x) : c = .sc (.int k x) := by
  unfold C.int? at h
  split at h
  · split at h
    · rename_i hk
      cases h
      rw [hk]
    · cases h
  · cases h
theorem dec_bool {El : Nat → Type} {c : C El} {x : Bool} (h : C.bool? c = some x) : c = .sc (.bool x) := by
  unfold C.bool? at h
  split at h
  · cases h; rfl
  · cases h
theorem dec_str {El : Nat → Type} {c : C El} {x : ByteArray} (h : C.str? c = some x) : c = .sc (.string x) := by
  unfold C.str? at h
  split at h
  · cases h; rfl
  · cases h
theorem dec_arr {El : Nat → Type} {t n : Nat} {c : C El} {x : List (El t)} (h : C.arr? t n c = some x) : c = .arr t n x := by
  unfold C.arr? at h
  split at h
  · split at h
    · rename_i ht
      subst ht
      split at h
      · rename_i hn
        subst hn
        cases h
        rfl
      · cases h
    · cases h
  · cases h

theorem dec_own {El : Nat → Type} {m : List (Blk El)} {t : Nat} {c : C El} {l : List (El t)} (h : ownRow m t c = some l) : (∃ id, c = .sl id ∧ m[id]? = some (.da t l)) ∨ (c = .sc (.slice none 0 0) ∧ l = []) := by
  unfold ownRow at h
  split at h
  · rename_i id
    split at h
    · rename_i t' l' hm
      split at h
      · rename_i e
        subst e
        cases h
        exact .inl ⟨id, rfl, hm⟩
      · cases h
    · cases h
  · cases h
    exact .inr ⟨rfl, rfl⟩
  · cases h
theorem dec_rol {El : Nat → Type} {t : Nat} {c : C El} {l : List (El t)} (h : rolOf t c = some l) : (∃ tg loc, c = .row t l tg loc) ∨ (c = .sc (.slice none 0 0) ∧ l = []) := by
  unfold rolOf at h
  split at h
  · rename_i t' l' tg loc
    split at h
    · rename_i e
      subst e
      cases h
      exact .inl ⟨tg, loc, rfl⟩
    · cases h
  · cases h
    exact .inr ⟨rfl, rfl⟩
  · cases h
end

/-- Blocks that are handed over: from (ι, m) to (ιT, mT). -/
structure Over (U : Univ) (D D' : Nat → Prop) (lc : Bool) (ι : Nat → Value) (m : List (Blk U.El)) (src : List (Option Nat)) (us : List Nat) (ιT : Nat → Value) (mT : List (Blk U.El)) : Prop where
  len : mT.length = src.length
  is : ∀ i a, src[i]? = some (some a) → ιT i = ι a
  no : ∀ i, src[i]? = some none → ιT i = .slice none 0 0
  far : ∀ b, Far U ι m b → Far U ιT mT b
  use : ∀ i, i ∈ us → some i ∉ src
  inj : ∀ i j b b' k, m[i]? = some b → m[j]? = some b' → b.live → b'.live → ownOf (ι i) = some k → ownOf (ι j) = some k → i = j
  own : ∀ id b k, mT[id]? = some b → ownOf (ιT id) = some k → ∃ a b', src[id]? = some (some a) ∧ m[a]? = some b' ∧ b'.live ∧ ownOf (ι a) = some k
  rol : ∀ b, Far U ι m b → (lc = true → D b) → D' b

section
variable {P : Program} {G : Cfg} {B D' : Nat → Prop} {lc : Bool} {S : Nat → Prop} {ι ιT : Nat → Value} {m mT : List (Blk G.U.El)} {w : World} {src : List (Option Nat)} {us : List Nat}

/-- A block that is read alone is none of those that are handed over. -/
theorem Over.blk (O : Over G.U B D' lc ι m src us ιT mT) {id g : Nat} {q : Blk G.U.El} (hb : m[id]? = some q) (hl : q.live) (hu : id ∈ us) (hg : ownOf (ι id) = some g) : Far G.U ιT mT g := by
  intro i p hp hlp hk
  obtain ⟨a, b', e1, e2, e3, e4⟩ := O.own i p g hp hk
  have := O.inj a id b' _ g e2 hb e3 hl e4 hg
  subst this
  exact O.use a hu (List.mem_of_getElem? e1)

/-- A row, as a view. -/
theorem Over.view (hF : Fits P G.U G.ti) (hm : MR G.U B S ι m w) (O : Over G.U B D' lc ι m src us ιT mT) {t : Nat} {c : C G.U.El} {l : List (G.U.El t)} {vs : List Value} (lo : Bool) (h : rowOf m t c = some l) (hc : CW G.U B ι m w c vs)
    (hlo : lo = true → c.loc = true) (hmine : lo = true → ∀ id b k, m[id]? = some b → b.live → ownOf (ι id) = some k → D' k) (hus : ∀ i, i ∈ c.use → i ∈ us) : CW G.U D' ιT mT w (.row t l false lo) vs := by
  obtain ⟨v, rfl, hv⟩ : ∃ v, vs = [v] ∧ CR G.U B ι m w c v := CsR.single (by intro t n l e; subst e; simp [rowOf] at h) ⟨vs, [], by simp, hc, rfl⟩
  obtain ⟨A, cap, rfl, hr, hle⟩ := rowOf_ok hF hm hv h
  refine ⟨_, rfl, A, cap, rfl, hle, ?_, fun h => by cases h⟩
  cases c with
  | row t' l' tg lc' =>
    simp only [rowOf] at h
    split at h
    · rename_i e
      subst e
      cases h
      obtain ⟨A', cap', e1, _, h3, _⟩ := hv
      cases e1
      exact fun j u hu => let ⟨b, o, e1, e2, e3, e4⟩ := h3 j u hu; ⟨b, o, e1, e2, O.far b e3, fun hl => O.rol b e3 fun _ => e4 (hlo hl)⟩
    · cases h
  | sl id =>
    simp only [rowOf] at h
    split at h
    · rename_i t' l' hb
      obtain ⟨hid, e, _⟩ := hv
      intro j u hu
      obtain ⟨b, o, e1, e2⟩ := hr j u hu
      have hg : ownOf (ι id) = some b := by rw [← e, e1]; rfl
      exact ⟨b, o, e1, e2, O.blk hb trivial (hus id (by simp [C.use])) hg, fun hl => hmine hl id _ b hb trivial hg⟩
    · cases h
  | sub id e o n =>
    simp only [rowOf] at h
    split at h
    · rename_i t' l' hb
      obtain ⟨hid, A', cap', e1, _, hA⟩ := hv
      cases e1
      intro j u hu
      obtain ⟨b, o', e1, e2⟩ := hr j u hu
      have hn : 0 < l.length := by
        rcases Nat.eq_zero_or_pos l.length with h0 | h0
        · have : l = [] := List.eq_nil_of_length_eq_zero h0
          subst this
          simp [flat] at hu
        · exact h0
      obtain ⟨g, n', c', e3, e4, e5⟩ := hA hn
      rw [e5] at e1
      cases e1
      have hg : ownOf (ι id) = some b := by rw [e3]; rfl
      exact ⟨b, _, e5, e2, O.blk hb trivial (hus id (by simp [C.use])) hg, fun hl => hmine hl id _ b hb trivial hg⟩
    · cases h
  | sc u =>
    have : l = [] := by
      simp only [rowOf] at h
      split at h <;> simp_all
    subst this
    exact fun j u hu => by simp [flat] at hu
  | _ => simp [rowOf] at h

theorem Over.sc (O : Over G.U B D' lc ι m src us ιT mT) {c : C G.U.El} {vs : List Value} (hc : CW G.U B ι m w c vs) {v : Value} (e : c = .sc v) : CW G.U D' ιT mT w (.sc v) vs := by
  subst e
  obtain ⟨v, e1, e2, e3⟩ := hc
  exact ⟨v, e1, e2, e3⟩

/-- A row that is handed over to own. -/
theorem Over.given (O : Over G.U B D' lc ι m src us ιT mT) {c : C G.U.El} {vs : List Value} {k : Nat} (hc : CW G.U B ι m w c vs) (hs : (∃ id, c = .sl id) ∨ c = .sc (.slice none 0 0)) (hat : src[k]? = some c.src) : CW G.U D' ιT mT w (.sl k) vs := by
  have hlt : k < mT.length := by rw [O.len]; exact (List.getElem?_eq_some_iff.1 hat).1
  rcases hs with ⟨id, rfl⟩ | rfl
  · obtain ⟨v, rfl, h1, h2, h3⟩ := hc
    exact ⟨v, rfl, hlt, by rw [O.is _ id hat]; exact h2, h3⟩
  · obtain ⟨v, rfl, h1, h2⟩ := hc
    exact ⟨v, rfl, hlt, by rw [O.no _ hat]; exact h1, by rw [h1]; exact h2⟩

theorem dec1_ok (hF : Fits P G.U G.ti) (hm : MR G.U B S ι m w) (O : Over G.U B D' lc ι m src us ιT mT) {s : S1} {c : C G.U.El} {x : s.T G.U.El} {vs : List Value} {mk : List (Blk G.U.El)} (h : s.dec m c = some x) (hc : CW G.U B ι m w c vs)
    (hpre : ∃ p q, src = p ++ (s.mv c ++ q) ∧ p.length = mk.length) (hus : ∀ i, i ∈ s.us c → i ∈ us) (hlc : lc = true → s.lc c = true) : CW G.U D' ιT mT w (encI1 s x mk).1 vs := by
  cases s with
  | int k => exact O.sc hc (dec_int h)
  | bool => exact O.sc hc (dec_bool h)
  | str => exact O.sc hc (dec_str h)
  | row t => exact O.view hF hm false h hc (fun h => by cases h) (fun h => by cases h) hus
  | sl t => exact O.view hF hm false h hc (fun h => by cases h) (fun h => by cases h) hus
  | arr t n => have := dec_arr h; subst this; exact hc
  | rol t =>
    have h' : rolOf t c = some (x : List (G.U.El t)) := h
    rcases dec_rol h' with ⟨tg, loc, rfl⟩ | ⟨rfl, hx⟩
    · obtain ⟨v, rfl, A, cap, rfl, h1, h2, _⟩ := hc
      refine ⟨_, rfl, A, cap, rfl, h1, fun j u hu => ?_, fun h => by cases h⟩
      obtain ⟨b, o, e1, e2, e3, e4⟩ := h2 j u hu
      exact ⟨b, o, e1, e2, O.far b e3, fun _ => O.rol b e3 fun hl => e4 (hlc hl)⟩
    · obtain ⟨v, rfl, h1, h2⟩ := hc
      show CW G.U D' ιT mT w (.row t x false true) _
      rw [hx]
      exact ⟨v, rfl, none, 0, h1, Nat.le_refl _, fun j u hu => by simp [flat] at hu, fun h => by cases h⟩
  | ip t =>
    have h' : ownRow m t c = some (x : List (G.U.El t)) := h
    obtain ⟨p, q, e, hp⟩ := hpre
    have hat : src[mk.length]? = some c.src := by
      rw [e, ← hp, List.getElem?_append_right (Nat.le_refl _)]
      simp [S1.mv]
    rcases dec_own h' with ⟨id, rfl, _⟩ | ⟨rfl, _⟩
    · exact O.given hc (.inl ⟨id, rfl⟩) hat
    · exact O.given hc (.inr rfl) hat
  | gv t =>
    have h' : ownRow m t c = some (x : List (G.U.El t)) := h
    obtain ⟨p, q, e, hp⟩ := hpre
    have hat : src[mk.length]? = some c.src := by
      rw [e, ← hp, List.getElem?_append_right (Nat.le_refl _)]
      simp [S1.mv]
    rcases dec_own h' with ⟨id, rfl, _⟩ | ⟨rfl, _⟩
    · exact O.given hc (.inl ⟨id, rfl⟩) hat
    · exact O.given hc (.inr rfl) hat

theorem encI1_len {m mk : List (Blk G.U.El)} (s : S1) (c : C G.U.El) (x : s.T G.U.El) : (encI1 s x mk).2.length = mk.length + (s.mv c).length := by
  cases s <;> simp [encI1, S1.mv]

theorem encI2_len {m : List (Blk G.U.El)} : ∀ {ss : List S1} {cs : List (C G.U.El)} {x : Ts G.U.El ss} (mk : List (Blk G.U.El)), decs m ss cs = some x → (encI2 ss x mk).2.length = mk.length + (mv1 ss cs).length
  | [], [], _, _, _ => rfl
  | [], _ :: _, _, _, h => by simp [decs] at h
  | _ :: _, [], _, _, h => by simp [decs] at h
  | s :: ss, c :: cs, x, mk, h => by
    simp only [decs] at h
    obtain ⟨y, h3, h⟩ := Option.bind_eq_some_iff.1 h
    obtain ⟨z, h4, h⟩ := Option.bind_eq_some_iff.1 h
    cases h
    simp only [encI2, mv1, List.length_append]
    rw [encI2_len (mk := (encI1 s y mk).2) h4, encI1_len (m := m) s c y]
    omega

theorem decs_ok (hF : Fits P G.U G.ti) (hm : MR G.U B S ι m w) (O : Over G.U B D' lc ι m src us ιT mT) : ∀ {ss : List S1} {cs : List (C G.U.El)} {x : Ts G.U.El ss} {vs : List Value} {mk : List (Blk G.U.El)}, decs m ss cs = some x → CsR G.U B ι m w cs vs →
    (∃ p q, src = p ++ (mv1 ss cs ++ q) ∧ p.length = mk.length) → (∀ i, i ∈ us1 ss cs → i ∈ us) → (lc = true → lc1 ss cs = true) → CsR G.U D' ιT mT w (encI2 ss x mk).1 vs
  | [], [], x, vs, mk, h, hc, _, _, _ => hc
  | [], _ :: _, _, _, _, h, _, _, _, _ => by simp [decs] at h
  | _ :: _, [], _, _, _, h, _, _, _, _ => by simp [decs] at h
  | s :: ss, c :: cs, x, vs, mk, h, ⟨a, r, e, h1, h2⟩, ⟨p, q, hp, hpl⟩, hus, hlc => by
    simp only [decs] at h
    obtain ⟨y, h3, h⟩ := Option.bind_eq_some_iff.1 h
    obtain ⟨z, h4, h⟩ := Option.bind_eq_some_iff.1 h
    cases h
    have hl : lc = true → s.lc c = true ∧ lc1 ss cs = true := fun h => by simpa [lc1, Bool.and_eq_true] using hlc h
    refine ⟨a, r, e, dec1_ok hF hm O (mk := mk) h3 h1 ⟨p, mv1 ss cs ++ q, by rw [hp, mv1, List.append_assoc], hpl⟩ (fun i hi => hus i (List.mem_append_left _ hi)) fun h => (hl h).1, ?_⟩
    exact decs_ok hF hm O (mk := (encI1 s y mk).2) h4 h2 ⟨p ++ s.mv c, q, by rw [hp, mv1]; simp, by rw [encI1_len (m := m) s c y, List.length_append, hpl]⟩ (fun i hi => hus i (List.mem_append_right _ hi)) fun h => (hl h).2

theorem encI1_pre {El : Nat → Type} (s : S1) (x : s.T El) (m : List (Blk El)) : m <+: (encI1 s x m).2 := by
  cases s <;> simp [encI1]
theorem encI2_pre {El : Nat → Type} : ∀ (ss : List S1) (x : Ts El ss) (m : List (Blk El)), m <+: (encI2 ss x m).2
  | [], _, _ => List.prefix_refl _
  | s :: ss, (x, y), m => (encI1_pre s x m).trans (encI2_pre ss y _)

/-- What the blocks are that are pushed at a call's start. -/
def Pushed (U : Univ) (D' : Nat → Prop) (ι : Nat → Value) (m : List (Blk U.El)) (ιT : Nat → Value) (mT : List (Blk U.El)) (w : World) (mk M : List (Blk U.El)) : Prop :=
  ∀ i b, M[mk.length + i]? = some b → BR U D' ιT mT w (mk.length + i) b
theorem Pushed.refl {U : Univ} {D' : Nat → Prop} {m mT mk : List (Blk U.El)} : Pushed U D' ι m ιT mT w mk mk := fun i b h => by simp at h
theorem Pushed.trans {U : Univ} {D' : Nat → Prop} {m mT mk M1 M2 : List (Blk U.El)} (h : Pushed U D' ι m ιT mT w mk M1) (k : Pushed U D' ι m ιT mT w M1 M2) (h1 : mk <+: M1) (h2 : M1 <+: M2) : Pushed U D' ι m ιT mT w mk M2 := by
  intro i b hb
  by_cases hi : mk.length + i < M1.length
  · obtain ⟨q, rfl⟩ := h2
    rw [List.getElem?_append_left hi] at hb
    exact h i b hb
  · have e : mk.length + i = M1.length + (mk.length + i - M1.length) := by omega
    rw [e] at hb ⊢
    exact k _ b hb

theorem enc1_push (hm : MR G.U B S ι m w) (O : Over G.U B D' lc ι m src us ιT mT) {s : S1} {c : C G.U.El} {x : s.T G.U.El} {mk : List (Blk G.U.El)} (h : s.dec m c = some x)
    (hpre : ∃ p q, src = p ++ (s.mv c ++ q) ∧ p.length = mk.length) : Pushed G.U D' ι m ιT mT w mk (encI1 s x mk).2 := by
  cases s with
  | ip t =>
    have h' : ownRow m t c = some (x : List (G.U.El t)) := h
    obtain ⟨p, q, e, hp⟩ := hpre
    have hat : src[mk.length]? = some c.src := by
      rw [e, ← hp, List.getElem?_append_right (Nat.le_refl _)]
      simp [S1.mv]
    intro i b hb
    have hi : i = 0 ∧ b = .da t x := by
      have hlt := (List.getElem?_eq_some_iff.1 hb).1
      simp [encI1] at hlt
      subst hlt
      exact ⟨rfl, by simpa [encI1] using hb.symm⟩
    obtain ⟨rfl, rfl⟩ := hi
    rw [Nat.add_zero]
    rcases dec_own h' with ⟨id, rfl, hb⟩ | ⟨rfl, hx⟩
    · have := hm.blk _ _ hb
      simp only [BR] at this ⊢
      rw [O.is _ id hat]
      exact this
    · simp only [BR]
      rw [O.no _ hat]
      have hx' : (x : List (G.U.El t)) = [] := hx
      rw [hx']
      simpa [flat] using World.ownsRow_nil w 0 t (G.U.sz t)
  | gv t =>
    have h' : ownRow m t c = some (x : List (G.U.El t)) := h
    obtain ⟨p, q, e, hp⟩ := hpre
    have hat : src[mk.length]? = some c.src := by
      rw [e, ← hp, List.getElem?_append_right (Nat.le_refl _)]
      simp [S1.mv]
    intro i b hb
    have hi : i = 0 ∧ b = .da t x := by
      have hlt := (List.getElem?_eq_some_iff.1 hb).1
      simp [encI1] at hlt
      subst hlt
      exact ⟨rfl, by simpa [encI1] using hb.symm⟩
    obtain ⟨rfl, rfl⟩ := hi
    rw [Nat.add_zero]
    rcases dec_own h' with ⟨id, rfl, hb⟩ | ⟨rfl, hx⟩
    · have := hm.blk _ _ hb
      simp only [BR] at this ⊢
      rw [O.is _ id hat]
      exact this
    · simp only [BR]
      rw [O.no _ hat]
      have hx' : (x : List (G.U.El t)) = [] := hx
      rw [hx']
      simpa [flat] using World.ownsRow_nil w 0 t (G.U.sz t)
  | _ => exact Pushed.refl

theorem encs_push (hm : MR G.U B S ι m w) (O : Over G.U B D' lc ι m src us ιT mT) : ∀ {ss : List S1} {cs : List (C G.U.El)} {x : Ts G.U.El ss} {mk : List (Blk G.U.El)}, decs m ss cs = some x →
    (∃ p q, src = p ++ (mv1 ss cs ++ q) ∧ p.length = mk.length) → Pushed G.U D' ι m ιT mT w mk (encI2 ss x mk).2
  | [], [], _, _, _, _ => Pushed.refl
  | [], _ :: _, _, _, h, _ => by simp [decs] at h
  | _ :: _, [], _, _, h, _ => by simp [decs] at h
  | s :: ss, c :: cs, x, mk, h, ⟨p, q, hp, hpl⟩ => by
    simp only [decs] at h
    obtain ⟨y, h3, h⟩ := Option.bind_eq_some_iff.1 h
    obtain ⟨z, h4, h⟩ := Option.bind_eq_some_iff.1 h
    cases h
    exact (enc1_push hm O h3 ⟨p, mv1 ss cs ++ q, by rw [hp, mv1, List.append_assoc], hpl⟩).trans (encs_push hm O h4 ⟨p ++ s.mv c, q, by rw [hp, mv1]; simp, by rw [encI1_len (m := m) s c y, List.length_append, hpl]⟩) (encI1_pre ..) (encI2_pre ..)

theorem ioDec_some {El : Nat → Type} {m : List (Blk El)} {t : Nat} {ss : List S1} {id : Nat} {x : Ts El ss} (h : ioDec m t ss id = some x) : ∃ cs, m[id]? = some (.st t cs) ∧ decs m ss cs = some x := by
  unfold ioDec at h
  split at h
  · rename_i t' cs hm
    split at h
    · rename_i e
      subst e
      exact ⟨cs, hm, h⟩
    · cases h
  · cases h

/-- A struct's block is handed over. -/
theorem io_ok (hF : Fits P G.U G.ti) (hm : MR G.U B S ι m w) (O : Over G.U B D' lc ι m src us ιT mT) {t : Nat} {ss : List S1} {id : Nat} {x : Ts G.U.El ss} {v : Value} {mk : List (Blk G.U.El)} (h : ioDec m t ss id = some x) (hv : PR G.U ι m id 0 v)
    (hpre : ∃ p q, src = p ++ (mvIo m ss id ++ q) ∧ p.length = mk.length) (hus : ∀ i, i ∈ usIo m ss id → i ∈ us) (hlc : lc = true → lcIo m ss id = true) :
    PR G.U ιT mT (encIo t ss x mk).1 0 v ∧ (encIo t ss x mk).2.length = mk.length + (mvIo m ss id).length ∧ Pushed G.U D' ι m ιT mT w mk (encIo t ss x mk).2 := by
  obtain ⟨cs, hb, hd⟩ := ioDec_some h
  simp only [mvIo, usIo, lcIo, hb] at hpre hus hlc ⊢
  obtain ⟨p, q, hp, hpl⟩ := hpre
  have hp2 : src = p ++ (mv1 ss cs ++ (some id :: q)) := by rw [hp]; simp
  have hlen := encI2_len (m := m) mk hd
  have hat : src[(encI2 ss x mk).2.length]? = some (some id) := by
    rw [hp2, hlen, ← hpl, ← List.append_assoc, List.getElem?_append_right (by simp), List.length_append]
    simp
  have hlt : (encI2 ss x mk).2.length < mT.length := by rw [O.len]; exact (List.getElem?_eq_some_iff.1 hat).1
  obtain ⟨hid, β, h1, h2⟩ := hv
  refine ⟨⟨hlt, β, (O.is _ _ hat).trans h1, h2⟩, by simp only [encIo, List.length_append, List.length_cons, List.length_nil]; rw [hlen]; omega, ?_⟩
  refine (encs_push hm O hd ⟨p, _, hp2, hpl⟩).trans (M2 := (encIo t ss x mk).2) ?_ (encI2_pre ..) (List.prefix_append _ _)
  intro i b hb'
  have hi : i = 0 ∧ b = .st t (encI2 ss x mk).1 := by
    have hlt := (List.getElem?_eq_some_iff.1 hb').1
    simp [encIo] at hlt
    subst hlt
    exact ⟨rfl, by simpa [encIo] using hb'.symm⟩
  obtain ⟨rfl, rfl⟩ := hi
  rw [Nat.add_zero]
  obtain ⟨β', vs, e1, e2, e3⟩ := hm.blk _ _ hb
  exact ⟨β', vs, (O.is _ _ hat).trans e1, e2, decs_ok hF hm O (mk := mk) hd e3 ⟨p, _, hp2, hpl⟩ hus hlc⟩

theorem caps_in (hF : Fits P G.U G.ti) (hm : MR G.U B S ι m w) (O : Over G.U B D' lc ι m src us ιT mT) : ∀ {caps : List (Nat × List S1)} {cs : List (Nat × Nat)} {x : CapT G.U.El caps} {vs : List Value} {mk : List (Blk G.U.El)}, capsDec m caps cs = some x →
    vs.length = cs.length → (∀ (j : Nat) (p : Nat × Nat) (u : Value), cs[j]? = some p → vs[j]? = some u → PR G.U ι m p.1 p.2 u) →
    (∃ p q, src = p ++ (mvCaps m caps cs ++ q) ∧ p.length = mk.length) → (∀ i, i ∈ usCaps m caps cs → i ∈ us) → (lc = true → lcCaps m caps cs = true) →
    (vs.length = (encICaps caps x mk).1.length ∧ ∀ (j : Nat) (p : Nat × Nat) (u : Value), (encICaps caps x mk).1[j]? = some p → vs[j]? = some u → PR G.U ιT mT p.1 p.2 u) ∧ (encICaps caps x mk).2.length = mk.length + (mvCaps m caps cs).length ∧ mk <+: (encICaps caps x mk).2 ∧ Pushed G.U D' ι m ιT mT w mk (encICaps caps x mk).2
  | [], [], _, vs, mk, _, hl, _, _, _, _ => ⟨⟨hl, fun j p u h => by simp [encICaps] at h⟩, rfl, List.prefix_refl _, Pushed.refl⟩
  | [], _ :: _, _, _, _, h, _, _, _, _, _ => by simp [capsDec] at h
  | _ :: _, [], _, _, _, h, _, _, _, _, _ => by simp [capsDec] at h
  | p :: ps, c :: cs, x, vs, mk, h, hl, hv, ⟨pp, q, hp, hpl⟩, hus, hlc => by
    simp only [capsDec] at h
    split at h
    case isFalse => cases h
    rename_i hc0
    obtain ⟨y, h3, h⟩ := Option.bind_eq_some_iff.1 h
    obtain ⟨z, h4, h⟩ := Option.bind_eq_some_iff.1 h
    cases h
    cases vs with
    | nil => simp at hl
    | cons v vs =>
      have hl2 : lc = true → lcIo m p.2 c.1 = true ∧ lcCaps m ps cs = true := fun h => by simpa [lcCaps, Bool.and_eq_true] using hlc h
      have hv0 : PR G.U ι m c.1 0 v := by have := hv 0 c v rfl rfl; rwa [hc0] at this
      obtain ⟨k1, k2, k3⟩ := io_ok hF hm O (t := p.1) (ss := p.2) (mk := mk) h3 hv0 ⟨pp, mvCaps m ps cs ++ q, by rw [hp, mvCaps, List.append_assoc], hpl⟩ (fun i hi => hus i (List.mem_append_left _ hi)) fun h => (hl2 h).1
      obtain ⟨⟨k4, k5⟩, k6, k7, k8⟩ := caps_in hF hm O (mk := (encIo p.1 p.2 y mk).2) h4 (by simpa using hl) (fun j q u hq hu => hv (j + 1) q u (by simpa using hq) (by simpa using hu)) ⟨pp ++ mvIo m p.2 c.1, q, by rw [hp, mvCaps]; simp, by rw [k2, List.length_append, hpl]⟩
        (fun i hi => hus i (List.mem_append_right _ hi)) fun h => (hl2 h).2
      have hpre : mk <+: (encIo p.1 p.2 y mk).2 := (encI2_pre ..).trans (List.prefix_append _ _)
      refine ⟨⟨by simp [encICaps, ← k4], fun j q u hq hu => ?_⟩, by simp only [encICaps, mvCaps, List.length_append]; rw [k6, k2]; omega, hpre.trans k7, k3.trans k8 hpre k7⟩
      cases j with
      | zero => simp [encICaps] at hq hu; subst hq; subst hu; exact k1
      | succ j => exact k5 j q u (by simpa [encICaps] using hq) (by simpa using hu)

/-- What a pointer's place holds, read alone. -/
theorem ptrElem_ok (hF : Fits P G.U G.ti) (hm : MR G.U B S ι m w) (O : Over G.U B D' lc ι m src us ιT mT) {t : Nat} {c : C G.U.El} {y : G.U.El t} {v : Value} (hc : CR G.U B ι m w c v) (h : ptrElem G.U m t c = some y) (hus : ∀ i, i ∈ c.puse → i ∈ us) :
    CR G.U D' ιT mT w (.prow t [y] 0 0) v := by
  have one : ∀ {b o : Nat}, v = .pointer (some ⟨b, o, none⟩) → Far G.U ιT mT b → (∀ j u, (G.U.cells t y)[j]? = some u → w.cell? ⟨b, o + j, none⟩ = some u) → CR G.U D' ιT mT w (.prow t [y] 0 0) v := by
    intro b o hv hf hr
    refine ⟨by simp, b, o, by simpa using hv, fun j u hu => ⟨b, o, rfl, hr j u (by simpa [flat] using hu), hf, fun h => by cases h⟩⟩
  -- a part of a row's element
  have part : ∀ {e : Nat} {l : List (G.U.El e)} {i off b o : Nat}, i < l.length → v = .pointer (some ⟨b, o + (i * G.U.sz e + off), none⟩) → (∀ j u, (flat G.U e l)[j]? = some u → w.cell? ⟨b, o + j, none⟩ = some u) → Far G.U ιT mT b →
      G.U.back t (((G.U.cells e (rd (G.U.dflt e) l i)).drop off).take (G.U.sz t)) = some y → CR G.U D' ιT mT w (.prow t [y] 0 0) v := by
    intro e l i off b o hi hv hr hf hb
    refine one hv hf fun j u hj => ?_
    rw [hF.U.back _ _ _ hb, List.getElem?_take] at hj
    split at hj
    · rw [List.getElem?_drop] at hj
      have := hr _ _ (flat_get hF.U e l i hi _ _ _ hj)
      rwa [show o + (i * G.U.sz e + off) + j = o + (i * G.U.sz e + (off + j)) by omega]
    · cases hj
  unfold ptrElem at h
  split at h
  · rename_i id off
    obtain ⟨hid, β, h1, h2⟩ := hc
    split at h
    · rename_i t' cs hm'
      obtain ⟨β', vs, h3, h4, h5⟩ := hm.blk _ _ hm'
      rw [h1] at h3
      cases h3
      obtain ⟨cs', h6, h⟩ := Option.bind_eq_some_iff.1 h
      obtain ⟨us', h7, h⟩ := Option.bind_eq_some_iff.1 h
      obtain ⟨h8, h9⟩ := getAt_ok hF.U h6 h5
      have hus' := scs_ok h7 h9
      refine one h2 (O.blk hm' trivial (hus id (by simp [C.puse])) (by rw [h1]; rfl)) fun j u hj => ?_
      rw [hF.U.back _ _ _ h, ← hus', List.getElem?_take] at hj
      split at hj
      · rw [List.getElem?_drop] at hj
        simp [World.cell?, h4, ← hj]
      · cases hj
    · cases h
  · rename_i id e i off
    obtain ⟨hid, g, n, c, h1, h2, h3⟩ := hc
    split at h
    · rename_i e' l hm'
      split at h
      · rename_i he
        subst he
        split at h
        · have hb := hm.blk _ _ hm'
          simp only [BR, h1] at hb
          have hn : l.length = n := by
            rcases hb.2 with ⟨h', _⟩ | ⟨g', cap', cur, h', _⟩
            · simp at h'
            · simp at h'; exact h'.2.1.symm
          subst hn
          refine part (o := 0) h2 (by simpa using h3) (fun j u hj => ?_) (O.blk hm' trivial (hus id (by simp [C.puse])) (by rw [h1]; rfl)) h
          have hlt := (List.getElem?_eq_some_iff.1 hj).1
          rw [flat_len hF.U] at hlt
          rw [Nat.zero_add, World.ownsRow.cellAt hb j hlt, hj]
        · cases h
      · cases h
    · cases h
  · rename_i e l i off
    obtain ⟨hi, b, o, h1, h2⟩ := hc
    split at h
    · rename_i hsz
      -- the cells lie where the row lies
      by_cases h0 : 0 < (flat G.U e l).length
      · obtain ⟨b', o', h3, _, h5, _⟩ := h2 0 _ (List.getElem?_eq_getElem h0)
        cases h3
        exact part hi h1 (fun j u hj => by
          obtain ⟨b', o', h3, h4, _⟩ := h2 j u hj
          cases h3
          exact h4) (O.far b h5) h
      · have hsz0 : G.U.sz e = 0 := by
          rw [flat_len hF.U] at h0
          rcases Nat.eq_zero_or_pos (G.U.sz e) with h | h
          · exact h
          · exact absurd (Nat.mul_pos (by omega : 0 < l.length) h) h0
        have hyc : G.U.cells t y = [] := by
          rw [hF.U.back _ _ _ h]
          apply List.eq_nil_of_length_eq_zero
          simp
          omega
        refine ⟨by simp, b, _, by simpa using h1, fun j u hu => by simp [flat, hyc] at hu⟩
    · cases h
  · cases h

theorem CW.cr {c : C G.U.El} {v : Value} (hne : ∀ t n l, c ≠ .arr t n l) (h : CW G.U B ι m w c [v]) : CR G.U B ι m w c v := by
  obtain ⟨u, e, hu⟩ := CsR.single hne (vs := [v]) ⟨[v], [], rfl, h, rfl⟩
  cases e
  exact hu

/-- One argument is handed over. -/
theorem AS.dec_ok (hF : Fits P G.U G.ti) (hm : MR G.U B S ι m w) (O : Over G.U B D' lc ι m src us ιT mT) {s : AS} {v : V G.U.El} {x : s.T G.U.El} {u : Value} {mk : List (Blk G.U.El)} (h : s.dec G.U m v = some x) (hv : VR G.U B ι m w v u)
    (hpre : ∃ p q, src = p ++ (s.mv m v ++ q) ∧ p.length = mk.length) (hus : ∀ i, i ∈ s.us m v → i ∈ us) (hlc : lc = true → s.lc m v = true) :
    VR G.U D' ιT mT w (encI s x mk).1 u ∧ (encI s x mk).2.length = mk.length + (s.mv m v).length ∧ mk <+: (encI s x mk).2 ∧ Pushed G.U D' ι m ιT mT w mk (encI s x mk).2 := by
  cases s with
  | c s =>
    cases v with
    | w y =>
      cases y with
      | c c =>
        have hc : CR G.U B ι m w c u := hv
        have h1 := dec1_ok hF hm O (s := s) (mk := mk) h hc.cw hpre hus hlc
        refine ⟨vr_w ?_, encI1_len (m := m) s c x, encI1_pre .., enc1_push hm O h hpre⟩
        cases s with
        | arr t n =>
          have := dec_arr h
          subst this
          exact hc.elim
        | _ => exact CW.cr (by intro t n l e; cases e) h1
      | agg => cases h
    | _ => cases h
  | agg ss =>
    cases v with
    | w y =>
      cases y with
      | agg xs =>
        obtain ⟨vs, e, h1⟩ := hv
        exact ⟨⟨vs, e, decs_ok hF hm O (mk := mk) h h1 hpre hus hlc⟩, encI2_len mk h, encI2_pre .., encs_push hm O h hpre⟩
      | c => cases h
    | _ => cases h
  | ptr t =>
    cases v with
    | w y =>
      cases y with
      | c c => exact ⟨vr_w (ptrElem_ok hF hm O hv h hus), rfl, List.prefix_refl _, Pushed.refl⟩
      | agg => cases h
    | _ => cases h
  | skip => cases v <;> exact ⟨trivial, rfl, List.prefix_refl _, Pushed.refl⟩
  | io t ss =>
    cases v with
    | w y =>
      cases y with
      | c c =>
        cases c with
        | ptr id off =>
          change (if off = 0 then ioDec m t ss id else none) = some x at h
          split at h
          case isFalse => cases h
          rename_i h0
          subst h0
          obtain ⟨k1, k2, k3⟩ := io_ok hF hm O (mk := mk) h hv hpre hus hlc
          exact ⟨k1, k2, (encI2_pre ..).trans (List.prefix_append _ _), k3⟩
        | _ => cases h
      | agg => cases h
    | _ => cases h
  | bk t => cases v with
    | w y => cases y with
      | c c => cases h
      | agg => cases h
    | _ => cases h
  | np t ss => cases v with
    | w y => cases y with
      | c c => cases h
      | agg => cases h
    | _ => cases h
  | fnp f caps =>
    cases v with
    | w y =>
      cases y with
      | c c =>
        cases c with
        | fn f' cs =>
          change (if f' = f then capsDec m caps cs else none) = some x at h
          split at h
          case isFalse => cases h
          rename_i hf
          subst hf
          obtain ⟨vs, e, h1, h2⟩ := hv
          obtain ⟨⟨k1, k2⟩, k3, k4, k5⟩ := caps_in hF hm O (mk := mk) h h1 h2 hpre hus hlc
          exact ⟨⟨vs, e, k1, k2⟩, k3, k4, k5⟩
        | _ => cases h
      | agg => cases h
    | _ => cases h

theorem ASdec_ok (hF : Fits P G.U G.ti) (hm : MR G.U B S ι m w) (O : Over G.U B D' lc ι m src us ιT mT) : ∀ {ss : List AS} {vs : List (V G.U.El)} {x : ASs G.U.El ss} {us' : List Value} {mk : List (Blk G.U.El)}, ASdec G.U m ss vs = some x → VsR G.U B ι m w vs us' →
    (∃ p q, src = p ++ (mvs m ss vs ++ q) ∧ p.length = mk.length) → (∀ i, i ∈ usOf m ss vs → i ∈ us) → (lc = true → lcOf m ss vs = true) →
    VsR G.U D' ιT mT w (encIs ss x mk).1 us' ∧ (encIs ss x mk).2.length = mk.length + (mvs m ss vs).length ∧ mk <+: (encIs ss x mk).2 ∧ Pushed G.U D' ι m ιT mT w mk (encIs ss x mk).2
  | [], [], x, us', mk, h, hv, _, _, _ => ⟨hv, rfl, List.prefix_refl _, Pushed.refl⟩
  | [], _ :: _, _, _, _, h, _, _, _, _ => by simp [ASdec] at h
  | _ :: _, [], _, _, _, h, _, _, _, _ => by simp [ASdec] at h
  | s :: ss, v :: vs, x, us', mk, h, ⟨u, r, e, h1, h2⟩, ⟨p, q, hp, hpl⟩, hus, hlc => by
    simp only [ASdec] at h
    obtain ⟨y, h3, h⟩ := Option.bind_eq_some_iff.1 h
    obtain ⟨z, h4, h⟩ := Option.bind_eq_some_iff.1 h
    cases h
    have hl : lc = true → s.lc m v = true ∧ lcOf m ss vs = true := fun h => by simpa [lcOf, Bool.and_eq_true] using hlc h
    obtain ⟨k1, k2, k3, k4⟩ := AS.dec_ok hF hm O (mk := mk) h3 h1 ⟨p, mvs m ss vs ++ q, by rw [hp, mvs, List.append_assoc], hpl⟩ (fun i hi => hus i (List.mem_append_left _ hi)) fun h => (hl h).1
    obtain ⟨k5, k6, k7, k8⟩ := ASdec_ok hF hm O (mk := (encI s y mk).2) h4 h2 ⟨p ++ s.mv m v, q, by rw [hp, mvs]; simp, by rw [k2, List.length_append, hpl]⟩ (fun i hi => hus i (List.mem_append_right _ hi)) fun h => (hl h).2
    exact ⟨⟨u, r, e, k1, k5⟩, by simp only [encIs, mvs, List.length_append]; rw [k6, k2]; omega, k3.trans k7, k4.trans k8 k3 k7⟩
end
end Go.Proofs.Ytnjmkkgmlkhjeaa.AM
namespace Go.Proofs.Ytnjmkkgmlkhjeaa.AM
open Go.RowKit
variable {ρ : Type}

section
variable {El : Nat → Type}
/-! how many blocks are pushed -/
def S1.np : S1 → Nat
  | .sl _ | .ip _ => 1
  | _ => 0
def np1 : List S1 → Nat
  | [] => 0
  | s :: ss => s.np + np1 ss
def AS.np' : AS → Nat
  | .c s => s.np
  | .agg ss | .io _ ss => np1 ss
  | .np _ ss => np1 ss + 1
  | _ => 0
def nps : List AS → Nat
  | [] => 0
  | s :: ss => s.np' + nps ss
theorem enc1_len (lc : Bool) (s : S1) (x : s.T El) (m : List (Blk El)) : (enc1 true lc s x m).2.length = m.length + s.np := by
  cases s <;> simp [enc1, S1.np]
theorem enc2_len (lc : Bool) : ∀ (ss : List S1) (x : Ts El ss) (m : List (Blk El)), (enc2 true lc ss x m).2.length = m.length + np1 ss
  | [], _, _ => rfl
  | s :: ss, (x, y), m => by simp only [enc2, np1]; rw [enc2_len, enc1_len]; omega
theorem encO_len (lc : Bool) (s : AS) (x : s.T El) (m : List (Blk El)) : (encO true lc s x m).2.length = m.length + s.np' := by
  cases s with
  | c s => exact enc1_len lc s x m
  | agg ss => exact enc2_len lc ss x m
  | io t ss => exact enc2_len lc ss x m
  | np t ss => exact (by simp [encO] : (encO true lc (.np t ss) x m).2.length = (enc2 true lc ss x m).2.length + 1).trans ((congrArg (· + 1) (enc2_len lc ss x m)).trans (Nat.add_assoc ..))
  | _ => rfl
theorem encOs_len2 (lc : Bool) : ∀ (ss : List AS) (x : Os El ss) (m : List (Blk El)), (encOs true lc ss x m).2.length = m.length + nps ss
  | [], _, _ => rfl
  | [s], x, m => encO_len lc s x m
  | s :: s' :: ss, (x, y), m => by
    simp only [encOs]
    rw [encOs_len2, encO_len]
    simp only [nps]
    omega
theorem encOs_len (own lc : Bool) : ∀ (ss : List AS) (x : Os El ss) (m : List (Blk El)), (encOs own lc ss x m).1.length = ss.length
  | [], _, _ => rfl
  | [_], _, _ => rfl
  | s :: s' :: ss, (x, y), m => by simp only [encOs, List.length_cons]; rw [encOs_len own lc (s' :: ss)]; rfl

theorem enc1_false (lc : Bool) (s : S1) (x : s.T El) (m : List (Blk El)) : (enc1 false lc s x m).2 = m := by cases s <;> rfl
theorem enc2_false (lc : Bool) : ∀ (ss : List S1) (x : Ts El ss) (m : List (Blk El)), (enc2 false lc ss x m).2 = m
  | [], _, _ => rfl
  | s :: ss, (x, y), m => by simp only [enc2]; rw [enc1_false, enc2_false]
theorem encO_false (lc : Bool) : ∀ (s : AS) (x : s.T El) (m : List (Blk El)), isNp s = false → (encO false lc s x m).2 = m
  | .c s, x, m, _ => enc1_false lc s x m
  | .agg ss, x, m, _ => enc2_false lc ss x m
  | .io _ ss, x, m, _ => enc2_false lc ss x m
  | .np .., _, _, h => by cases h
  | .ptr _, _, _, _ | .skip, _, _, _ | .bk _, _, _, _ | .fnp .., _, _, _ => rfl
theorem encOs_false (lc : Bool) : ∀ (ss : List AS) (x : Os El ss) (m : List (Blk El)), ss.any isNp = false → (encOs false lc ss x m).2 = m
  | [], _, _, _ => rfl
  | [s], x, m, h => encO_false lc s x m (by simpa using h)
  | s :: s' :: ss, (x, y), m, h => by
    rw [List.any_cons, Bool.or_eq_false_iff] at h
    simp only [encOs]
    rw [encO_false lc s x m h.1, encOs_false lc (s' :: ss) y m h.2]

theorem enc1_pre (own lc : Bool) (s : S1) (x : s.T El) (m : List (Blk El)) : m <+: (enc1 own lc s x m).2 := by
  cases s <;> cases own <;> simp [enc1]
theorem enc2_pre (own lc : Bool) : ∀ (ss : List S1) (x : Ts El ss) (m : List (Blk El)), m <+: (enc2 own lc ss x m).2
  | [], _, _ => List.prefix_refl _
  | s :: ss, (x, y), m => (enc1_pre own lc s x m).trans (enc2_pre own lc ss y _)
theorem encO_pre (own lc : Bool) : ∀ (s : AS) (x : s.T El) (m : List (Blk El)), m <+: (encO own lc s x m).2
  | .c s, x, m => enc1_pre own lc s x m
  | .agg ss, x, m => enc2_pre own lc ss x m
  | .io _ ss, x, m => enc2_pre own lc ss x m
  | .np _ ss, x, m => (enc2_pre own lc ss x m).trans (List.prefix_append _ _)
  | .ptr _, _, _ | .skip, _, _ | .bk _, _, _ | .fnp .., _, _ => List.prefix_refl _
theorem encOs_pre (own lc : Bool) : ∀ (ss : List AS) (x : Os El ss) (m : List (Blk El)), m <+: (encOs own lc ss x m).2
  | [], _, _ => List.prefix_refl _
  | [s], x, m => encO_pre own lc s x m
  | s :: s' :: ss, (x, y), m => (encO_pre own lc s x m).trans (encOs_pre own lc (s' :: ss) y _)
theorem encOs_live (own lc : Bool) : ∀ (ss : List AS) (x : Os El ss) (m : List (Blk El)), (∀ b ∈ m, b.live) → ∀ b ∈ (encOs own lc ss x m).2, b.live := by
  have e1 : ∀ (s : S1) (x : s.T El) (m : List (Blk El)), (∀ b ∈ m, b.live) → ∀ b ∈ (enc1 own lc s x m).2, b.live := by
    intro s x m h
    cases s <;> cases own <;> simp only [enc1, if_true, Bool.false_eq_true, if_false] <;> first | exact h | skip
    all_goals
      intro b hb
      rcases List.mem_append.1 hb with hb | hb
      · exact h b hb
      · rw [List.mem_singleton.1 hb]; trivial
  have e2 : ∀ (ss : List S1) (x : Ts El ss) (m : List (Blk El)), (∀ b ∈ m, b.live) → ∀ b ∈ (enc2 own lc ss x m).2, b.live := by
    intro ss
    induction ss with
    | nil => intro x m h; exact h
    | cons s ss ih => rintro ⟨x, y⟩ m h; exact ih y _ (e1 s x m h)
  have e3 : ∀ (s : AS) (x : s.T El) (m : List (Blk El)), (∀ b ∈ m, b.live) → ∀ b ∈ (encO own lc s x m).2, b.live := by
    intro s x m h
    cases s with
    | c s => exact e1 s x m h
    | agg ss => exact e2 ss x m h
    | io t ss => exact e2 ss x m h
    | np t ss =>
      intro b hb
      rcases List.mem_append.1 hb with hb | hb
      · exact e2 ss x m h b hb
      · rw [List.mem_singleton.1 hb]; trivial
    | _ => exact h
  intro ss
  induction ss with
  | nil => intro x m h; exact h
  | cons s ss ih =>
    intro x m h
    cases ss with
    | nil => exact e3 s x m h
    | cons s' ss =>
      obtain ⟨x, y⟩ := x
      exact ih y _ (e3 s x m h)
end

section
variable {U : Univ} {D Dc : Nat → Prop} {own lc : Bool} {N : Nat} {ιc ι' : Nat → Value} {pu mE m' : List (Blk U.El)} {w' : World}

/-- What is handed over: the call's side (ιc, mE) and the caller's (ι', m'). pu: the blocks that are pushed. -/
structure Hand (U : Univ) (D Dc : Nat → Prop) (own lc : Bool) (N : Nat) (ιc : Nat → Value) (pu mE : List (Blk U.El)) (ι' : Nat → Value) (m' : List (Blk U.El)) (w' : World) : Prop where
  pre : pu <+: mE
  far : ∀ b, Dc b → Far U ιc mE b → Far U ι' m' b
  dd : lc = true → ∀ b, Dc b → D b
  iota : own = true → ∀ id, id < pu.length → ι' (N + id) = ιc id
  len : own = true → ∀ id, id < pu.length → N + id < m'.length
  blk : ∀ id t l, mE[id]? = some (.da t l) → w'.ownsRow 0 t (U.sz t) (ιc id) l.length (flat U t l)
  mine : own = false → ∀ id b k, mE[id]? = some b → b.live → ownOf (ιc id) = some k → Far U ι' m' k ∧ D k

theorem Hand.rd (H : Hand U D Dc own lc N ιc pu mE ι' m' w') {A : Option Addr} {cs : List Value} (h : RD U Dc ιc mE w' true A cs) : RD U D ι' m' w' lc A cs := fun j v hv =>
  let ⟨b, o, h1, h2, h3, h4⟩ := h j v hv
  ⟨b, o, h1, h2, H.far b (h4 rfl) h3, fun hl => H.dd hl b (h4 rfl)⟩

theorem enc1_hand (H : Hand U D Dc own lc N ιc pu mE ι' m' w') (s : S1) (x : s.T U.El) (mk mq : List (Blk U.El)) (hq : own = true → mq.length = N + mk.length) (hp : (enc1 true true s x mk).2 <+: pu) {vs : List Value}
    (h : CW U Dc ιc mE w' (enc1 true true s x mk).1 vs) : CW U D ι' m' w' (enc1 own lc s x mq).1 vs := by
  have view : ∀ t (l : List (U.El t)), CW U Dc ιc mE w' (.row t l false true) vs → CW U D ι' m' w' (.row t l false lc) vs := by
    rintro t l ⟨v, e, A, cap, h1, h2, h3, h4⟩
    exact ⟨v, e, A, cap, h1, h2, H.rd h3, h4⟩
  have given : ∀ t (l : List (U.El t)), (mk ++ [.da t l]) <+: pu → CW U Dc ιc mE w' (.sl mk.length) vs → CW U D ι' m' w' (if own then (C.sl mq.length, mq ++ [.da t l]) else (.row t l false true, mq)).1 vs := by
    intro t l hp h
    obtain ⟨v, e, h1, h2, h3⟩ := h
    have hlt : mk.length < pu.length := by
      obtain ⟨r, hr⟩ := hp
      rw [← hr]
      simp
    have hb : mE[mk.length]? = some (.da t l) := by
      obtain ⟨r, hr⟩ := hp.trans H.pre
      rw [← hr]
      simp
    cases hown : own with
    | true => exact ⟨v, e, by rw [hq hown]; exact H.len hown _ hlt, by rw [hq hown, H.iota hown _ hlt]; exact h2, h3⟩
    | false =>
      have ho := H.blk _ _ _ hb
      rw [← h2] at ho
      refine ⟨v, e, ?_⟩
      rcases ho.2 with ⟨h4, h5⟩ | ⟨g, cap, cur, h4, _, _, h5, _⟩
      · have hx : l = [] := List.eq_nil_of_length_eq_zero h5
        subst hx
        exact ⟨none, 0, h4, Nat.le_refl _, fun j u hu => by simp [flat] at hu, fun h => by cases h⟩
      · obtain ⟨hf, hd⟩ := H.mine hown _ _ g hb trivial (by rw [← h2, h4]; rfl)
        refine ⟨some ⟨g, 0, none⟩, cap, h4, h5, fun j u hu => ⟨g, 0, rfl, ?_, hf, fun _ => hd⟩, fun h => by cases h⟩
        rw [h4] at ho
        have hlt := (List.getElem?_eq_some_iff.1 hu).1
        have hl := ho.1
        rw [Nat.zero_add, World.ownsRow.cellAt ho j (by rw [← hl]; exact hlt), hu]
  cases s with
  | sl t => exact given t x hp h
  | ip t => exact given t x hp h
  | row t => exact view t x h
  | rol t => exact view t x h
  | gv t => exact view t x h
  | _ => exact h

theorem enc2_hand (H : Hand U D Dc own lc N ιc pu mE ι' m' w') : ∀ (ss : List S1) (x : Ts U.El ss) (mk mq : List (Blk U.El)) {vs : List Value}, (own = true → mq.length = N + mk.length) → (enc2 true true ss x mk).2 <+: pu →
    CsR U Dc ιc mE w' (enc2 true true ss x mk).1 vs → CsR U D ι' m' w' (enc2 own lc ss x mq).1 vs
  | [], _, _, _, _, _, _, h => h
  | s :: ss, (x, y), mk, mq, vs, hq, hp, ⟨a, r, e, h1, h2⟩ => ⟨a, r, e, enc1_hand H s x mk mq hq ((enc2_pre true true ss y _).trans hp) h1,
      enc2_hand H ss y _ _ (fun ho => by have := hq ho; subst ho; rw [enc1_len, enc1_len, this]; omega) hp h2⟩

theorem enc1_ne (own lc : Bool) (s : S1) (x : s.T U.El) (mk : List (Blk U.El)) (hs : ∀ t n, s ≠ .arr t n) : ∀ t n l, (enc1 own lc s x mk).1 ≠ .arr t n l := by
  cases s <;> cases own <;> simp_all [enc1, S1.enc]

theorem encO_hand (H : Hand U D Dc own lc N ιc pu mE ι' m' w') (s : AS) (x : s.T U.El) (mk mq : List (Blk U.El)) (hq : own = true → mq.length = N + mk.length) (hnp : isNp s = true → own = true) (hp : (encO true true s x mk).2 <+: pu) {v : Value}
    (h : WR U Dc ιc mE w' (encO true true s x mk).1 v) : WR U D ι' m' w' (encO own lc s x mq).1 v := by
  cases s with
  | c s =>
    have h0 : CR U Dc ιc mE w' (enc1 true true s x mk).1 v := h
    by_cases hs : ∃ t n, s = .arr t n
    · obtain ⟨t, n, rfl⟩ := hs
      exact h0.elim
    · have hs' : ∀ t n, s ≠ .arr t n := fun t n e => hs ⟨t, n, e⟩
      obtain ⟨u, e, hu⟩ := CsR.single (enc1_ne own lc s x mq hs') (vs := [v]) ⟨[v], [], rfl, enc1_hand H s x mk mq hq hp h0.cw, rfl⟩
      cases e
      exact hu
  | agg ss =>
    obtain ⟨vs, e, h1⟩ := h
    exact ⟨vs, e, enc2_hand H ss x mk mq hq hp h1⟩
  | io t ss =>
    obtain ⟨vs, e, h1⟩ := h
    exact ⟨vs, e, enc2_hand H ss x mk mq hq hp h1⟩
  | bk t =>
    obtain ⟨vs, e, a, r, e1, h1, h2⟩ := h
    exact ⟨vs, e, a, r, e1, h1, h2⟩
  | np t ss =>
    have ho := hnp rfl
    obtain ⟨h1, β, h2, h3⟩ := h
    have hlt : (enc2 true true ss x mk).2.length < pu.length := by
      obtain ⟨r, hr⟩ := hp
      have := congrArg List.length hr
      simp only [encO, List.length_append, List.length_singleton] at this
      omega
    have e : (enc2 own lc ss x mq).2.length = N + (enc2 true true ss x mk).2.length := by
      have := hq ho
      subst ho
      exact (enc2_len lc ss x mq).trans ((by omega : mq.length + np1 ss = N + (mk.length + np1 ss)).trans (congrArg (N + ·) (enc2_len true ss x mk).symm))
    exact ⟨by rw [e]; exact H.len ho _ hlt, β, by rw [e, H.iota ho _ hlt]; exact h2, h3⟩
  | ptr t => exact h
  | skip => exact h
  | fnp f caps => exact h

/-- Result by result. -/
theorem encOs_hand (H : Hand U D Dc own lc N ιc pu mE ι' m' w') : ∀ (ss : List AS) (x : Os U.El ss) (mk mq : List (Blk U.El)), (own = true → mq.length = N + mk.length) → (ss.any isNp = true → own = true) → (encOs true true ss x mk).2 <+: pu →
    ∀ (j : Nat) (a b : W U.El), (encOs true true ss x mk).1[j]? = some a → (encOs own lc ss x mq).1[j]? = some b → ∀ v, WR U Dc ιc mE w' a v → WR U D ι' m' w' b v
  | [], _, _, _, _, _, _, j, a, b, ha, _, _, _ => by simp [encOs] at ha
  | [s], x, mk, mq, hq, hn, hp, j, a, b, ha, hb, v, hv => by
    cases j with
    | zero =>
      simp [encOs] at ha hb
      subst ha
      subst hb
      exact encO_hand H s x mk mq hq (fun h => hn (by simpa using h)) hp hv
    | succ j => simp [encOs] at ha
  | s :: s' :: ss, (x, y), mk, mq, hq, hn, hp, j, a, b, ha, hb, v, hv => by
    cases j with
    | zero =>
      simp [encOs] at ha hb
      subst ha
      subst hb
      exact encO_hand H s x mk mq hq (fun h => hn (by simp [h])) ((encOs_pre true true (s' :: ss) y _).trans hp) hv
    | succ j =>
      refine encOs_hand H (s' :: ss) y (encO true true s x mk).2 (encO own lc s x mq).2 (fun ho => ?_) (fun h => hn (by rw [List.any_cons, h, Bool.or_true])) hp j a b (by simpa [encOs] using ha) (by simpa [encOs] using hb) v hv
      have := hq ho
      subst ho
      rw [encO_len, encO_len, this]
      omega

/-- Block by block. -/
def BTr (U : Univ) (D Dc : Nat → Prop) (ιc : Nat → Value) (mE : List (Blk U.El)) (ι' : Nat → Value) (m' : List (Blk U.El)) (w' : World) (mk mq M Q : List (Blk U.El)) : Prop :=
  ∀ i b, Q[mq.length + i]? = some b → ∃ b0, M[mk.length + i]? = some b0 ∧ (BR U Dc ιc mE w' (mk.length + i) b0 → BR U D ι' m' w' (mq.length + i) b)
theorem BTr.refl {mk mq : List (Blk U.El)} : BTr U D Dc ιc mE ι' m' w' mk mq mk mq := fun i b h => by simp at h
theorem BTr.trans {mk mq M1 Q1 M2 Q2 : List (Blk U.El)} (h : BTr U D Dc ιc mE ι' m' w' mk mq M1 Q1) (k : BTr U D Dc ιc mE ι' m' w' M1 Q1 M2 Q2) (h1 : Q1 <+: Q2) (h2 : M1 <+: M2) {d : Nat} (hm : M1.length = mk.length + d) (hq : Q1.length = mq.length + d) : BTr U D Dc ιc mE ι' m' w' mk mq M2 Q2 := by
  intro i b hb
  by_cases hi : i < d
  · obtain ⟨q, rfl⟩ := h1
    rw [List.getElem?_append_left (by omega)] at hb
    obtain ⟨b0, e, f⟩ := h i b hb
    obtain ⟨r, rfl⟩ := h2
    exact ⟨b0, by rw [List.getElem?_append_left (by omega)]; exact e, f⟩
  · have e1 : mq.length + i = Q1.length + (i - d) := by omega
    have e2 : mk.length + i = M1.length + (i - d) := by omega
    rw [e1] at hb ⊢
    rw [e2]
    exact k _ b hb

theorem enc1_btr (H : Hand U D Dc true lc N ιc pu mE ι' m' w') (s : S1) (x : s.T U.El) (mk mq : List (Blk U.El)) (hq : mq.length = N + mk.length) (hp : (enc1 true true s x mk).2 <+: pu) :
    BTr U D Dc ιc mE ι' m' w' mk mq (enc1 true true s x mk).2 (enc1 true lc s x mq).2 := by
  have one : ∀ t (l : List (U.El t)), (mk ++ [.da t l]) <+: pu → BTr U D Dc ιc mE ι' m' w' mk mq (mk ++ [.da t l]) (mq ++ [.da t l]) := by
    intro t l hp i b hb
    have hi : i = 0 ∧ b = .da t l := by
      have hlt := (List.getElem?_eq_some_iff.1 hb).1
      simp at hlt
      subst hlt
      exact ⟨rfl, by simpa using hb.symm⟩
    obtain ⟨rfl, rfl⟩ := hi
    refine ⟨.da t l, by simp, fun h => ?_⟩
    rw [Nat.add_zero] at h ⊢
    have hlt : mk.length < pu.length := by
      obtain ⟨r, hr⟩ := hp
      rw [← hr]
      simp
    simp only [BR] at h ⊢
    rw [hq, H.iota rfl _ hlt]
    exact h
  cases s with
  | sl t => exact one t x hp
  | ip t => exact one t x hp
  | _ => exact BTr.refl

theorem enc2_btr (H : Hand U D Dc true lc N ιc pu mE ι' m' w') : ∀ (ss : List S1) (x : Ts U.El ss) (mk mq : List (Blk U.El)), mq.length = N + mk.length → (enc2 true true ss x mk).2 <+: pu →
    BTr U D Dc ιc mE ι' m' w' mk mq (enc2 true true ss x mk).2 (enc2 true lc ss x mq).2
  | [], _, _, _, _, _ => BTr.refl
  | s :: ss, (x, y), mk, mq, hq, hp => (enc1_btr H s x mk mq hq ((enc2_pre true true ss y _).trans hp)).trans (enc2_btr H ss y _ _ (by rw [enc1_len, enc1_len, hq]; omega) hp) (enc2_pre ..) (enc2_pre ..) (enc1_len ..) (enc1_len ..)

theorem encO_btr (H : Hand U D Dc true lc N ιc pu mE ι' m' w') (s : AS) (x : s.T U.El) (mk mq : List (Blk U.El)) (hq : mq.length = N + mk.length) (hp : (encO true true s x mk).2 <+: pu) :
    BTr U D Dc ιc mE ι' m' w' mk mq (encO true true s x mk).2 (encO true lc s x mq).2 := by
  cases s with
  | c s => exact enc1_btr H s x mk mq hq hp
  | agg ss => exact enc2_btr H ss x mk mq hq hp
  | io t ss => exact enc2_btr H ss x mk mq hq hp
  | np t ss =>
    have hp' : (enc2 true true ss x mk).2 <+: pu := (List.prefix_append _ _).trans hp
    refine (enc2_btr H ss x mk mq hq hp').trans (M2 := (encO true true (.np t ss) x mk).2) (Q2 := (encO true lc (.np t ss) x mq).2) ?_ (List.prefix_append _ _) (List.prefix_append _ _) (enc2_len ..) (enc2_len ..)
    intro i b hb
    have hi : i = 0 ∧ b = .st t (enc2 true lc ss x mq).1 := by
      have hlt := (List.getElem?_eq_some_iff.1 hb).1
      simp [encO] at hlt
      subst hlt
      exact ⟨rfl, by simpa [encO] using hb.symm⟩
    obtain ⟨rfl, rfl⟩ := hi
    refine ⟨.st t (enc2 true true ss x mk).1, by simp [encO], fun h => ?_⟩
    rw [Nat.add_zero] at h ⊢
    obtain ⟨β, vs, e1, e2, e3⟩ := h
    have hlt : (enc2 true true ss x mk).2.length < pu.length := by
      obtain ⟨r, hr⟩ := hp
      have := congrArg List.length hr
      simp only [encO, List.length_append, List.length_singleton] at this
      omega
    have e : (enc2 true lc ss x mq).2.length = N + (enc2 true true ss x mk).2.length := (enc2_len lc ss x mq).trans ((by omega : mq.length + np1 ss = N + (mk.length + np1 ss)).trans (congrArg (N + ·) (enc2_len true ss x mk).symm))
    exact ⟨β, vs, by rw [e, H.iota rfl _ hlt]; exact e1, e2, enc2_hand H ss x mk mq (fun _ => hq) hp' e3⟩
  | _ => exact BTr.refl

theorem encOs_btr (H : Hand U D Dc true lc N ιc pu mE ι' m' w') : ∀ (ss : List AS) (x : Os U.El ss) (mk mq : List (Blk U.El)), mq.length = N + mk.length → (encOs true true ss x mk).2 <+: pu →
    BTr U D Dc ιc mE ι' m' w' mk mq (encOs true true ss x mk).2 (encOs true lc ss x mq).2
  | [], _, _, _, _, _ => BTr.refl
  | [s], x, mk, mq, hq, hp => encO_btr H s x mk mq hq hp
  | s :: s' :: ss, (x, y), mk, mq, hq, hp => (encO_btr H s x mk mq hq ((encOs_pre true true (s' :: ss) y _).trans hp)).trans (encOs_btr H (s' :: ss) y _ _ (by rw [encO_len, encO_len, hq]; omega) hp) (encOs_pre ..) (encOs_pre ..) (encO_len ..) (encO_len ..)

theorem resV_ok {U : Univ} {B : Nat → Prop} {ι : Nat → Value} {m : List (Blk U.El)} {w : World} {U' : Univ} {B' : Nat → Prop} {ι' : Nat → Value} {m' : List (Blk U'.El)} {w' : World} {xs : List (W U.El)} {ys : List (W U'.El)} {v : Value}
    (h : VR U B ι m w (resV xs) v) (hl : xs.length = ys.length) (hw : ∀ (j : Nat) (a : W U.El) (b : W U'.El), xs[j]? = some a → ys[j]? = some b → ∀ v, WR U B ι m w a v → WR U' B' ι' m' w' b v) : VR U' B' ι' m' w' (resV ys) v := by
  have all : ∀ (xs : List (W U.El)) (ys : List (W U'.El)) (vs : List Value), xs.length = ys.length → (∀ (j : Nat) (a : W U.El) (b : W U'.El), xs[j]? = some a → ys[j]? = some b → ∀ v, WR U B ι m w a v → WR U' B' ι' m' w' b v) → WsR U B ι m w xs vs → WsR U' B' ι' m' w' ys vs := by
    intro xs
    induction xs with
    | nil => intro ys vs hl _ h; cases ys with
      | nil => exact h
      | cons => simp at hl
    | cons x xs ih =>
      intro ys vs hl hw h
      cases ys with
      | nil => simp at hl
      | cons y ys =>
        obtain ⟨v, r, e, h1, h2⟩ := h
        exact ⟨v, r, e, hw 0 x y rfl rfl v h1, ih ys r (by simpa using hl) (fun j a b ha hb => hw (j + 1) a b (by simpa using ha) (by simpa using hb)) h2⟩
  match xs, ys, hl with
  | [], [], _ => exact h
  | [x], [y], _ => exact hw 0 x y rfl rfl v h
  | x :: x' :: xs, y :: y' :: ys, hl =>
    obtain ⟨vs, e, h1⟩ := h
    exact ⟨vs, e, all _ _ vs hl hw h1⟩
end
end Go.Proofs.Ytnjmkkgmlkhjeaa.AM
namespace Go.Proofs.Ytnjmkkgmlkhjeaa.AM
open Go.RowKit
variable {ρ : Type}

section
variable {El : Nat → Type}
theorem kill_len : ∀ (is : List (Option Nat)) (m : List (Blk El)), (kill m is).length = m.length
  | [], _ => rfl
  | some i :: is, m => by rw [kill, kill_len is]; simp
  | none :: is, m => kill_len is m
theorem kill_get : ∀ (is : List (Option Nat)) (m : List (Blk El)) (i : Nat), (kill m is)[i]? = if some i ∈ is then (m[i]?).map (fun _ => .dead) else m[i]?
  | [], m, i => by simp [kill]
  | none :: is, m, i => by
    rw [kill, kill_get is]
    simp
  | some j :: is, m, i => by
    rw [kill, kill_get is]
    by_cases hj : j = i
    · subst hj
      by_cases hi : some j ∈ is
      · simp [hi, List.getElem?_set]
        by_cases hl : j < m.length <;> simp [hl]
      · simp [hi, List.getElem?_set]
        by_cases hl : j < m.length <;> simp [hl]
    · have hne : (some i : Option Nat) ≠ some j := fun h => hj (Option.some.inj h).symm
      simp only [List.mem_cons, hne, false_or, List.getElem?_set_ne hj]
theorem putBk_len : ∀ (is : List (Option Nat)) (bs : List (Blk El)) (m : List (Blk El)), (putBk m is bs).length = m.length
  | [], [], _ | [], _ :: _, _ => rfl
  | some i :: is, b :: bs, m => by rw [putBk, putBk_len is bs]; simp
  | none :: is, _ :: bs, m => by rw [putBk, putBk_len is bs]
  | some _ :: _, [], _ | none :: _, [], _ => rfl
theorem putBk_other : ∀ (is : List (Option Nat)) (bs : List (Blk El)) (m : List (Blk El)) (i : Nat), some i ∉ is → (putBk m is bs)[i]? = m[i]?
  | [], [], _, _, _ | [], _ :: _, _, _, _ => rfl
  | some j :: is, b :: bs, m, i, h => by
    rw [List.mem_cons, not_or] at h
    rw [putBk, putBk_other is bs _ i h.2, List.getElem?_set_ne (fun e => h.1 (by rw [e]))]
  | none :: is, _ :: bs, m, i, h => by
    rw [List.mem_cons, not_or] at h
    rw [putBk, putBk_other is bs _ i h.2]
  | some _ :: _, [], _, _, _ | none :: _, [], _, _, _ => rfl
theorem putBk_at : ∀ (is : List (Option Nat)) (bs : List (Blk El)) (m : List (Blk El)) (j i : Nat) (b : Blk El), (is.filterMap id).Nodup → is[j]? = some (some i) → bs[j]? = some b → i < m.length → (putBk m is bs)[i]? = some b
  | [], bs, _, j, _, _, _, h, _, _ => by simp at h
  | some k :: is, b' :: bs, m, j, i, b, hn, h1, h2, hl => by
    rw [List.filterMap_cons_some (f := id) (b := k) rfl, List.nodup_cons] at hn
    cases j with
    | zero =>
      simp at h1 h2
      subst h1
      subst h2
      rw [putBk, putBk_other is bs _ k (fun h => hn.1 (List.mem_filterMap.2 ⟨some k, h, rfl⟩))]
      simp [hl]
    | succ j => exact putBk_at is bs _ j i b hn.2 (by simpa using h1) (by simpa using h2) (by simpa using hl)
  | none :: is, b' :: bs, m, j, i, b, hn, h1, h2, hl => by
    cases j with
    | zero => simp at h1
    | succ j => exact putBk_at is bs m j i b (by simpa using hn) (by simpa using h1) (by simpa using h2) hl
  | some _ :: _, [], _, _, _, _, _, _, h, _ | none :: _, [], _, _, _, _, _, _, h, _ => by simp at h
theorem bkBlks_len : ∀ (ss : List AS) (ws : List (W El)), ss.length = ws.length → (bkBlks ss ws).length = ss.length
  | [], [], _ => rfl
  | s :: ss, w :: ws, h => by simp only [bkBlks, List.length_cons]; rw [bkBlks_len ss ws (by simpa using h)]
  | [], _ :: _, h | _ :: _, [], h => by simp at h
theorem bkBlks_get : ∀ (ss : List AS) (ws : List (W El)) (j : Nat) (s : AS) (w : W El), ss[j]? = some s → ws[j]? = some w → (bkBlks ss ws)[j]? = some (bkBlk s w)
  | [], _, j, _, _, h, _ => by simp at h
  | _ :: _, [], j, _, _, _, h => by simp at h
  | s :: ss, w :: ws, j, s', w', h1, h2 => by
    cases j with
    | zero => simp at h1 h2; subst h1; subst h2; rfl
    | succ j => exact bkBlks_get ss ws j s' w' (by simpa using h1) (by simpa using h2)
end

section
variable {U : Univ} {D : Nat → Prop} {S : Nat → Prop} {ι : Nat → Value} {m : List (Blk U.El)} {w : World}

/-- What is handed over is alive. -/
theorem mv_live1 {s : S1} {c : C U.El} {x : s.T U.El} (h : s.dec m c = some x) {a : Nat} (ha : some a ∈ s.mv c) : ∃ b, m[a]? = some b ∧ b.live := by
  cases s with
  | ip t =>
    have h' : ownRow m t c = some (x : List (U.El t)) := h
    rcases dec_own h' with ⟨id, rfl, hb⟩ | ⟨rfl, _⟩
    · simp [S1.mv, C.src] at ha
      subst ha
      exact ⟨_, hb, trivial⟩
    · simp [S1.mv, C.src] at ha
  | gv t =>
    have h' : ownRow m t c = some (x : List (U.El t)) := h
    rcases dec_own h' with ⟨id, rfl, hb⟩ | ⟨rfl, _⟩
    · simp [S1.mv, C.src] at ha
      subst ha
      exact ⟨_, hb, trivial⟩
    · simp [S1.mv, C.src] at ha
  | _ => simp [S1.mv] at ha
theorem mv_live2 : ∀ {ss : List S1} {cs : List (C U.El)} {x : Ts U.El ss}, decs m ss cs = some x → ∀ {a : Nat}, some a ∈ mv1 ss cs → ∃ b, m[a]? = some b ∧ b.live
  | [], [], _, _, a, ha => by simp [mv1] at ha
  | [], _ :: _, _, h, _, _ => by simp [decs] at h
  | _ :: _, [], _, h, _, _ => by simp [decs] at h
  | s :: ss, c :: cs, x, h, a, ha => by
    simp only [decs] at h
    obtain ⟨y, h3, h⟩ := Option.bind_eq_some_iff.1 h
    obtain ⟨z, h4, h⟩ := Option.bind_eq_some_iff.1 h
    rcases List.mem_append.1 ha with ha | ha
    · exact mv_live1 h3 ha
    · exact mv_live2 h4 ha
theorem mv_liveIo {t : Nat} {ss : List S1} {id : Nat} {x : Ts U.El ss} (h : ioDec m t ss id = some x) {a : Nat} (ha : some a ∈ mvIo m ss id) : ∃ b, m[a]? = some b ∧ b.live := by
  obtain ⟨cs, hb, hd⟩ := ioDec_some h
  simp only [mvIo, hb] at ha
  rcases List.mem_append.1 ha with ha | ha
  · exact mv_live2 hd ha
  · simp at ha
    subst ha
    exact ⟨_, hb, trivial⟩
theorem mv_liveCaps : ∀ {caps : List (Nat × List S1)} {cs : List (Nat × Nat)} {x : CapT U.El caps}, capsDec m caps cs = some x → ∀ {a : Nat}, some a ∈ mvCaps m caps cs → ∃ b, m[a]? = some b ∧ b.live
  | [], [], _, _, a, ha => by simp [mvCaps] at ha
  | [], _ :: _, _, h, _, _ => by simp [capsDec] at h
  | _ :: _, [], _, h, _, _ => by simp [capsDec] at h
  | p :: ps, c :: cs, x, h, a, ha => by
    simp only [capsDec] at h
    split at h
    case isFalse => cases h
    obtain ⟨y, h3, h⟩ := Option.bind_eq_some_iff.1 h
    obtain ⟨z, h4, h⟩ := Option.bind_eq_some_iff.1 h
    rcases List.mem_append.1 ha with ha | ha
    · exact mv_liveIo h3 ha
    · exact mv_liveCaps h4 ha
theorem mv_liveA {s : AS} {v : V U.El} {x : s.T U.El} (h : s.dec U m v = some x) {a : Nat} (ha : some a ∈ s.mv m v) : ∃ b, m[a]? = some b ∧ b.live := by
  cases s with
  | c s => cases v with
    | w y => cases y with
      | c c => exact mv_live1 (s := s) h ha
      | agg => simp [AS.mv] at ha
    | _ => simp [AS.mv] at ha
  | agg ss => cases v with
    | w y => cases y with
      | agg xs => exact mv_live2 h ha
      | c => simp [AS.mv] at ha
    | _ => simp [AS.mv] at ha
  | io t ss => cases v with
    | w y => cases y with
      | c c => cases c with
        | ptr id off =>
          change (if off = 0 then ioDec m t ss id else none) = some x at h
          split at h
          · exact mv_liveIo h ha
          · cases h
        | _ => simp [AS.mv] at ha
      | agg => simp [AS.mv] at ha
    | _ => simp [AS.mv] at ha
  | fnp f caps => cases v with
    | w y => cases y with
      | c c => cases c with
        | fn f' cs =>
          change (if f' = f then capsDec m caps cs else none) = some x at h
          split at h
          · exact mv_liveCaps h ha
          · cases h
        | _ => simp [AS.mv] at ha
      | agg => simp [AS.mv] at ha
    | _ => simp [AS.mv] at ha
  | _ => simp [AS.mv] at ha
theorem mvs_live : ∀ {ss : List AS} {vs : List (V U.El)} {x : ASs U.El ss}, ASdec U m ss vs = some x → ∀ {a : Nat}, some a ∈ mvs m ss vs → ∃ b, m[a]? = some b ∧ b.live
  | [], [], _, _, a, ha => by simp [mvs] at ha
  | [], _ :: _, _, h, _, _ => by simp [ASdec] at h
  | _ :: _, [], _, h, _, _ => by simp [ASdec] at h
  | s :: ss, v :: vs, x, h, a, ha => by
    simp only [ASdec] at h
    obtain ⟨y, h3, h⟩ := Option.bind_eq_some_iff.1 h
    obtain ⟨z, h4, h⟩ := Option.bind_eq_some_iff.1 h
    rcases List.mem_append.1 ha with ha | ha
    · exact mv_liveA h3 ha
    · exact mvs_live h4 ha

theorem encI1_len' {El : Nat → Type} {mk : List (Blk El)} (s : S1) (c : C El) (x : s.T El) : (encI1 s x mk).2.length = mk.length + (s.mv c).length := by
  cases s <;> simp [encI1, S1.mv]
theorem encIo_len {t : Nat} {ss : List S1} {id : Nat} {x : Ts U.El ss} {mk : List (Blk U.El)} (h : ioDec m t ss id = some x) : (encIo t ss x mk).2.length = mk.length + (mvIo m ss id).length := by
  obtain ⟨cs, hb, hd⟩ := ioDec_some h
  have : ∀ {ss : List S1} {cs : List (C U.El)} {x : Ts U.El ss} (mk : List (Blk U.El)), decs m ss cs = some x → (encI2 ss x mk).2.length = mk.length + (mv1 ss cs).length := by
    intro ss
    induction ss with
    | nil => intro cs x mk h; cases cs with
      | nil => rfl
      | cons => simp [decs] at h
    | cons s ss ih =>
      intro cs x mk h
      cases cs with
      | nil => simp [decs] at h
      | cons c cs =>
        simp only [decs] at h
        obtain ⟨y, h3, h⟩ := Option.bind_eq_some_iff.1 h
        obtain ⟨z, h4, h⟩ := Option.bind_eq_some_iff.1 h
        cases h
        simp only [encI2, mv1, List.length_append]
        rw [ih (mk := (encI1 s y mk).2) h4, encI1_len' s c y]
        omega
  simp only [encIo, mvIo, hb, List.length_append, List.length_singleton]
  rw [this mk hd]
  omega
theorem encIs_len : ∀ {ss : List AS} {vs : List (V U.El)} {x : ASs U.El ss} {mk : List (Blk U.El)}, ASdec U m ss vs = some x → (encIs ss x mk).2.length = mk.length + (mvs m ss vs).length := by
  have e2 : ∀ {ss : List S1} {cs : List (C U.El)} {x : Ts U.El ss} (mk : List (Blk U.El)), decs m ss cs = some x → (encI2 ss x mk).2.length = mk.length + (mv1 ss cs).length := by
    intro ss
    induction ss with
    | nil => intro cs x mk h; cases cs with
      | nil => rfl
      | cons => simp [decs] at h
    | cons s ss ih =>
      intro cs x mk h
      cases cs with
      | nil => simp [decs] at h
      | cons c cs =>
        simp only [decs] at h
        obtain ⟨y, h3, h⟩ := Option.bind_eq_some_iff.1 h
        obtain ⟨z, h4, h⟩ := Option.bind_eq_some_iff.1 h
        cases h
        simp only [encI2, mv1, List.length_append]
        rw [ih (mk := (encI1 s y mk).2) h4, encI1_len' s c y]
        omega
  have e3 : ∀ {caps : List (Nat × List S1)} {cs : List (Nat × Nat)} {x : CapT U.El caps} {mk : List (Blk U.El)}, capsDec m caps cs = some x → (encICaps caps x mk).2.length = mk.length + (mvCaps m caps cs).length := by
    intro caps
    induction caps with
    | nil => intro cs x mk h; cases cs with
      | nil => rfl
      | cons => simp [capsDec] at h
    | cons p ps ih =>
      intro cs x mk h
      cases cs with
      | nil => simp [capsDec] at h
      | cons c cs =>
        simp only [capsDec] at h
        split at h
        case isFalse => cases h
        obtain ⟨y, h3, h⟩ := Option.bind_eq_some_iff.1 h
        obtain ⟨z, h4, h⟩ := Option.bind_eq_some_iff.1 h
        cases h
        simp only [encICaps, mvCaps, List.length_append]
        rw [ih h4, encIo_len h3]
        omega
  have e4 : ∀ {s : AS} {v : V U.El} {x : s.T U.El} {mk : List (Blk U.El)}, s.dec U m v = some x → (encI s x mk).2.length = mk.length + (s.mv m v).length := by
    intro s v x mk h
    cases s with
    | c s => cases v with
      | w y => cases y with
        | c c => exact encI1_len' s c x
        | agg => cases h
      | _ => cases h
    | agg ss => cases v with
      | w y => cases y with
        | agg xs => exact e2 mk h
        | c => cases h
      | _ => cases h
    | ptr t => cases v with
      | w y => cases y <;> rfl
      | _ => rfl
    | skip => cases v <;> rfl
    | io t ss => cases v with
      | w y => cases y with
        | c c => cases c with
          | ptr id off =>
            change (if off = 0 then ioDec m t ss id else none) = some x at h
            split at h
            · exact encIo_len h
            · cases h
          | _ => cases h
        | agg => cases h
      | _ => cases h
    | bk t => cases v with
      | w y => cases y <;> cases h
      | _ => cases h
    | np t ss => cases v with
      | w y => cases y <;> cases h
      | _ => cases h
    | fnp f caps => cases v with
      | w y => cases y with
        | c c => cases c with
          | fn f' cs =>
            change (if f' = f then capsDec m caps cs else none) = some x at h
            split at h
            · exact e3 h
            · cases h
          | _ => cases h
        | agg => cases h
      | _ => cases h
  intro ss
  induction ss with
  | nil => intro vs x mk h; cases vs with
    | nil => rfl
    | cons => simp [ASdec] at h
  | cons s ss ih =>
    intro vs x mk h
    cases vs with
    | nil => simp [ASdec] at h
    | cons v vs =>
      simp only [ASdec] at h
      obtain ⟨y, h3, h⟩ := Option.bind_eq_some_iff.1 h
      obtain ⟨z, h4, h⟩ := Option.bind_eq_some_iff.1 h
      cases h
      simp only [encIs, mvs, List.length_append]
      rw [ih h4, e4 h3]
      omega

/-- What is handed over has its place. -/
theorem dec_align1 {s : S1} {c : C U.El} {x : s.T U.El} (h : s.dec m c = some x) : s.align U c = true := by
  have sc : ∀ {v : Value}, c = .sc v → Nat.beq 1 (c.width U) = true := by rintro v rfl; rfl
  cases s with
  | int k => simp only [S1.align, S1.width, Bool.and_true]; exact sc (dec_int h)
  | bool => simp only [S1.align, S1.width, Bool.and_true]; exact sc (dec_bool h)
  | str => simp only [S1.align, S1.width, Bool.and_true]; exact sc (dec_str h)
  | row t => cases c <;> first | rfl | (simp [S1.dec, rowOf] at h)
  | sl t => cases c <;> first | rfl | (simp [S1.dec, rowOf] at h)
  | rol t => cases c <;> first | rfl | (simp [S1.dec, rolOf] at h)
  | arr t n => have := dec_arr h; subst this; simp [S1.align, S1.width, C.width]
  | ip t =>
    have h' : ownRow m t c = some (x : List (U.El t)) := h
    rcases dec_own h' with ⟨id, rfl, hb⟩ | ⟨rfl, _⟩ <;> rfl
  | gv t =>
    have h' : ownRow m t c = some (x : List (U.El t)) := h
    rcases dec_own h' with ⟨id, rfl, hb⟩ | ⟨rfl, _⟩ <;> rfl
theorem decs_align : ∀ {ss : List S1} {cs : List (C U.El)} {x : Ts U.El ss}, decs m ss cs = some x → align1 U ss cs = true
  | [], [], _, _ => rfl
  | [], _ :: _, _, h => by simp [decs] at h
  | _ :: _, [], _, h => by simp [decs] at h
  | s :: ss, c :: cs, x, h => by
    simp only [decs] at h
    obtain ⟨y, h3, h⟩ := Option.bind_eq_some_iff.1 h
    obtain ⟨z, h4, h⟩ := Option.bind_eq_some_iff.1 h
    simp only [align1, Bool.and_eq_true]
    exact ⟨dec_align1 h3, decs_align h4⟩
theorem caps_align : ∀ {caps : List (Nat × List S1)} {cs : List (Nat × Nat)} {x : CapT U.El caps}, capsDec m caps cs = some x → caps.length = cs.length ∧ (cs.all fun c => Nat.beq c.2 0) = true
  | [], [], _, _ => ⟨rfl, rfl⟩
  | [], _ :: _, _, h => by simp [capsDec] at h
  | _ :: _, [], _, h => by simp [capsDec] at h
  | p :: ps, c :: cs, x, h => by
    simp only [capsDec] at h
    split at h
    case isFalse => cases h
    rename_i h0
    obtain ⟨y, h3, h⟩ := Option.bind_eq_some_iff.1 h
    obtain ⟨z, h4, h⟩ := Option.bind_eq_some_iff.1 h
    obtain ⟨h5, h6⟩ := caps_align h4
    exact ⟨by simp [h5], by simp only [List.all_cons, h6, h0, Bool.and_true]; rfl⟩
theorem ASdec_align : ∀ {ss : List AS} {vs : List (V U.El)} {x : ASs U.El ss}, ASdec U m ss vs = some x → aligns U ss vs = true
  | [], [], _, _ => rfl
  | [], _ :: _, _, h => by simp [ASdec] at h
  | _ :: _, [], _, h => by simp [ASdec] at h
  | s :: ss, v :: vs, x, h => by
    simp only [ASdec] at h
    obtain ⟨y, h3, h⟩ := Option.bind_eq_some_iff.1 h
    obtain ⟨z, h4, h⟩ := Option.bind_eq_some_iff.1 h
    simp only [aligns, Bool.and_eq_true]
    refine ⟨?_, ASdec_align h4⟩
    clear h h4
    cases s with
    | c s => cases v with
      | w y => cases y with
        | c c => simp only [AS.align, Bool.or_eq_true]; exact .inr (dec_align1 (s := s) h3)
        | agg => cases h3
      | _ => cases h3
    | agg ss => cases v with
      | w y => cases y with
        | agg xs => simp only [AS.align, Bool.or_eq_true]; exact .inr (decs_align h3)
        | c => cases h3
      | _ => cases h3
    | io t ss => cases v with
      | w y => cases y with
        | c c => cases c with
          | ptr id off =>
            change (if off = 0 then ioDec m t ss id else none) = some y at h3
            split at h3
            · rename_i h0; subst h0; rfl
            · cases h3
          | _ => cases h3
        | agg => cases h3
      | _ => cases h3
    | fnp f caps => cases v with
      | w y => cases y with
        | c c => cases c with
          | fn f' cs =>
            change (if f' = f then capsDec m caps cs else none) = some y at h3
            split at h3
            · obtain ⟨h5, h6⟩ := caps_align h3
              simp only [AS.align, h5, h6, Bool.and_true]
              exact Nat.beq_refl _
            · cases h3
          | _ => cases h3
        | agg => cases h3
      | _ => cases h3
    | ptr t => cases v <;> rfl
    | skip => cases v <;> rfl
    | bk t => cases v <;> rfl
    | np t ss => cases v <;> rfl

/-- The value of what comes back. -/
def idv (ι : Nat → Value) : Option Nat → Value
  | some a => ι a
  | none => .slice none 0 0
theorem isIp_val {c : C U.El} {v : Value} (h : c.isIp = true) (hv : CR U D ι m w c v) : idv ι c.src = v := by
  cases c with
  | sl id => exact hv.2.1.symm
  | sc u =>
    have hu : u = .slice none 0 0 := by
      unfold C.isIp at h
      split at h <;> simp_all
    exact (hv.1.trans hu).symm
  | _ => cases h
theorem bk_none1 {s : S1} (h : s.bkS = []) (c : C U.El) (vs : List Value) : s.bki c = [] ∧ s.bkV vs = [] := by
  cases s <;> first | exact ⟨rfl, rfl⟩ | cases h
theorem bk_none2 : ∀ {ss : List S1}, bkS1 ss = [] → ∀ (cs : List (C U.El)) (vs : List Value), bki1 ss cs = [] ∧ bkV1 U ss vs = []
  | [], _, cs, vs => by cases cs <;> exact ⟨rfl, rfl⟩
  | s :: ss, h, cs, vs => by
    simp only [bkS1, List.append_eq_nil_iff] at h
    cases cs with
    | nil => exact ⟨rfl, by rw [bkV1, (bk_none1 (U := U) h.1 (.sc undef) vs).2, (bk_none2 h.2 [] _).2]; rfl⟩
    | cons c cs => exact ⟨by rw [bki1, (bk_none1 h.1 c vs).1, (bk_none2 h.2 cs vs).1]; rfl, by rw [bkV1, (bk_none1 h.1 c vs).2, (bk_none2 h.2 cs _).2]; rfl⟩
theorem bk_len1 : ∀ {ss : List S1} {cs : List (C U.El)}, align1 U ss cs = true → (bki1 ss cs).length = (bkS1 ss).length
  | [], [], _ => rfl
  | [], _ :: _, h => by simp [align1] at h
  | _ :: _, [], h => by simp [align1] at h
  | s :: ss, c :: cs, h => by
    simp only [align1, Bool.and_eq_true] at h
    simp only [bki1, bkS1, List.length_append]
    rw [bk_len1 h.2]
    cases s <;> rfl
theorem bk_val1 (hU : UOk U) : ∀ {ss : List S1} {cs : List (C U.El)} {vs : List Value}, align1 U ss cs = true → CsR U D ι m w cs vs → (bki1 ss cs).map (idv ι) = bkV1 U ss vs
  | [], [], vs, _, _ => rfl
  | [], _ :: _, _, h, _ => by simp [align1] at h
  | _ :: _, [], _, h, _ => by simp [align1] at h
  | s :: ss, c :: cs, vs, h, ⟨a, r, e, h1, h2⟩ => by
    simp only [align1, Bool.and_eq_true, S1.align] at h
    obtain ⟨⟨hw, hip⟩, h⟩ := h
    have hl : a.length = s.width U := (h1.len hU).trans (Nat.eq_of_beq_eq_true hw).symm
    have ih := bk_val1 hU h h2
    simp only [bki1, bkV1, List.map_append]
    rw [ih, e, ← hl, List.drop_left]
    congr 1
    cases s with
    | ip t =>
      have hip' : c.isIp = true := hip
      obtain ⟨v, e2, h3⟩ := CsR.single (by intro t n l e; subst e; cases hip') (vs := a) ⟨a, [], by simp, h1, rfl⟩
      subst e2
      simp [S1.bki, S1.bkV, isIp_val hip' h3]
    | _ => rfl
theorem caps_val : ∀ {cs : List (Nat × Nat)} {vs : List Value}, vs.length = cs.length → (cs.all fun c => Nat.beq c.2 0) = true → (∀ (j : Nat) (p : Nat × Nat) (u : Value), cs[j]? = some p → vs[j]? = some u → PR U ι m p.1 p.2 u) → (cs.map fun c => some c.1).map (idv ι) = vs
  | [], [], _, _, _ => rfl
  | [], _ :: _, h, _, _ => by simp at h
  | _ :: _, [], h, _, _ => by simp at h
  | c :: cs, v :: vs, hl, h0, h => by
    simp only [List.all_cons, Bool.and_eq_true] at h0
    have ih := caps_val (by simpa using hl) h0.2 fun j p u hp hu => h (j + 1) p u (by simpa using hp) (by simpa using hu)
    simp only [List.map_cons, ih]
    congr 1
    obtain ⟨_, β, h1, h2⟩ := h 0 c v rfl rfl
    rw [Nat.eq_of_beq_eq_true h0.1] at h2
    exact h1.trans h2.symm
theorem bk_val (hU : UOk U) {s : AS} {v : V U.El} {u : Value} (h : s.align U v = true) (hv : VR U D ι m w v u) : (s.bkI v).length = s.bkS.length ∧ (s.bkI v).map (idv ι) = s.bkV U u := by
  have nc : ∀ {s : S1}, s.bkS.isEmpty = true → ([] : List (Option Nat)).length = s.bkS.length ∧ ([] : List (Option Nat)).map (idv ι) = s.bkV [u] := by
    intro s hs
    rw [List.isEmpty_iff] at hs
    rw [hs, (bk_none1 (U := U) hs (.sc undef) [u]).2]
    exact ⟨rfl, rfl⟩
  have na : ∀ {ss : List S1}, (bkS1 ss).isEmpty = true → ([] : List (Option Nat)).length = (bkS1 ss).length ∧ ([] : List (Option Nat)).map (idv ι) = (AS.agg ss).bkV U u := by
    intro ss hs
    rw [List.isEmpty_iff] at hs
    rw [hs]
    refine ⟨rfl, ?_⟩
    cases u <;> first | rfl | exact (bk_none2 (U := U) hs [] _).2.symm
  cases s with
  | c s =>
    cases v with
    | w y => cases y with
      | c c =>
        simp only [AS.align, Bool.or_eq_true, List.isEmpty_iff] at h
        rcases h with h | h
        · have := bk_none1 (U := U) h c [u]
          simp only [AS.bkI, AS.bkS, AS.bkV, this.1, this.2, h]
          exact ⟨rfl, rfl⟩
        · cases s with
          | ip t =>
            simp only [S1.align, Bool.and_eq_true] at h
            exact ⟨rfl, by simp [AS.bkI, S1.bki, AS.bkV, S1.bkV, isIp_val h.2 hv]⟩
          | _ => exact ⟨rfl, rfl⟩
      | agg => exact nc h
    | _ => exact nc h
  | agg ss =>
    cases v with
    | w y => cases y with
      | agg xs =>
        obtain ⟨vs, rfl, h1⟩ := hv
        simp only [AS.align, Bool.or_eq_true, List.isEmpty_iff] at h
        rcases h with h | h
        · have := bk_none2 (U := U) h xs vs
          simp only [AS.bkI, AS.bkS, AS.bkV, this.1, this.2, h]
          exact ⟨rfl, rfl⟩
        · exact ⟨bk_len1 h, bk_val1 hU h h1⟩
      | c => exact na h
    | _ => exact na h
  | io t ss =>
    cases v with
    | w y => cases y with
      | c c => cases c with
        | ptr id off =>
          have h0 : off = 0 := Nat.eq_of_beq_eq_true h
          subst h0
          obtain ⟨_, β, h1, h2⟩ := hv
          exact ⟨rfl, by simp [AS.bkI, AS.bkV, idv, h1, h2]⟩
        | _ => cases h
      | agg => cases h
    | _ => cases h
  | fnp f caps =>
    have hcl : ∀ caps : List (Nat × List S1), (bkCaps caps).length = caps.length := by
      intro caps
      induction caps with
      | nil => rfl
      | cons p ps ih => simp [bkCaps, ih]
    have hn : caps.isEmpty = true → ([] : List (Option Nat)).length = (bkCaps caps).length ∧ ([] : List (Option Nat)).map (idv ι) = (AS.fnp f caps).bkV U u := by
      intro h
      rw [List.isEmpty_iff] at h
      subst h
      exact ⟨rfl, by cases u <;> rfl⟩
    cases v with
    | w y => cases y with
      | c c => cases c with
        | fn f' cs =>
          simp only [AS.align, Bool.and_eq_true] at h
          obtain ⟨vs, rfl, h1, h2⟩ := hv
          have hl := Nat.eq_of_beq_eq_true h.1
          refine ⟨by simp only [AS.bkI, AS.bkS, List.length_map, hcl]; exact hl.symm, ?_⟩
          have := caps_val h1 h.2 h2
          cases caps with
          | nil =>
            have : cs = [] := List.eq_nil_of_length_eq_zero hl.symm
            subst this
            rfl
          | cons p ps => exact this
        | _ => exact hn h
      | agg => exact hn h
    | _ => exact hn h
  | ptr t => cases v <;> exact ⟨rfl, by cases u <;> rfl⟩
  | skip => cases v <;> exact ⟨rfl, by cases u <;> rfl⟩
  | bk t => cases v <;> exact ⟨rfl, by cases u <;> rfl⟩
  | np t ss => cases v <;> exact ⟨rfl, by cases u <;> rfl⟩
theorem bks_val (hU : UOk U) : ∀ {ss : List AS} {vs : List (V U.El)} {us : List Value}, aligns U ss vs = true → VsR U D ι m w vs us → (bkIs ss vs).length = (bkSs ss).length ∧ (bkIs ss vs).map (idv ι) = bkVs U ss us
  | [], [], _, _, h => by cases h; exact ⟨rfl, rfl⟩
  | [], _ :: _, _, h, _ => by simp [aligns] at h
  | _ :: _, [], _, h, _ => by simp [aligns] at h
  | s :: ss, v :: vs, us, h, ⟨u, r, e, h1, h2⟩ => by
    simp only [aligns, Bool.and_eq_true] at h
    obtain ⟨h3, h4⟩ := bk_val hU h.1 h1
    obtain ⟨h5, h6⟩ := bks_val hU h.2 h2
    subst e
    simp only [bkIs, bkSs, bkVs, List.length_append, List.map_append, h3, h4, h5, h6]
    exact ⟨trivial, trivial⟩

theorem caps_sub : ∀ {caps : List (Nat × List S1)} {cs : List (Nat × Nat)} {x : CapT U.El caps}, capsDec m caps cs = some x → (cs.map fun c => some c.1).Sublist (mvCaps m caps cs)
  | [], [], _, _ => List.Sublist.refl _
  | [], _ :: _, _, h => by simp [capsDec] at h
  | _ :: _, [], _, h => by simp [capsDec] at h
  | p :: ps, c :: cs, x, h => by
    simp only [capsDec] at h
    split at h
    case isFalse => cases h
    obtain ⟨y, h3, h⟩ := Option.bind_eq_some_iff.1 h
    obtain ⟨z, h4, h⟩ := Option.bind_eq_some_iff.1 h
    obtain ⟨cs', hb, _⟩ := ioDec_some h3
    simp only [List.map_cons, mvCaps, mvIo, hb]
    exact (List.sublist_append_right (mv1 p.2 cs') [some c.1]).append (caps_sub h4)
theorem bki_sub (s : S1) (c : C U.El) : (s.bki c).Sublist (s.mv c) := by
  cases s <;> first | exact List.Sublist.refl _ | exact List.nil_sublist _
theorem bki1_sub : ∀ (ss : List S1) (cs : List (C U.El)), (bki1 ss cs).Sublist (mv1 ss cs)
  | [], [] | [], _ :: _ | _ :: _, [] => List.Sublist.refl _
  | s :: ss, c :: cs => (bki_sub s c).append (bki1_sub ss cs)
/-- What comes back was handed over. -/
theorem bk_sub {s : AS} {v : V U.El} {x : s.T U.El} (h : s.dec U m v = some x) : (s.bkI v).Sublist (s.mv m v) := by
  cases s with
  | c s => cases v with
    | w y => cases y with
      | c c => exact bki_sub s c
      | agg => exact List.Sublist.refl _
    | _ => exact List.Sublist.refl _
  | agg ss => cases v with
    | w y => cases y with
      | agg xs => exact bki1_sub ss xs
      | c => exact List.Sublist.refl _
    | _ => exact List.Sublist.refl _
  | io t ss => cases v with
    | w y => cases y with
      | c c => cases c with
        | ptr id off =>
          change (if off = 0 then ioDec m t ss id else none) = some x at h
          split at h
          · obtain ⟨cs, hb, _⟩ := ioDec_some h
            simp only [AS.bkI, AS.mv, mvIo, hb]
            exact List.sublist_append_right _ _
          · cases h
        | _ => exact List.nil_sublist _
      | agg => exact List.nil_sublist _
    | _ => exact List.nil_sublist _
  | fnp f caps => cases v with
    | w y => cases y with
      | c c => cases c with
        | fn f' cs =>
          change (if f' = f then capsDec m caps cs else none) = some x at h
          split at h
          · exact caps_sub h
          · cases h
        | _ => exact List.nil_sublist _
      | agg => exact List.nil_sublist _
    | _ => exact List.nil_sublist _
  | _ => cases v <;> exact List.nil_sublist _
theorem bks_sub : ∀ {ss : List AS} {vs : List (V U.El)} {x : ASs U.El ss}, ASdec U m ss vs = some x → (bkIs ss vs).Sublist (mvs m ss vs)
  | [], [], _, _ => List.Sublist.refl _
  | [], _ :: _, _, h => by simp [ASdec] at h
  | _ :: _, [], _, h => by simp [ASdec] at h
  | s :: ss, v :: vs, x, h => by
    simp only [ASdec] at h
    obtain ⟨y, h3, h⟩ := Option.bind_eq_some_iff.1 h
    obtain ⟨z, h4, h⟩ := Option.bind_eq_some_iff.1 h
    exact (bk_sub h3).append (bks_sub h4)
theorem no_mv1 {s : S1} (h : s.bkS = []) (hg : s.isGv = false) (c : C U.El) : s.mv c = [] := by
  cases s <;> first | rfl | (cases hg; done) | (cases h; done)
theorem no_mv2 : ∀ {ss : List S1}, bkS1 ss = [] → ss.any S1.isGv = false → ∀ (cs : List (C U.El)), mv1 ss cs = []
  | [], _, _, cs => by cases cs <;> rfl
  | s :: ss, h, hg, cs => by
    simp only [bkS1, List.append_eq_nil_iff] at h
    rw [List.any_cons, Bool.or_eq_false_iff] at hg
    cases cs with
    | nil => rfl
    | cons c cs => rw [mv1, no_mv1 h.1 hg.1, no_mv2 h.2 hg.2]; rfl
theorem quiet_mv : ∀ {ss : List AS} {vs : List (V U.El)} {x : ASs U.El ss}, ASdec U m ss vs = some x → bkSs ss = [] → ss.any AS.isGv = false → mvs m ss vs = []
  | [], [], _, _, _, _ => rfl
  | [], _ :: _, _, h, _, _ => by simp [ASdec] at h
  | _ :: _, [], _, h, _, _ => by simp [ASdec] at h
  | s :: ss, v :: vs, x, h, hq, hg => by
    simp only [ASdec] at h
    obtain ⟨y, h3, h⟩ := Option.bind_eq_some_iff.1 h
    obtain ⟨z, h4, h⟩ := Option.bind_eq_some_iff.1 h
    simp only [bkSs, List.append_eq_nil_iff] at hq
    rw [List.any_cons, Bool.or_eq_false_iff] at hg
    rw [mvs, quiet_mv h4 hq.2 hg.2, List.append_nil]
    cases s with
    | c s => cases v with
      | w y => cases y with
        | c c => exact no_mv1 hq.1 hg.1 c
        | agg => rfl
      | _ => rfl
    | agg ss => cases v with
      | w y => cases y with
        | agg xs => exact no_mv2 hq.1 hg.1 xs
        | c => rfl
      | _ => rfl
    | io t ss => cases hq.1
    | fnp f caps => cases caps with
      | nil => cases v with
        | w y => cases y with
          | c c => cases c <;> rfl
          | agg => rfl
        | _ => rfl
      | cons p ps => cases hq.1
    | _ => cases v <;> rfl
end
end Go.Proofs.Ytnjmkkgmlkhjeaa.AM
namespace Go.Proofs.Ytnjmkkgmlkhjeaa.AM
open Go.RowKit
variable {ρ : Type}

section
variable {P : Program} {G : Cfg} {B : Nat → Prop} {S : Nat → Prop} {ι : Nat → Value} {m : List (Blk G.U.El)} {w : World}

theorem nodup_at : ∀ {l : List (Option Nat)} {a i j : Nat}, (l.filterMap id).Nodup → l[i]? = some (some a) → l[j]? = some (some a) → i = j
  | [], _, i, _, _, h, _ => by simp at h
  | p :: l, a, i, j, hn, h1, h2 => by
    have hmem : ∀ k, l[k]? = some (some a) → a ∈ l.filterMap id := fun k hk => List.mem_filterMap.2 ⟨some a, List.mem_of_getElem? hk, rfl⟩
    cases i with
    | zero =>
      simp at h1
      subst h1
      rw [List.filterMap_cons_some (f := id) (b := a) rfl] at hn
      cases j with
      | zero => rfl
      | succ j => exact absurd (hmem j (by simpa using h2)) (List.nodup_cons.1 hn).1
    | succ i =>
      cases j with
      | zero =>
        simp at h2
        subst h2
        rw [List.filterMap_cons_some (f := id) (b := a) rfl] at hn
        exact absurd (hmem i (by simpa using h1)) (List.nodup_cons.1 hn).1
      | succ j =>
        have hn' : (l.filterMap id).Nodup := by
          cases p with
          | none => rwa [List.filterMap_cons_none (f := id) rfl] at hn
          | some q => rw [List.filterMap_cons_some (f := id) (b := q) rfl] at hn; exact (List.nodup_cons.1 hn).2
        have := nodup_at (a := a) (i := i) (j := j) hn' (by simpa using h1) (by simpa using h2)
        rw [this]

/-- A call, at the caller. -/
theorem call_ok (hF : Fits P G.U G.ti) (hm : MR G.U B S ι m w) (hS : ∀ k, w.heap.size ≤ k → S k) (hSB : ∀ k, S k → B k) {c : Con G.U.El} {key : Nat} (hc : ConOk P G.U key c) {args : List (V G.U.El)} {cargs : List Value} (hv : VsR G.U B ι m w args cargs)
    {x : ASs G.U.El c.ins} (hx : ASdec G.U m c.ins args = some x) (hnd : ((mvs m c.ins args).filterMap id).Nodup) (hus : ∀ i ∈ usOf m c.ins args, some i ∉ mvs m c.ins args) {n : Nat} {y : Os G.U.El (c.outs ++ bkSs c.ins)} (hy : c.plain n x = some y) {own : Bool} (hown : c.quiet = false → own = true)
    {r : List (W G.U.El) × List (Blk G.U.El)} (hr : r = encOs own (lcOf m c.ins args) (c.outs ++ bkSs c.ins) y (kill m (mvs m c.ins args))) {m' : List (Blk G.U.El)} (hm' : m' = putBk r.2 (bkIs c.ins args) (bkBlks (bkSs c.ins) (r.1.drop c.outs.length))) :
    Calls P (key % 65536) cargs.toArray w fun e w' => ∃ u ι', e = .returned u ∧ VR G.U B ι' m' w' (resV (r.1.take c.outs.length)) u ∧ Grow G.U ι m w ι' m' w' ∧ MR G.U B S ι' m' w' ∧ Fr S w w' := by
  have hlive := fun a ha => mvs_live hx (a := a) ha
  have hsub := bks_sub hx
  have hal := ASdec_align hx
  obtain ⟨hbl, hbv⟩ := bks_val hF.U hal hv
  have hlen0 := encIs_len (mk := []) hx
  simp only [List.length_nil, Nat.zero_add] at hlen0
  generalize hmv : mvs m c.ins args = mv at *
  generalize hlc : lcOf m c.ins args = lc at *
  generalize hids : bkIs c.ins args = ids at *
  -- what the call sees
  let ιT : Nat → Value := fun i => match mv[i]? with
    | some (some a) => ι a
    | _ => .slice none 0 0
  have own' : ∀ id b k, (encIs c.ins x []).2[id]? = some b → ownOf (ιT id) = some k → ∃ a b', mv[id]? = some (some a) ∧ m[a]? = some b' ∧ b'.live ∧ ownOf (ι a) = some k := by
    intro id b k hb hk
    have hlt : id < mv.length := by rw [← hlen0]; exact (List.getElem?_eq_some_iff.1 hb).1
    cases hq : mv[id]? with
    | none => simp at hq; omega
    | some o =>
      cases o with
      | none => simp [ιT, hq, ownOf] at hk
      | some a =>
        obtain ⟨b', e1, e2⟩ := hlive a (List.mem_of_getElem? hq)
        exact ⟨a, b', rfl, e1, e2, by simpa [ιT, hq] using hk⟩
  let m0 := kill m mv
  let Dc : Nat → Prop := fun b => Far G.U ι m0 b ∧ (lc = true → B b)
  let Sc : Nat → Prop := fun k => w.heap.size ≤ k ∨ ∃ a b, some a ∈ mv ∧ m[a]? = some b ∧ b.live ∧ ownOf (ι a) = some k
  have m0_get : ∀ id b, m0[id]? = some b → b.live → some id ∉ mv ∧ m[id]? = some b := by
    intro id b hb hl
    have h := kill_get mv m id
    rw [show kill m mv = m0 from rfl, hb] at h
    split at h
    · cases hq : m[id]? with
      | none => rw [hq] at h; cases h
      | some q => rw [hq] at h; cases h; exact hl.elim
    · rename_i hn; exact ⟨hn, h.symm⟩
  have far0 : ∀ b, Far G.U ι m b → Far G.U ι m0 b := fun b hf id q hq hl hk => hf id q (m0_get id q hq hl).2 hl hk
  have new0 : ∀ k, w.heap.size ≤ k → Far G.U ι m k := fun k hk id q hq hl ho => by
    have := own_lt (hm.blk id q hq) hl ho
    omega
  have hScDc : ∀ k, Sc k → Dc k := by
    rintro k (hk | ⟨a, b, h1, h2, h3, h4⟩)
    · exact ⟨far0 k (new0 k hk), fun _ => hSB k (hS k hk)⟩
    · refine ⟨fun id q hq hl ho => ?_, fun _ => hSB k (hm.inS a b k h2 h3 h4)⟩
      obtain ⟨h5, h6⟩ := m0_get id q hq hl
      have := hm.inj id a q b k h6 h2 hl h3 ho h4
      subst this
      exact h5 h1
  have O : Over G.U B Dc lc ι m mv (usOf m c.ins args) ιT (encIs c.ins x []).2 := by
    refine ⟨hlen0, fun i a h => by simp [ιT, h], fun i h => by simp [ιT, h], fun b hf id q hq hl hk => ?_, hus, hm.inj, own', fun b hf hd => ⟨far0 b hf, hd⟩⟩
    obtain ⟨a, b', _, e2, e3, e4⟩ := own' id q b hq hk
    exact hf a b' e2 e3 e4
  obtain ⟨hin, _, _, hpush⟩ := ASdec_ok hF hm O (mk := []) hx hv ⟨[], [], by simp [hmv], rfl⟩ (fun i hi => hi) (fun h => by rw [hlc]; exact h)
  have hMc : MR G.U Dc Sc ιT (encIs c.ins x []).2 w := by
    refine ⟨fun id b hb => by simpa using hpush id b (by simpa using hb), ?_, ?_⟩
    · intro i j b b' k hi hj hl hl' hk hk'
      obtain ⟨a, q, e1, e2, e3, e4⟩ := own' i b k hi hk
      obtain ⟨a', q', e1', e2', e3', e4'⟩ := own' j b' k hj hk'
      have := hm.inj a a' q q' k e2 e2' e3 e3' e4 e4'
      subst this
      exact nodup_at hnd e1 e1'
    · intro id b k hb hl hk
      obtain ⟨a, q, e1, e2, e3, e4⟩ := own' id b k hb hk
      exact .inr ⟨a, q, List.mem_of_getElem? e1, e2, e3, e4⟩
  refine Calls.mono (hc.sound n x y hy Dc Sc ιT cargs w (fun k hk => .inl hk) hScDc hin hMc) ?_
  rintro e w' ⟨u, rfl, hfr, ιc, hvE, hmE, hbk⟩
  -- what the caller sees
  have hFr : Fr S w w' := by
    refine ⟨hfr.os, hfr.tape, hfr.output, hfr.size, fun k hk hns => hfr.block k hk ?_⟩
    rintro (h | ⟨a, b, h1, h2, h3, h4⟩)
    · omega
    · exact hns (hm.inS a b k h2 h3 h4)
  generalize hpu : (encOs true true (c.outs ++ bkSs c.ins) y []).2 = pu at *
  have hpulen : pu.length = nps (c.outs ++ bkSs c.ins) := by rw [← hpu, encOs_len2]; simp
  have hpulive : ∀ b ∈ pu, b.live := by rw [← hpu]; exact encOs_live _ _ _ _ _ (fun b hb => by cases hb)
  have hwl : (encOs true true (c.outs ++ bkSs c.ins) y []).1.length = c.outs.length + (bkSs c.ins).length := by rw [encOs_len, List.length_append]
  have hrl : r.1.length = c.outs.length + (bkSs c.ins).length := by rw [hr, encOs_len, List.length_append]
  have hmEdef : endMem c.ins c.outs y = pu ++ bkBlks (bkSs c.ins) ((encOs true true (c.outs ++ bkSs c.ins) y []).1.drop c.outs.length) := by rw [← hpu]; rfl
  rw [hmEdef] at hvE hmE
  generalize hmEg : pu ++ bkBlks (bkSs c.ins) ((encOs true true (c.outs ++ bkSs c.ins) y []).1.drop c.outs.length) = mE at *
  have hpre : pu <+: mE := ⟨_, hmEg⟩
  have fin : ∀ (ι' : Nat → Value), Hand G.U B Dc own lc m.length ιc pu mE ι' m' w' → Grow G.U ι m w ι' m' w' → MR G.U B S ι' m' w' →
      ∃ u' ι', Go.Ending.returned u = .returned u' ∧ VR G.U B ι' m' w' (resV (r.1.take c.outs.length)) u' ∧ Grow G.U ι m w ι' m' w' ∧ MR G.U B S ι' m' w' ∧ Fr S w w' := by
    intro ι' H hg hM
    refine ⟨u, ι', rfl, ?_, hg, hM, hFr⟩
    refine resV_ok (U' := G.U) hvE (by rw [List.length_take, List.length_take, hwl, hrl]) fun j a b ha hb v hv => ?_
    have hj : j < c.outs.length := by
      have := (List.getElem?_eq_some_iff.1 ha).1
      rw [List.length_take] at this
      omega
    rw [List.getElem?_take_of_lt hj] at ha hb
    rw [hr] at hb
    refine encOs_hand H (c.outs ++ bkSs c.ins) y [] (kill m mv) (fun _ => by rw [kill_len]; rfl) (fun h => ?_) (by rw [hpu]; exact List.prefix_refl _) j a b ha hb v hv
    refine hown ?_
    have hb2 : ∀ ss : List AS, (bkSs ss).any isNp = false := by
      have h1 : ∀ ss : List S1, (bkS1 ss).any isNp = false := by
        intro ss
        induction ss with
        | nil => rfl
        | cons s ss ih => rw [bkS1, List.any_append, ih]; cases s <;> rfl
      have h2 : ∀ caps : List (Nat × List S1), (bkCaps caps).any isNp = false := by
        intro caps
        induction caps with
        | nil => rfl
        | cons p ps ih => rw [bkCaps, List.any_cons, ih]; rfl
      intro ss
      induction ss with
      | nil => rfl
      | cons s ss ih =>
        rw [bkSs, List.any_append, ih]
        cases s with
        | c s => cases s <;> rfl
        | agg ss => simp [AS.bkS, h1]
        | fnp f caps => simp [AS.bkS, h2]
        | _ => rfl
    rw [List.any_append, hb2, Bool.or_false] at h
    simp [Con.quiet, h]
  cases own with
  | false =>
    have hq : c.quiet = true := by
      cases h : c.quiet with
      | true => rfl
      | false => exact absurd (hown h) (by simp)
    simp only [Con.quiet, Bool.and_eq_true, List.isEmpty_iff, Bool.not_eq_true'] at hq
    have hmv0 : mv = [] := by rw [← hmv]; exact quiet_mv hx hq.1.1 hq.2
    have hids0 : ids = [] := by
      rw [hq.1.1] at hbl
      exact List.eq_nil_of_length_eq_zero hbl
    have hm'm : m' = m := by
      rw [hm', hids0, hr, hmv0]
      have : (encOs false lc (c.outs ++ bkSs c.ins) y (kill m [])).2 = m := by
        rw [encOs_false _ _ _ _ (by rw [hq.1.1, List.append_nil]; exact hq.1.2)]
        rfl
      rw [this]
      cases bkBlks (bkSs c.ins) ((encOs false lc (c.outs ++ bkSs c.ins) y (kill m [])).1.drop c.outs.length) <;> rfl
    have hblks : bkBlks (bkSs c.ins) ((encOs true true (c.outs ++ bkSs c.ins) y []).1.drop c.outs.length) = [] := by
      have e : ∀ (ss : List AS) (ws : List (W G.U.El)), ss = [] → bkBlks ss ws = [] := by
        rintro _ ws rfl
        cases ws <;> rfl
      exact e _ _ hq.1.1
    have hSc : ∀ k, Sc k → w.heap.size ≤ k := by
      rintro k (h | ⟨a, _, h1, _⟩)
      · exact h
      · rw [hmv0] at h1; cases h1
    have hqm := hm.quiet hfr.size (fun k hk => hfr.block k hk fun h => by have := hSc k h; omega)
    refine fin ι ?_ (hm'm ▸ hqm.1) (hm'm ▸ hqm.2)
    refine ⟨hpre, fun b hd _ => by rw [hm'm]; have := hd.1; rw [show m0 = m by show kill m mv = m; rw [hmv0]; rfl] at this; exact this, fun hl b hd => hd.2 hl, (fun h => by cases h), (fun h => by cases h), fun id t l hb => hmE.blk id _ hb, fun _ id b k hb hl hk => ?_⟩
    have := hSc k (hmE.inS id b k hb hl hk)
    exact ⟨by rw [hm'm]; exact new0 k this, hSB k (hS k this)⟩
  | true =>
    let ι' : Nat → Value := fun id => if id < m.length then ι id else ιc (id - m.length)
    have hι : ∀ id, ι' (m.length + id) = ιc id := fun id => by simp [ι']; omega
    have hι0 : ∀ id, id < m.length → ι' id = ι id := fun id h => by simp [ι', h]
    have hidn : (ids.filterMap id).Nodup := (List.Sublist.filterMap id hsub).nodup hnd
    have hr2 : r.2.length = m.length + pu.length := by rw [hr, encOs_len2, kill_len, hpulen]
    have hm'l : m'.length = m.length + pu.length := by rw [hm', putBk_len, hr2]
    have hpre2 : m0 <+: r.2 := by rw [hr]; exact encOs_pre ..
    have hbb : (bkBlks (bkSs c.ins) (r.1.drop c.outs.length)).length = ids.length := by
      rw [bkBlks_len _ _ (by rw [List.length_drop, hrl]; omega), hbl]
    have hcb : (bkBlks (bkSs c.ins) ((encOs true true (c.outs ++ bkSs c.ins) y []).1.drop c.outs.length)).length = ids.length := by
      rw [bkBlks_len _ _ (by rw [List.length_drop, hwl]; omega), hbl]
    have hmid : ∀ id, some id ∈ ids → some id ∈ mv := fun id h => hsub.subset h
    -- where a block of the caller lies at the call
    have cls : ∀ (id : Nat) (b : Blk G.U.El), m'[id]? = some b → b.live → (id < m.length ∧ some id ∉ ids ∧ m0[id]? = some b) ∨ (∃ i : Nat, id = m.length + i ∧ i < pu.length ∧ r.2[m.length + i]? = some b) ∨ (∃ j : Nat, ids[j]? = some (some id) ∧ (bkBlks (bkSs c.ins) (r.1.drop c.outs.length))[j]? = some b ∧ id < m.length) := by
      intro id b hb hl
      by_cases hi : some id ∈ ids
      · obtain ⟨j, hj, hje⟩ := List.getElem_of_mem hi
        have hje' : ids[j]? = some (some id) := by rw [List.getElem?_eq_getElem hj, hje]
        obtain ⟨q, hq1, _⟩ := hlive id (hmid id hi)
        have hlt := (List.getElem?_eq_some_iff.1 hq1).1
        have hbj : (bkBlks (bkSs c.ins) (r.1.drop c.outs.length))[j]? = some ((bkBlks (bkSs c.ins) (r.1.drop c.outs.length))[j]'(by omega)) := List.getElem?_eq_getElem (by omega)
        have := putBk_at ids _ r.2 j id _ hidn hje' hbj (by omega)
        rw [← hm', hb] at this
        cases this
        exact .inr (.inr ⟨j, hje', hbj, hlt⟩)
      · rw [hm', putBk_other ids _ _ _ hi] at hb
        by_cases hlt : id < m.length
        · refine .inl ⟨hlt, hi, ?_⟩
          obtain ⟨q, hq⟩ := hpre2
          rw [← hq, List.getElem?_append_left (by rw [show m0.length = m.length from kill_len ..]; exact hlt)] at hb
          exact hb
        · have := (List.getElem?_eq_some_iff.1 hb).1
          exact .inr (.inl ⟨id - m.length, by omega, by omega, by rw [show m.length + (id - m.length) = id by omega]; exact hb⟩)
    have puE : ∀ i : Nat, i < pu.length → ∃ b0 : Blk G.U.El, mE[i]? = some b0 ∧ pu[i]? = some b0 ∧ b0.live := by
      intro i hi
      refine ⟨pu[i], ?_, List.getElem?_eq_getElem hi, hpulive _ (List.getElem_mem hi)⟩
      rw [← hmEg, List.getElem?_append_left hi, List.getElem?_eq_getElem hi]
    have bkE : ∀ (j id : Nat) (b : Blk G.U.El), ids[j]? = some (some id) → (bkBlks (bkSs c.ins) (r.1.drop c.outs.length))[j]? = some b → b.live → ι id = ιc (pu.length + j) ∧ ∃ s a0 a, (bkSs c.ins)[j]? = some s ∧ (encOs true true (c.outs ++ bkSs c.ins) y []).1[c.outs.length + j]? = some a0 ∧ r.1[c.outs.length + j]? = some a ∧ b = bkBlk s a ∧ mE[pu.length + j]? = some (bkBlk s a0) := by
      intro j id b hj hb hl
      have hjlt : j < ids.length := (List.getElem?_eq_some_iff.1 hj).1
      have hval : (bkVs G.U c.ins cargs)[j]? = some (ι id) := by rw [← hbv]; simp [hj, idv]
      refine ⟨(hbk j _ hval).symm, ?_⟩
      have hs : (bkSs c.ins)[j]? = some ((bkSs c.ins)[j]'(by omega)) := List.getElem?_eq_getElem (by omega)
      have ha0 : (encOs true true (c.outs ++ bkSs c.ins) y []).1[c.outs.length + j]? = some ((encOs true true (c.outs ++ bkSs c.ins) y []).1[c.outs.length + j]'(by omega)) := List.getElem?_eq_getElem (by omega)
      have ha : r.1[c.outs.length + j]? = some (r.1[c.outs.length + j]'(by omega)) := List.getElem?_eq_getElem (by omega)
      refine ⟨_, _, _, hs, ha0, ha, ?_, ?_⟩
      · have := bkBlks_get (bkSs c.ins) (r.1.drop c.outs.length) j _ _ hs (by rw [List.getElem?_drop]; exact ha)
        rw [hb] at this
        exact Option.some.inj this
      · rw [← hmEg, List.getElem?_append_right (by omega), show pu.length + j - pu.length = j by omega]
        exact bkBlks_get (bkSs c.ins) _ j _ _ hs (by rw [List.getElem?_drop]; exact ha0)
    -- live blocks that come back were live at the call
    have hsh : ∀ (ss : List AS) (y : Os G.U.El ss) (mq mk : List (Blk G.U.El)) (lc : Bool) (j : Nat) (s : AS) (a0 a : W G.U.El), ss[j]? = some s → (encOs true true ss y mk).1[j]? = some a0 → (encOs true lc ss y mq).1[j]? = some a → (bkBlk s a).live → (bkBlk s a0).live := by
      have one : ∀ (s : AS) (x : s.T G.U.El) (mq mk : List (Blk G.U.El)) (lc : Bool), (bkBlk s (encO true lc s x mq).1).live → (bkBlk s (encO true true s x mk).1).live := by
        intro s x mq mk lc h
        cases s <;> first | exact trivial | exact h
      intro ss
      induction ss with
      | nil => intro y mq mk lc j s a0 a h; simp at h
      | cons s ss ih =>
        intro y mq mk lc j s' a0 a h1 h2 h3 h4
        cases ss with
        | nil =>
          cases j with
          | zero => simp [encOs] at h1 h2 h3; subst h1; subst h2; subst h3; exact one s y mq mk lc h4
          | succ j => simp at h1
        | cons s2 ss =>
          obtain ⟨x, y⟩ := y
          cases j with
          | zero => simp [encOs] at h1 h2 h3; subst h1; subst h2; subst h3; exact one s x mq mk lc h4
          | succ j => exact ih y _ _ lc j s' a0 a (by simpa using h1) (by simpa [encOs] using h2) (by simpa [encOs] using h3) h4
    have liveE : ∀ (j id : Nat) (b : Blk G.U.El), ids[j]? = some (some id) → (bkBlks (bkSs c.ins) (r.1.drop c.outs.length))[j]? = some b → b.live → ∃ b0, mE[pu.length + j]? = some b0 ∧ b0.live := by
      intro j id b hj hb hl
      obtain ⟨_, s, a0, a, h1, h2, h3, rfl, h5⟩ := bkE j id b hj hb hl
      refine ⟨_, h5, hsh (c.outs ++ bkSs c.ins) y (kill m mv) [] lc (c.outs.length + j) s a0 a ?_ h2 (by rw [← hr]; exact h3) hl⟩
      rw [List.getElem?_append_right (by omega), show c.outs.length + j - c.outs.length = j by omega]
      exact h1
    let X : Nat → Prop := fun k => ∃ a b, some a ∈ mv ∧ m[a]? = some b ∧ b.live ∧ ownOf (ι a) = some k
    let N : Nat → Prop := fun id => m.length ≤ id ∨ some id ∈ ids
    -- the place at the call of a block that is new
    have pl : ∀ (id : Nat) (b : Blk G.U.El), m'[id]? = some b → b.live → N id → ∃ (e : Nat) (b0 : Blk G.U.El), ι' id = ιc e ∧ mE[e]? = some b0 ∧ b0.live ∧ ((e < pu.length ∧ id = m.length + e) ∨ (∃ j : Nat, e = pu.length + j ∧ ids[j]? = some (some id))) := by
      intro id b hb hl hn
      rcases cls id b hb hl with ⟨h1, h2, _⟩ | ⟨i, rfl, hi, _⟩ | ⟨j, hj, hbj, hlt⟩
      · rcases hn with hn | hn
        · omega
        · exact absurd hn h2
      · obtain ⟨b0, h1, _, h3⟩ := puE i hi
        exact ⟨i, b0, hι i, h1, h3, .inl ⟨hi, rfl⟩⟩
      · obtain ⟨b0, h1, h2⟩ := liveE j id b hj hbj hl
        exact ⟨pu.length + j, b0, (hι0 id hlt).trans (bkE j id b hj hbj hl).1, h1, h2, .inr ⟨j, rfl, hj⟩⟩
    have H0 : ∀ b, Dc b → Far G.U ιc mE b → Far G.U ι' m' b := by
      intro b hd hf id q hq hl hk
      by_cases hn : N id
      · obtain ⟨e, b0, h1, h2, h3, _⟩ := pl id q hq hl hn
        rw [h1] at hk
        exact hf e b0 h2 h3 hk
      · rcases cls id q hq hl with ⟨h1, h2, h3⟩ | ⟨i, rfl, hi, _⟩ | ⟨j, hj, _, _⟩
        · rw [hι0 id h1] at hk
          exact hd.1 id q h3 hl hk
        · exact hn (.inl (by omega))
        · exact hn (.inr (List.mem_of_getElem? hj))
    have H : Hand G.U B Dc true lc m.length ιc pu mE ι' m' w' :=
      ⟨hpre, H0, fun hl b hd => hd.2 hl, fun _ id _ => hι id, fun _ id hi => by rw [hm'l]; omega, fun id t l hb => hmE.blk id _ hb, fun h => by cases h⟩
    have hup := hm.upd (m' := m') (ι' := ι') (w' := w') X (by rw [hm'l]; omega) hι0 hfr.size
      (fun k hk hx => hfr.block k hk fun hh => hh.elim (fun h => by omega) hx)
      (fun k ⟨a, b, h1, h2, h3, h4⟩ => ⟨a, b, h2, h3, h4⟩) N
      (fun id b hb hl hn => by
        rcases cls id b hb hl with ⟨h1, h2, h3⟩ | ⟨i, rfl, hi, _⟩ | ⟨j, hj, _, _⟩
        · obtain ⟨h4, h5⟩ := m0_get id b h3 hl
          refine ⟨h1, h5, fun k hk ⟨a, b', e1, e2, e3, e4⟩ => ?_⟩
          have := hm.inj id a b b' k h5 e2 hl e3 hk e4
          subst this
          exact h4 e1
        · exact absurd (Or.inl (by omega)) hn
        · exact absurd (Or.inr (List.mem_of_getElem? hj)) hn)
      (fun id b k hb hl hn hk => by
        obtain ⟨e, b0, h1, h2, h3, _⟩ := pl id b hb hl hn
        rw [h1] at hk
        rcases hmE.inS e b0 k h2 h3 hk with h | h
        · exact ⟨.inr h, hS k h⟩
        · obtain ⟨a, q, e1, e2, e3, e4⟩ := h
          exact ⟨.inl ⟨a, q, e1, e2, e3, e4⟩, hm.inS a q k e2 e3 e4⟩)
      (fun i j b b' k hi hj hl hl' hni hnj hk hk' => by
        obtain ⟨e, b0, h1, h2, h3, h4⟩ := pl i b hi hl hni
        obtain ⟨e', b0', h1', h2', h3', h4'⟩ := pl j b' hj hl' hnj
        rw [h1] at hk
        rw [h1'] at hk'
        have := hmE.inj e e' b0 b0' k h2 h2' h3 h3' hk hk'
        subst this
        rcases h4 with ⟨h5, h6⟩ | ⟨q, h5, h6⟩ <;> rcases h4' with ⟨h5', h6'⟩ | ⟨q', h5', h6'⟩
        · omega
        · omega
        · omega
        · have : q = q' := by omega
          subst this
          rw [h6] at h6'
          exact Option.some.inj (Option.some.inj h6'))
      (fun hg id b hb hl hn => by
        rcases cls id b hb hl with ⟨h1, h2, _⟩ | ⟨i, rfl, hi, hri⟩ | ⟨j, hj, hbj, hlt⟩
        · rcases hn with hn | hn
          · omega
          · exact absurd hn h2
        · have hbt := encOs_btr H (c.outs ++ bkSs c.ins) y [] (kill m mv) (by rw [kill_len]; rfl) (by rw [hpu]; exact List.prefix_refl _)
          obtain ⟨b0, h1, h2⟩ := hbt i b (by rw [kill_len, ← hr]; exact hri)
          rw [kill_len] at h2
          simp only [List.length_nil, Nat.zero_add] at h1 h2
          refine h2 (hmE.blk i b0 ?_)
          rw [hpu] at h1
          rw [← hmEg, List.getElem?_append_left hi]
          exact h1
        · obtain ⟨h0, s, a0, a, h1, h2, h3, rfl, h5⟩ := bkE j id b hj hbj hl
          have hB := hmE.blk _ _ h5
          have hid : ι' id = ιc (pu.length + j) := (hι0 id hlt).trans h0
          have htr := encOs_hand H (c.outs ++ bkSs c.ins) y [] (kill m mv) (fun _ => by rw [kill_len]; rfl) (fun _ => rfl) (by rw [hpu]; exact List.prefix_refl _) (c.outs.length + j) a0 a h2 (by rw [← hr]; exact h3)
          have hss : (c.outs ++ bkSs c.ins)[c.outs.length + j]? = some s := by rw [List.getElem?_append_right (by omega), show c.outs.length + j - c.outs.length = j by omega]; exact h1
          -- by its kind
          have kinds : ∀ (ss : List AS) (y : Os G.U.El ss) (mq mk : List (Blk G.U.El)) (lc : Bool) (j : Nat) (s : AS) (a0 a : W G.U.El), ss[j]? = some s → (encOs true true ss y mk).1[j]? = some a0 → (encOs true lc ss y mq).1[j]? = some a →
              (∃ t ss', s = .io t ss' ∧ ∃ c0 c1, a0 = .agg c0 ∧ a = .agg c1) ∨ (∃ t l, s = .bk t ∧ a0 = .agg [.arr t (List.length l) l] ∧ a = .agg [.arr t (List.length l) l]) ∨ ¬ (bkBlk s a).live := by
            have one : ∀ (s : AS) (x : s.T G.U.El) (mq mk : List (Blk G.U.El)) (lc : Bool), (∃ t ss', s = .io t ss' ∧ ∃ c0 c1, (encO true true s x mk).1 = .agg c0 ∧ (encO true lc s x mq).1 = .agg c1) ∨ (∃ t l, s = .bk t ∧ (encO true true s x mk).1 = .agg [.arr t (List.length l) l] ∧ (encO true lc s x mq).1 = .agg [.arr t (List.length l) l]) ∨ ¬ (bkBlk s (encO true lc s x mq).1).live := by
              intro s x mq mk lc
              cases s with
              | io t ss => exact .inl ⟨t, ss, rfl, _, _, rfl, rfl⟩
              | bk t => exact .inr (.inl ⟨t, x, rfl, rfl, rfl⟩)
              | _ => exact .inr (.inr (fun h => h))
            intro ss
            induction ss with
            | nil => intro y mq mk lc j s a0 a h; simp at h
            | cons s ss ih =>
              intro y mq mk lc j s' a0 a h1 h2 h3
              cases ss with
              | nil =>
                cases j with
                | zero => simp [encOs] at h1 h2 h3; subst h1; subst h2; subst h3; exact one s y mq mk lc
                | succ j => simp at h1
              | cons s2 ss =>
                obtain ⟨x, y⟩ := y
                cases j with
                | zero => simp [encOs] at h1 h2 h3; subst h1; subst h2; subst h3; exact one s x mq mk lc
                | succ j => exact ih y _ _ lc j s' a0 a (by simpa using h1) (by simpa [encOs] using h2) (by simpa [encOs] using h3)
          rcases kinds _ y (kill m mv) [] lc (c.outs.length + j) s a0 a hss h2 (by rw [← hr]; exact h3) with ⟨t, ss', rfl, c0, c1, rfl, rfl⟩ | ⟨t, l, rfl, rfl, rfl⟩ | hdead
          · obtain ⟨β, vs, e1, e2, e3⟩ := hB
            obtain ⟨vs', e4, e5⟩ := htr (.agg vs) ⟨vs.toList, by simp, e3⟩
            have : vs'.toArray = vs := by cases e4; rfl
            refine ⟨β, vs, hid.trans e1, e2, ?_⟩
            rw [← this]
            simpa using e5
          · simp only [bkBlk, BR] at hB ⊢
            rw [hid]
            exact hB
          · exact absurd hl hdead)
    exact fin ι' H hup.1 hup.2
end
end Go.Proofs.Ytnjmkkgmlkhjeaa.AM
