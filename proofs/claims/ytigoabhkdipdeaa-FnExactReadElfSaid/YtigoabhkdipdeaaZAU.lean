/- A part of the plain reading of Go's code: what a function's code comes to, by a plain function. No condition. -/
import Derived.Test.YtigoabhkdipdeaaZAT
import Derived.ChangeKeysEq
namespace Go.Proofs.Ytigoabhkdipdeaa.AM
open Go.RowKit
variable {ρ : Type}

section
variable {P : Program} {G : Cfg} {B : Nat → Prop} {S : Nat → Prop} {ι : Nat → Value} {m : List (Blk G.U.El)} {w : World} {r : ρ} {K : W G.U.El → Option ρ} {K2 : W G.U.El → List (Blk G.U.El) → Option ρ}

def eqVs : List Nat → List Value → List Value → Option Bool
  | [], [], [] => some true
  | k :: ks, a :: as, b :: bs => match eqSc k a b, eqVs ks as bs with
    | some x, some y => some (x && y)
    | _, _ => none
  | _, _, _ => none

theorem eqVs_len : ∀ {ks : List Nat} {vs us : List Value} {b : Bool}, eqVs ks vs us = some b → vs.length = ks.length ∧ us.length = ks.length
  | [], [], [], _, _ => ⟨rfl, rfl⟩
  | k :: ks, v :: vs, u :: us, b, h => by
    simp only [eqVs] at h
    split at h
    · rename_i x y hx hy
      have := eqVs_len hy
      simp [this.1, this.2]
    · cases h
  | [], _ :: _, _, _, h => by simp [eqVs] at h
  | [], [], _ :: _, _, h => by simp [eqVs] at h
  | _ :: _, [], _, _, h => by simp [eqVs] at h
  | _ :: _, _ :: _, [], _, h => by simp [eqVs] at h

theorem eqVs_app : ∀ {k1 k2 : List Nat} {v1 v2 u1 u2 : List Value} {b1 b2 : Bool}, eqVs k1 v1 u1 = some b1 → eqVs k2 v2 u2 = some b2 → eqVs (k1 ++ k2) (v1 ++ v2) (u1 ++ u2) = some (b1 && b2)
  | [], k2, [], v2, [], u2, b1, b2, h1, h2 => by
    simp only [eqVs, Option.some.injEq] at h1
    subst h1
    simpa using h2
  | k :: k1, k2, v :: v1, v2, u :: u1, u2, b1, b2, h1, h2 => by
    simp only [eqVs] at h1
    split at h1
    · rename_i x y hx hy
      cases h1
      simp only [List.cons_append, eqVs, hx, eqVs_app hy h2, Bool.and_assoc]
    · cases h1
  | [], _, _ :: _, _, _, _, _, _, h, _ => by simp [eqVs] at h
  | [], _, [], _, _ :: _, _, _, _, h, _ => by simp [eqVs] at h
  | _ :: _, _, [], _, _, _, _, _, h, _ => by simp [eqVs] at h
  | _ :: _, _, _ :: _, _, [], _, _, _, h, _ => by simp [eqVs] at h

theorem eqVs_arr {U : Univ} (hU : UOk U) {e : Nat} {k : IntKind} (hk : (U.ent e).k = some k) : ∀ {a b : List (U.El e)}, a.length = b.length → eqVs (List.replicate a.length 0) (flat U e a) (flat U e b) = some (arrEq U e a b)
  | [], [], _ => rfl
  | y :: a, z :: b, h => by
    obtain ⟨n, hn⟩ := hU.int e k hk y
    obtain ⟨n', hn'⟩ := hU.int e k hk z
    have e1 : flat U e (y :: a) = [.int k n] ++ flat U e a := by simp [flat, hn]
    have e2 : flat U e (z :: b) = [.int k n'] ++ flat U e b := by simp [flat, hn']
    have ih := eqVs_arr hU hk (a := a) (b := b) (by simpa using h)
    rw [e1, e2, show List.replicate (y :: a).length 0 = [0] ++ List.replicate a.length 0 by simp [List.replicate_succ]]
    rw [eqVs_app (b1 := n == n') (by simp [eqVs, eqSc]) ih]
    simp [arrEq, hn, hn', intOf]
  | [], _ :: _, h => by simp at h
  | _ :: _, [], h => by simp at h

theorem eqCs_vs (hU : UOk G.U) : ∀ {as bs : List (C G.U.El)} {ks : List Nat} {vs us : List Value} {b : Bool}, eqCs G.U ks as bs = some b → CsR G.U B ι m w as vs → CsR G.U B ι m w bs us → eqVs ks vs us = some b := by
  intro as
  induction as with
  | nil =>
    intro bs ks vs us b h h1 h2
    cases ks <;> cases bs <;> simp only [eqCs] at h <;> first | cases h | skip
    cases h1
    cases h2
    rfl
  | cons a as ih =>
    intro bs ks vs us b h h1 h2
    cases bs with
    | nil => cases ks <;> cases a <;> simp [eqCs] at h
    | cons b' bs =>
      cases a with
      | sc a =>
        cases ks with
        | nil => cases b' <;> simp [eqCs] at h
        | cons k ks =>
          cases b' <;> simp only [eqCs] at h <;> first | cases h | skip
          obtain ⟨_, r1, e1, ⟨v, e2, e3, _⟩, h1⟩ := h1
          obtain ⟨_, r2, e4, ⟨u, e5, e6, _⟩, h2⟩ := h2
          split at h
          · rename_i x y hx hy
            cases h
            rw [e1, e2, e3, e4, e5, e6]
            simp only [List.singleton_append, eqVs, hx, ih hy h1 h2]
          · cases h
      | arr e n a =>
        cases b' with
        | arr e' n' b' =>
          have h' : (if h : e' = e then if n' = n ∧ (G.U.ent e).k.isSome = true ∧ ks.take n = List.replicate n 0 then match eqCs G.U (ks.drop n) as bs with
            | some y => some (arrEq G.U e a (h ▸ b') && y)
            | none => none
            else none else none) = some b := by
            cases ks <;> exact h
          split at h'
          · rename_i he
            subst he
            split at h'
            · rename_i hc
              obtain ⟨rfl, hk, ht⟩ := hc
              obtain ⟨k, hk⟩ := Option.isSome_iff_exists.1 hk
              split at h'
              · rename_i y hy
                cases h'
                obtain ⟨v1, r1, e1, ⟨l1, e2⟩, h1⟩ := h1
                obtain ⟨v2, r2, e3, ⟨l2, e4⟩, h2⟩ := h2
                have hi := ih hy h1 h2
                have ha := eqVs_arr hU hk (l1.trans l2.symm)
                rw [e1, e2, e3, e4, ← List.take_append_drop n' ks, ht, ← l1]
                rw [l1] at ha ⊢
                exact eqVs_app ha hi
              · cases h'
            · cases h'
          · cases h'
        | _ => cases ks <;> simp [eqCs] at h
      | _ => cases ks <;> cases b' <;> simp [eqCs] at h

theorem eqVs_split : ∀ (k1 : List Nat) {k2 : List Nat} {vs us : List Value} {b : Bool}, eqVs (k1 ++ k2) vs us = some b →
    ∃ b1 b2, eqVs k1 (vs.take k1.length) (us.take k1.length) = some b1 ∧ eqVs k2 (vs.drop k1.length) (us.drop k1.length) = some b2 ∧ b = (b1 && b2)
  | [], k2, vs, us, b, h => ⟨true, b, by simp [eqVs], by simpa using h, by simp⟩
  | k :: k1, k2, v :: vs, u :: us, b, h => by
    simp only [List.cons_append, eqVs] at h
    split at h
    · rename_i x y hx hy
      cases h
      obtain ⟨b1, b2, h1, h2, rfl⟩ := eqVs_split k1 hy
      exact ⟨x && b1, b2, by simp [eqVs, hx, h1], by simpa using h2, by simp [Bool.and_assoc]⟩
    · cases h
  | k :: k1, _, [], _, _, h => by simp [eqVs] at h
  | k :: k1, _, _ :: _, [], _, h => by simp [eqVs] at h

/-- A value of a type out of its cells' values. -/
def mkV (x : TI) (vs : List Value) : Value := if isAggT x then .agg vs.toArray else vs.headD undef

theorem part_val {t : Nat} {x : TI} (hx : TIok P G.U G.ti t x) (all : List Value) (o : Nat) (hl : o + x.size ≤ all.length) (h1 : isAggT x = false → x.size = 1) : (part t all.toArray o).run P w = .ok (mkV x ((all.drop o).take x.size)) w := by
  unfold mkV
  simp only [part, Sem.run_bind, isAgg_run hx, Result.andThen_ok]
  split
  · rename_i ha
    simp only [Sem.run_bind, sizeOf_run hx, Result.andThen_ok]
    have : all.toArray.extract o (o + x.size) = ((all.drop o).take x.size).toArray := by simp [List.extract_toArray, List.extract_eq_take_drop]
    rw [this]
    rfl
  · rename_i ha
    have hs := h1 (by simpa using ha)
    have hlt : o < all.length := by omega
    have : ((all.drop o).take x.size) = [all[o]] := by
      rw [hs, List.drop_eq_getElem_cons hlt]
      rfl
    simp [this, hlt]

theorem eqFs_len {p : Nat → Option (List Nat)} : ∀ {fs : List (Nat × Nat)} {off size : Nat} {ks : List Nat}, eqFs p fs off size = some ks → off + ks.length = size
  | [], off, size, ks, h => by
    simp only [eqFs] at h
    split at h
    · cases h; simpa
    · cases h
  | (o, ft) :: fs, off, size, ks, h => by
    simp only [eqFs] at h
    split at h
    · obtain ⟨k1, h1, h2⟩ := Option.bind_eq_some_iff.1 h
      obtain ⟨k2, h3, rfl⟩ := Option.map_eq_some_iff.1 h2
      have := eqFs_len h3
      simp
      omega
    · cases h

theorem eqTy_len {ti : Nat → Option TI} : ∀ {d t : Nat} {ks : List Nat}, eqTy ti d t = some ks → ∃ x, ti t = some x ∧ ks.length = x.size ∧ (isAggT x = false → x.size = 1)
  | 0, _, _, h => by simp [eqTy] at h
  | d + 1, t, ks, h => by
    simp only [eqTy] at h
    split at h
    · rename_i x hx
      refine ⟨x, hx, ?_⟩
      split at h
      · split at h
        · rename_i hs; cases h; exact ⟨hs.symm, fun _ => hs⟩
        · cases h
      · split at h
        · rename_i hs; cases h; exact ⟨hs.symm, fun _ => hs⟩
        · cases h
      · split at h
        · rename_i hs; cases h; exact ⟨hs.symm, fun _ => hs⟩
        · cases h
      · rename_i fs hfs
        have := eqFs_len h
        exact ⟨by omega, fun h => by simp [isAggT, hfs] at h⟩
      · rename_i n e hfs
        split at h
        · split at h
          · rename_i hs
            cases h
            exact ⟨by simp [hs], fun h => by simp [isAggT, hfs] at h⟩
          · cases h
        · cases h
      · cases h
    · cases h

theorem eqVal_ok (hF : Fits P G.U G.ti) : ∀ (d : Nat) {t D : Nat} {x : TI} {ks : List Nat} {vs us : List Value} {b : Bool}, eqTy G.ti d t = some ks → d ≤ D → G.ti t = some x → eqVs ks vs us = some b →
    (Op.equalIn D t (mkV x vs) (mkV x us)).run P w = .ok b w
  | 0, _, _, _, _, _, _, _, h, _, _, _ => by simp [eqTy] at h
  | d + 1, t, 0, _, _, _, _, _, _, h, _, _ => by omega
  | d + 1, t, D + 1, x, ks, vs, us, b, h, hD, hx, he => by
    simp only [eqTy, hx] at h
    have hti := hF.ti t x hx
    have hty := hti.ty
    have single : ∀ k, ks = [k] → ∃ v u, vs = [v] ∧ us = [u] ∧ eqSc k v u = some b := by
      rintro k rfl
      obtain ⟨hl1, hl2⟩ := eqVs_len he
      match vs, us, hl1, hl2, he with
      | [v], [u], _, _, he =>
        simp only [eqVs] at he
        split at he
        · rename_i x y hx hy
          cases hy
          cases he
          exact ⟨v, u, rfl, rfl, by simpa using hx⟩
        · cases he
    split at h
    · rename_i k hk
      rw [hk] at hty
      split at h
      · cases h
        obtain ⟨v, u, rfl, rfl, h1⟩ := single 0 rfl
        have ha : isAggT x = false := by simp [isAggT, hk]
        simp only [mkV, ha, Bool.false_eq_true, if_false, List.headD_cons]
        cases v <;> cases u <;> simp only [eqSc] at h1 <;> first | cases h1 | skip
        split at h1
        · rename_i hkk
          subst hkk
          cases h1
          exact run_equalIn_int w D t _ k _ _ hty
        · cases h1
      · cases h
    · rename_i hk
      rw [hk] at hty
      split at h
      · cases h
        obtain ⟨v, u, rfl, rfl, h1⟩ := single 1 rfl
        have ha : isAggT x = false := by simp [isAggT, hk]
        simp only [mkV, ha, Bool.false_eq_true, if_false, List.headD_cons]
        cases v <;> cases u <;> simp only [eqSc] at h1 <;> first | cases h1 | skip
        exact run_equalIn_bool' w D t _ _ hty
      · cases h
    · rename_i hk
      rw [hk] at hty
      split at h
      · cases h
        obtain ⟨v, u, rfl, rfl, h1⟩ := single 2 rfl
        have ha : isAggT x = false := by simp [isAggT, hk]
        simp only [mkV, ha, Bool.false_eq_true, if_false, List.headD_cons]
        cases v <;> cases u <;> simp only [eqSc] at h1 <;> first | cases h1 | skip
        exact run_equalIn_string w D t _ _ hty
      · cases h
    · rename_i fs hfs
      rw [hfs] at hty
      obtain ⟨F, h1, h2, _, h3, _, h4⟩ := hty
      have ha : isAggT x = true := by simp [isAggT, hfs]
      simp only [mkV, ha, if_true]
      have hFo : P.fieldsOf t = F := by simp [Program.fieldsOf, h1]
      rw [run_equalIn_struct w D t _ _ (by rw [hFo]; exact h1) h3, hFo]
      have hlen := eqFs_len h
      obtain ⟨hl1, hl2⟩ := eqVs_len he
      have key : ∀ (fl : List Field) (off : Nat) (ks : List Nat) (b : Bool), (∀ f ∈ fl, f.name ≠ "_") → eqFs (eqTy G.ti d) (fl.map fun f => (f.offset, f.type)) off x.size = some ks → 
          eqVs ks (vs.drop off) (us.drop off) = some b → (Op.eqFields D vs.toArray us.toArray fl).run P w = .ok b w := by
        intro fl
        induction fl with
        | nil =>
          intro off ks b _ hh hb
          simp only [List.map_nil, eqFs] at hh
          split at hh
          · cases hh
            rw [List.drop_of_length_le (by omega), List.drop_of_length_le (by omega)] at hb
            cases hb
            rfl
          · cases hh
        | cons f fl ih =>
          intro off ks b hn hh hb
          have hk := eqFs_len hh
          simp only [List.map_cons, eqFs] at hh
          split at hh
          · rename_i hoff
            obtain ⟨k1, h5, h6⟩ := Option.bind_eq_some_iff.1 hh
            obtain ⟨k2, h7, rfl⟩ := Option.map_eq_some_iff.1 h6
            obtain ⟨b1, b2, h8, h9, rfl⟩ := eqVs_split k1 hb
            obtain ⟨y, hy, hks, h1s⟩ := eqTy_len h5
            rw [List.length_append] at hk
            rw [hks] at h8 h9
            have h10 := eqVal_ok hF d h5 (by omega : d ≤ D) hy h8
            have hpv := part_val (P := P) (w := w) (hF.ti _ y hy) vs off (by omega) h1s
            have hpu := part_val (P := P) (w := w) (hF.ti _ y hy) us off (by omega) h1s
            rw [List.drop_drop, List.drop_drop] at h9
            rw [hks] at h7
            have h11 := ih (off + y.size) k2 b2 (fun g hg => hn g (by simp [hg])) h7 h9
            simp only [Op.eqFields, hoff]
            rw [if_pos (hn f (by simp))]
            simp only [Sem.run_bind, hpv, hpu, h10, Result.andThen_ok]
            cases b1
            · simp
            · simpa using h11
          · cases hh
      exact key F.toList 0 ks b h4 (by rw [h2]; exact h) (by simpa using he)
    · rename_i n e hfs
      rw [hfs] at hty
      obtain ⟨h1, y, hy, _⟩ := hty
      split at h
      · rename_i he0
        split at h
        · rename_i hsz
          cases h
          have ha : isAggT x = true := by simp [isAggT, hfs]
          simp only [mkV, ha, if_true]
          obtain ⟨y', hy', hks, hs1⟩ := eqTy_len he0
          rw [hy] at hy'
          cases hy'
          obtain ⟨i, z, hi, hisz, _⟩ := (hF.ti e y hy).info
          have hc1 : P.cellsOf e = 1 := by simp [Program.cellsOf, hi, hisz, ← hks]
          rw [run_equalIn_array (w := w) D vs.toArray us.toArray h1 hi, hc1, List.range_eq_range']
          obtain ⟨hl1, hl2⟩ := eqVs_len he
          simp only [List.length_replicate] at hl1 hl2
          have key : ∀ (k j : Nat) (b : Bool), j + k = n → eqVs (List.replicate k 0) (vs.drop j) (us.drop j) = some b → (Op.eqItems D e 1 vs.toArray us.toArray (List.range' j k)).run P w = .ok b w := by
            intro k
            induction k with
            | zero =>
              intro j b hj hb
              rw [List.drop_of_length_le (by omega), List.drop_of_length_le (by omega)] at hb
              cases hb
              simp [Op.eqItems]
            | succ k ih =>
              intro j b hj hb
              rw [List.replicate_succ] at hb
              obtain ⟨b1, b2, h8, h9, rfl⟩ := eqVs_split [0] (k2 := List.replicate k 0) hb
              simp only [List.length_singleton, List.drop_drop] at h8 h9
              have h10 := eqVal_ok hF d he0 (by omega : d ≤ D) hy h8
              have hys : y.size = 1 := by simpa using hks.symm
              have hpv := part_val (P := P) (w := w) (hF.ti _ y hy) vs (j * 1) (by omega) hs1
              have hpu := part_val (P := P) (w := w) (hF.ti _ y hy) us (j * 1) (by omega) hs1
              rw [hys, Nat.mul_one] at hpv hpu
              have h11 := ih (j + 1) b2 (by omega) h9
              rw [List.range'_succ]
              simp only [Op.eqItems, Nat.mul_one, Sem.run_bind, hpv, hpu, h10, Result.andThen_ok]
              cases b1
              · simp
              · simpa using h11
          exact key n 0 b (by omega) (by simpa using he)
        · cases h
      · cases h
    · cases h

theorem aBin_ok (hF : Fits P G.U G.ti) {op : BinOp} {t : Nat} {x y : V G.U.El} {ux uy : Value} {ox oy : Operand} (hx : VR G.U B ι m w x ux) (hy : VR G.U B ι m w y uy) (h : aBin G.U G.ti op t x y K = some r) :
    RunsP P G B ι m w (do eqGuard op t ox oy ux uy; binOp op t ux uy) K r := by
  unfold aBin at h
  have un : ∀ {s : Sem Value}, (∃ u, ux = u ∧ eqGuard op t ox oy u uy = pure ()) → RunsP P G B ι m w s K r → s = binOp op t ux uy → RunsP P G B ι m w (do eqGuard op t ox oy ux uy; binOp op t ux uy) K r := by
    rintro s ⟨u, rfl, hg⟩ ⟨z, v, h1, h2, h3⟩ rfl
    exact ⟨z, v, by rw [hg]; simpa using h1, h2, h3⟩
  split at h
  · cases vr_sc hx
    cases vr_sc hy
    refine un ⟨_, rfl, eqGuard_at_int ..⟩ ?_ rfl
    split at h
    · exact aInt_ok t (.inl rfl) h
    · exact aInt_ok t (.inr (.inl rfl)) h
    · split at h
      · rename_i hk
        exact aInt_ok t (.inr (.inr hk)) h
      · cases h
  · cases vr_sc hx
    cases vr_sc hy
    exact un ⟨_, rfl, eqGuard_at_string ..⟩ (aStr_ok t h) rfl
  · cases vr_sc hx
    cases vr_sc hy
    split at h
    · rename_i ht
      have hu := tyOf_ok hF ht
      simp only [TyOk] at hu
      refine un ⟨_, rfl, eqGuard_at_bool ..⟩ ⟨_, _, ?_, h, wr_sc rfl⟩ rfl
      have := fun a b => run_equalIn_bool' (P := P) w 9999 t a b hu
      simp only [binOp, Op.equal, Op.maxDepth, Sem.run_bind, this, Result.andThen_ok, Sem.run_pure]
    · rename_i ht
      have hu := tyOf_ok hF ht
      simp only [TyOk] at hu
      refine un ⟨_, rfl, eqGuard_at_bool ..⟩ ⟨_, _, ?_, h, wr_sc rfl⟩ rfl
      have := fun a b => run_equalIn_bool' (P := P) w 9999 t a b hu
      simp only [binOp, Op.equal, Op.maxDepth, Sem.run_bind, this, Result.andThen_ok, Sem.run_pure]
    · cases h
  · rename_i as bs
    obtain ⟨vs, rfl, h1⟩ := hx
    obtain ⟨us, rfl, h2⟩ := hy
    have eq : ∀ b fs, (G.ti t).map TI.ty = some (.st fs) → ((eqTy G.ti 10 t).bind fun ks => eqCs G.U ks as bs) = some b → (Op.equal t (.agg vs.toArray) (.agg us.toArray)).run P w = .ok b w ∧ (eqGuard op t ox oy (.agg vs.toArray) (.agg us.toArray)).run P w = .ok () w := by
      intro b fs hst hb
      obtain ⟨ks, h3, h4⟩ := Option.bind_eq_some_iff.1 hb
      obtain ⟨x, hx, hks, h1s⟩ := eqTy_len h3
      have h5 := eqCs_vs hF.U h4 h1 h2
      have h6 := eqVal_ok (w := w) hF 10 h3 (by omega : 10 ≤ 10000) hx h5
      have hfs : x.ty = .st fs := by rw [hx] at hst; simpa using hst
      have ha : isAggT x = true := by simp [isAggT, hfs]
      have hty := (hF.ti t x hx).ty
      rw [hfs] at hty
      obtain ⟨F, _, _, _, _, h7, _⟩ := hty
      simp only [mkV, ha, if_true] at h6
      exact ⟨h6, run_eqGuard_agg w op t ox oy _ _ h7⟩
    split at h
    · rename_i fs b hst hb
      obtain ⟨h3, h4⟩ := eq b fs hst hb
      refine ⟨_, _, ?_, h, wr_sc rfl⟩
      simp only [Sem.run_bind, h4, Result.andThen_ok, binOp, h3, Sem.run_pure]
    · rename_i fs b hst hb
      obtain ⟨h3, h4⟩ := eq b fs hst hb
      refine ⟨_, _, ?_, h, wr_sc rfl⟩
      simp only [Sem.run_bind, h4, Result.andThen_ok, binOp, h3, Sem.run_pure]
    · cases h
  · cases h
end
end Go.Proofs.Ytigoabhkdipdeaa.AM
