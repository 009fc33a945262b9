/- A part of the plain reading of Go's code: what a function's code comes to, by a plain function. No condition. -/
import Derived.Test.YtigoabhkdipdeaaZAP
namespace Go.Proofs.Ytigoabhkdipdeaa.AM
open Go.RowKit
variable {ρ : Type}

section
variable {P : Program} {G : Cfg} {B : Nat → Prop} {S : Nat → Prop} {ι : Nat → Value} {m : List (Blk G.U.El)} {w : World} {r : ρ} {K : W G.U.El → Option ρ} {K2 : W G.U.El → List (Blk G.U.El) → Option ρ}

theorem flat_drop (hU : UOk G.U) (t : Nat) : ∀ (l : List (G.U.El t)) (n : Nat), flat G.U t (l.drop n) = (flat G.U t l).drop (n * G.U.sz t)
  | [], n => by simp [flat]
  | y :: l, 0 => by simp
  | y :: l, n + 1 => by
    have e : flat G.U t (y :: l) = G.U.cells t y ++ flat G.U t l := by simp [flat]
    rw [List.drop_succ_cons, flat_drop hU t l n, e, show (n + 1) * G.U.sz t = (G.U.cells t y).length + n * G.U.sz t by rw [hU.len, Nat.add_mul]; omega, List.drop_length_add_append]

theorem flat_take (hU : UOk G.U) (t : Nat) : ∀ (l : List (G.U.El t)) (n : Nat), flat G.U t (l.take n) = (flat G.U t l).take (n * G.U.sz t)
  | [], n => by simp [flat]
  | y :: l, 0 => by simp [flat]
  | y :: l, n + 1 => by
    have e : ∀ l : List (G.U.El t), flat G.U t (y :: l) = G.U.cells t y ++ flat G.U t l := fun l => by simp [flat]
    rw [List.take_succ_cons, e, flat_take hU t l n, e, show (n + 1) * G.U.sz t = (G.U.cells t y).length + n * G.U.sz t by rw [hU.len, Nat.add_mul]; omega, List.take_length_add_append]

/-- Cells that can be read at a place. -/
def Rd (w : World) (A : Option Addr) (cells : List Value) : Prop := ∀ j v, cells[j]? = some v → ∃ b o, A = some ⟨b, o, none⟩ ∧ w.cell? ⟨b, o + j, none⟩ = some v

theorem rowOf_ok (hF : Fits P G.U G.ti) (hm : MR G.U B S ι m w) {t : Nat} {c : C G.U.El} {l : List (G.U.El t)} {u : Value} (hc : CR G.U B ι m w c u) (h : rowOf m t c = some l) :
    ∃ A cap, u = .slice A l.length cap ∧ Rd w A (flat G.U t l) ∧ l.length ≤ cap := by
  cases c with
  | row t' l' tight loc =>
    simp only [rowOf] at h
    split at h
    · rename_i e
      subst e
      cases h
      obtain ⟨A, cap, rfl, hle, h3, _⟩ := hc
      exact ⟨A, cap, rfl, fun j v hv => let ⟨b, o, e1, e2, _⟩ := h3 j v hv; ⟨b, o, e1, e2⟩, hle⟩
    · cases h
  | sl id =>
    obtain ⟨hid, rfl, _⟩ := hc
    simp only [rowOf] at h
    split at h
    · rename_i t' l' hm'
      split at h
      · rename_i e
        subst e
        cases h
        have hb := hm.blk _ _ hm'
        simp only [BR] at hb
        rcases hb.2 with ⟨e1, e2⟩ | ⟨g, cap, cur, e1, _, _, hnc, _⟩
        · have : l' = [] := List.eq_nil_of_length_eq_zero e2
          subst this
          exact ⟨none, 0, e1, fun j v hv => by simp [flat] at hv, Nat.le_refl _⟩
        · rw [e1] at hb ⊢
          refine ⟨_, _, rfl, fun j v hv => ⟨g, 0, rfl, ?_⟩, hnc⟩
          have hlt := (List.getElem?_eq_some_iff.1 hv).1
          rw [flat_len hF.U] at hlt
          rw [Nat.zero_add, World.ownsRow.cellAt hb j hlt, hv]
      · cases h
    · cases h
  | sub id t' off len =>
    obtain ⟨hid, A, cap, rfl, hle, hA⟩ := hc
    simp only [rowOf] at h
    split at h
    · rename_i t'' l' hm'
      split at h
      · rename_i e
        subst e
        split at h
        · rename_i e
          subst e
          cases h
          have hb := hm.blk _ _ hm'
          simp only [BR] at hb
          by_cases h0 : 0 < len
          · obtain ⟨g, n, c, e1, e2, rfl⟩ := hA h0
            rw [e1] at hb
            have hn : l'.length = n := by
              rcases hb.2 with ⟨e3, _⟩ | ⟨_, _, _, e3, _⟩
              · cases e3
              · simp at e3; exact e3.2.1.symm
            subst hn
            have hl : ((l'.drop off).take len).length = len := by simp; omega
            refine ⟨_, cap, by rw [hl], fun j v hv => ⟨g, off * G.U.sz t', rfl, ?_⟩, by rw [hl]; exact hle⟩
            rw [flat_take hF.U, flat_drop hF.U, List.getElem?_take] at hv
            split at hv
            · rw [List.getElem?_drop] at hv
              have hlt := (List.getElem?_eq_some_iff.1 hv).1
              rw [flat_len hF.U] at hlt
              rw [World.ownsRow.cellAt hb _ hlt, hv]
            · cases hv
          · obtain rfl : len = 0 := by omega
            exact ⟨A, cap, by simp, fun j v hv => by simp [flat] at hv, by simp⟩
        · cases h
      · cases h
    · cases h
  | sc v =>
    have hv : v = .slice none 0 0 ∧ l = [] := by
      simp only [rowOf] at h
      split at h <;> simp_all
    obtain ⟨rfl, rfl⟩ := hv
    obtain ⟨rfl, _⟩ := hc
    exact ⟨none, 0, rfl, fun j v hv => by simp [flat] at hv, Nat.le_refl _⟩
  | _ => simp [rowOf] at h

theorem foldl_push (ns : List Int) (f : Int → UInt8) : ∀ acc : ByteArray, ns.foldl (fun r n => r.push (f n)) acc = ⟨acc.data ++ (ns.map f).toArray⟩ := by
  induction ns with
  | nil => intro acc; cases acc; simp
  | cons n ns ih => intro acc; rw [List.foldl_cons, ih]; simp [ByteArray.push]

theorem ints_of (hU : UOk G.U) {e : Nat} {k : IntKind} (he : (G.U.ent e).k = some k) : ∀ l : List (G.U.El e), ∃ ns : List Int, flat G.U e l = ns.map (Value.int k) ∧ ns.length = l.length ∧ l.map (fun y => byteOf (G.U.cells e y)) = ns.map (fun n => UInt8.ofNat n.toNat)
  | [] => ⟨[], rfl, rfl, rfl⟩
  | y :: l => by
    obtain ⟨n, hn⟩ := hU.int e k he y
    obtain ⟨ns, h1, h2, h3⟩ := ints_of hU he l
    refine ⟨n :: ns, ?_, by simp [h2], by rw [List.map_cons, List.map_cons, h3, hn]; rfl⟩
    have e' : flat G.U e (y :: l) = G.U.cells e y ++ flat G.U e l := by simp [flat]
    rw [e', hn, h1]
    rfl

theorem aConvert_ok (hF : Fits P G.U G.ti) (hm : MR G.U B S ι m w) {src dst : Nat} {x : V G.U.El} {u : Value} (hx : VR G.U B ι m w x u) (h : aConvert G src dst x m K = some r) :
    RunsP P G B ι m w (convert src dst u) K r := by
  have some_ : ∀ {t : Nat} {y : Ty}, G.tyOf t = some y → ∃ d, P.underlying t = some d := by
    intro t y ht
    have := tyOf_ok hF ht
    cases y <;> simp only [TyOk] at this
    case int => exact ⟨_, this⟩
    case bool => exact ⟨_, this⟩
    case str => exact ⟨_, this⟩
    case sl => exact ⟨_, this.1⟩
    case st => exact ⟨_, this.choose_spec.1⟩
    case arr => exact ⟨_, this.1⟩
    case ptr => exact ⟨_, this⟩
    case other => exact Option.isSome_iff_exists.1 this.1
  unfold aConvert at h
  split at h
  · rename_i y k k' n hs hd
    cases vr_sc hx
    obtain ⟨d, hs'⟩ := some_ hs
    have hd' := tyOf_ok hF hd
    simp only [TyOk] at hd'
    exact ⟨_, _, by simp [convert, run_underlying hs', run_underlying hd', Conv.intToInt], h, wr_sc rfl⟩
  · rename_i y s hs hd
    cases vr_sc hx
    obtain ⟨d, hs'⟩ := some_ hs
    have hd' := tyOf_ok hF hd
    simp only [TyOk] at hd'
    exact ⟨_, _, by simp [convert, run_underlying hs', run_underlying hd'], h, wr_sc rfl⟩
  · rename_i e c hs hd
    split at h
    · rename_i hk
      split at h
      · rename_i l hu hl
        obtain ⟨A, cap, rfl, hr, _⟩ := rowOf_ok hF hm hx hl
        obtain ⟨hs', y, hy, _⟩ := tyOf_ok hF hs
        have hd' := tyOf_ok hF hd
        simp only [TyOk] at hd'
        obtain ⟨ns, h1, h2, h3⟩ := ints_of hF.U hk l
        rw [h3] at h
        have hu8 := tyOf_ok hF hu
        simp only [TyOk] at hu8
        refine ⟨_, _, ?_, h, wr_sc rfl⟩
        rw [run_convert_bytes_string w src dst _ A l.length cap hs' hu8 hd']
        cases A with
        | none =>
          have : ns = [] := by
            cases ns with
            | nil => rfl
            | cons n ns => obtain ⟨b, o, hA, _⟩ := hr 0 (.int .u8 n) (by rw [h1]; rfl); cases hA
          subst this
          simp [Conv.bytesToString]
          rfl
        | some a =>
          have hld : (loadCells a l.length).run P w = .ok (ns.map (Value.int .u8)).toArray w := by
            have := run_loadCells_list (P := P) w a (ns.map (Value.int .u8)) (fun j v hv => by
              obtain ⟨b, o, hA, hc⟩ := hr j v (by rw [h1]; exact hv)
              cases hA
              rw [Addr.add_lit]
              exact hc)
            rwa [List.length_map, h2] at this
          rw [run_bytesToString w a l.length cap ns hld, foldl_push]
          have : (ByteArray.empty.data ++ (List.map (fun n : Int => UInt8.ofNat n.toNat) ns).toArray) = (List.map (fun n : Int => UInt8.ofNat n.toNat) ns).toArray := Array.empty_append
          rw [this]
      · cases h
    · cases h
  · cases h


def OVR (U : Univ) (B : Nat → Prop) (ι : Nat → Value) (m : List (Blk U.El)) (w : World) : Option (V U.El) → Option Value → Prop
  | none, none => True
  | some v, some u => VR U B ι m w v u
  | _, _ => False

theorem ovr_some {v : V G.U.El} {u : Value} (h : OVR G.U B ι m w (some v) (some u)) : VR G.U B ι m w v u := h

theorem natOf_ok {o : Option (V G.U.El)} {uo : Option Value} (ho : OVR G.U B ι m w o uo) {d : Nat} {K' : Nat → Option ρ} (h : natOf o d K' = some r) :
    (uo = none ∧ o = none ∧ K' d = some r) ∨ ∃ k i, uo = some (.int k i) ∧ 0 ≤ i ∧ K' i.toNat = some r := by
  unfold natOf at h
  split at h
  · cases uo with
    | none => exact .inl ⟨rfl, rfl, h⟩
    | some u => exact ho.elim
  · cases uo with
    | none => exact ho.elim
    | some u =>
      cases vr_sc (ovr_some ho)
      obtain ⟨h0, h⟩ := cond_y.1 h
      exact .inr ⟨_, _, rfl, by simpa using h0, h⟩
  · cases h


theorem bounds_ok {isSlice : Bool} {len cap : Nat} (hlc : len ≤ cap) {lo hi : Option (V G.U.El)} {ulo uhi : Option Value} (hlo : OVR G.U B ι m w lo ulo) (hhi : OVR G.U B ι m w hi uhi) {K' : Nat → Nat → Option ρ}
    (h : (natOf hi len fun h => cond (decide (h ≤ len)) (natOf lo 0 fun l => cond (decide (l ≤ h)) (K' l h) none) none) = some r) :
    ∃ l h, l ≤ h ∧ h ≤ len ∧ K' l h = some r ∧ (Instr.sliceBounds isSlice len cap ulo uhi none).run P w = .ok (l, h, cap) w ∧ (hi = none → h = len) := by
  rcases natOf_ok hhi h with ⟨rfl, _, h⟩ | ⟨k, i, rfl, hi0, h⟩
  · obtain ⟨h3, h⟩ := cond_y.1 h
    rcases natOf_ok hlo h with ⟨rfl, _, h⟩ | ⟨k', j, rfl, hj0, h⟩
    · obtain ⟨h4, h⟩ := cond_y.1 h
      simp only [decide_eq_true_eq] at h3 h4
      exact ⟨_, _, h4, h3, h, by simp [Instr.sliceBounds], fun _ => rfl⟩
    · obtain ⟨h4, h⟩ := cond_y.1 h
      simp only [decide_eq_true_eq] at h3 h4
      exact ⟨_, _, h4, h3, h, by simp [Instr.sliceBounds, run_sliceBound w k' j len _ hj0 (by omega)], fun _ => rfl⟩
  · have hne : hi ≠ none := fun e => by rw [e] at hhi; exact hhi.elim
    obtain ⟨h3, h⟩ := cond_y.1 h
    rcases natOf_ok hlo h with ⟨rfl, _, h⟩ | ⟨k', j, rfl, hj0, h⟩
    · obtain ⟨h4, h⟩ := cond_y.1 h
      simp only [decide_eq_true_eq] at h3 h4
      exact ⟨_, _, h4, h3, h, by simp [Instr.sliceBounds, run_sliceBound w k i cap _ hi0 (by omega)], fun e => absurd e hne⟩
    · obtain ⟨h4, h⟩ := cond_y.1 h
      simp only [decide_eq_true_eq] at h3 h4
      exact ⟨_, _, h4, h3, h, by simp [Instr.sliceBounds, run_sliceBound w k i cap _ hi0 (by omega), run_sliceBound w k' j i.toNat _ hj0 (by omega)], fun e => absurd e hne⟩

theorem aSlice_ok (hF : Fits P G.U G.ti) (hm : MR G.U B S ι m w) {t : Nat} {x : V G.U.El} {u : Value} {lo hi mx : Option (V G.U.El)} {ulo uhi umx : Option Value} (hx : VR G.U B ι m w x u)
    (hlo : OVR G.U B ι m w lo ulo) (hhi : OVR G.U B ι m w hi uhi) (hmx : OVR G.U B ι m w mx umx) (h : aSlice G t x lo hi mx m K = some r) :
    RunsP P G B ι m w (Instr.sliceAt t u ulo uhi umx) K r := by
  unfold aSlice at h
  split at h
  · -- a string
    rename_i s ht
    have h2 := tyOf_ok hF ht
    simp only [TyOk] at h2
    cases vr_sc hx
    cases umx with
    | some _ => exact hmx.elim
    | none =>
    obtain ⟨l, h', h3, h4, h5, h6, _⟩ := bounds_ok (P := P) (isSlice := false) (Nat.le_refl _) hlo hhi h
    exact ⟨_, _, by simp [Instr.sliceAt, Instr.slice, run_underlying h2, h6], h5, wr_sc rfl⟩
  · -- a view
    rename_i e e' rr tight loc ht
    split at h
    · rename_i he
      subst he
      cases umx with
      | some _ => exact hmx.elim
      | none =>
      obtain ⟨A, cap, rfl, hle, hr, htg⟩ := hx
      obtain ⟨h2, y, hy, hs, h0⟩ := tyOf_ok hF ht
      obtain ⟨l, h', h3, h4, h5, h6, h7⟩ := bounds_ok (P := P) (isSlice := true) hle hlo hhi h
      have run : (Instr.sliceAt t (.slice A rr.length cap) ulo uhi none).run P w = .ok (.slice (if cap = l then A else A.map (·.add (l * G.U.sz e))) (h' - l) (cap - l)) w := by
        simp [Instr.sliceAt, Instr.slice, run_underlying h2, h6, sizeOf_run (hF.ti e y hy), hs]
      have key : RD G.U B ι m w loc (if cap = l then A else A.map (·.add (l * G.U.sz e))) (flat G.U e ((rr.take h').drop l)) := by
        intro j v hv
        rw [flat_drop hF.U, flat_take hF.U, List.getElem?_drop, List.getElem?_take] at hv
        split at hv
        · rename_i hlt
          have hne : cap ≠ l := by
            intro e1
            have : h' = l := by omega
            rw [this] at hlt
            omega
          obtain ⟨b, o, rfl, e2, e3, e4⟩ := hr _ v hv
          refine ⟨b, o + l * G.U.sz e, by rw [if_neg hne]; simp [Addr.add_lit], by rw [Nat.add_assoc]; exact e2, e3, e4⟩
        · cases hv
      cases hi with
      | none =>
        have h8 := h7 rfl
        subst h8
        rw [List.take_length] at key
        exact ⟨_, _, run, h5, _, _, by rw [List.length_drop], by rw [List.length_drop]; omega, key, fun e1 => by rw [List.length_drop, htg e1]⟩
      | some v =>
        have hl : ((rr.take h').drop l).length = h' - l := by rw [List.length_drop, List.length_take, Nat.min_eq_left h4]
        exact ⟨_, _, run, h5, _, _, by rw [hl], by rw [hl]; omega, key, fun e1 => by cases e1⟩
    · cases h
  · -- nothing of a view
    rename_i e e' rr tight loc k ht
    split at h
    · rename_i he
      subst he
      split at h
      · cases ulo with
        | some _ => exact hlo.elim
        | none =>
        cases uhi with
        | none => exact hhi.elim
        | some v1 =>
        cases umx with
        | none => exact hmx.elim
        | some v2 =>
        cases vr_sc (ovr_some hhi)
        cases vr_sc (ovr_some hmx)
        obtain ⟨A, cap, rfl, hle, hr, htg⟩ := hx
        obtain ⟨h2, y, hy, hs, h0⟩ := tyOf_ok hF ht
        refine ⟨_, .slice A 0 0, ?_, h, A, 0, rfl, Nat.le_refl _, fun j v hv => by simp [flat] at hv, fun _ => rfl⟩
        simp [Instr.sliceAt, Instr.slice, run_underlying h2, Instr.sliceBounds, run_sliceBound w, sizeOf_run (hF.ti e y hy)]
      · cases h
    · cases h
  · rename_i e id ht
    split at h
    · rename_i t' rr hm'
      split at h
      · rename_i he
        subst he
        cases umx with
        | some _ => exact hmx.elim
        | none =>
        obtain ⟨hid, rfl, _⟩ := hx
        obtain ⟨h2, y, hy, hs, h0⟩ := tyOf_ok hF ht
        have hb := hm.blk _ _ hm'
        simp only [BR] at hb
        rcases hb.2 with ⟨e1, e2⟩ | ⟨g, cap, cur, e1, _, _, e2, _⟩
        · rw [e1]
          have e3 : rr = [] := List.eq_nil_of_length_eq_zero e2
          subst e3
          obtain ⟨l, h', h3, h4, h5, h6, h7⟩ := bounds_ok (P := P) (isSlice := true) (len := 0) (cap := 0) (Nat.le_refl _) hlo hhi h
          obtain rfl : l = 0 := by omega
          obtain rfl : h' = 0 := by omega
          exact ⟨_, .slice none 0 0, by simp [Instr.sliceAt, Instr.slice, run_underlying h2, h6, sizeOf_run (hF.ti e y hy)], h5, hid, none, 0, rfl, Nat.le_refl _, fun hh => absurd hh (Nat.lt_irrefl _)⟩
        · obtain ⟨l, h', h3, h4, h5, h6, h7⟩ := bounds_ok (P := P) (isSlice := true) e2 hlo hhi h
          refine ⟨_, .slice (if cap = l then some ⟨g, 0, none⟩ else some ⟨g, l * G.U.sz e, none⟩) (h' - l) (cap - l), ?_, h5, hid, _, _, rfl, by omega, fun hh => ⟨g, _, _, e1, by omega, by rw [if_neg (by omega)]⟩⟩
          rw [e1]
          simp only [Instr.sliceAt, Instr.slice, Sem.run_bind, run_underlying h2, Result.andThen_ok, h6, sizeOf_run (hF.ti e y hy), hs, Sem.run_pure]
          congr 2
          split <;> simp [Addr.add_lit]
      · cases h
    · cases h
  · cases h
end
end Go.Proofs.Ytigoabhkdipdeaa.AM
