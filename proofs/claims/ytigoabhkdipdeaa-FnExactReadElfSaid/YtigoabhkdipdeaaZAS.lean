/- A part of the plain reading of Go's code: what a function's code comes to, by a plain function. No condition. -/
import Derived.Test.YtigoabhkdipdeaaZAQ
import Derived.Laws.Tables
namespace Go.Proofs.Ytigoabhkdipdeaa.AM
open Go.RowKit
variable {ρ : Type}

section
variable {P : Program} {G : Cfg} {B : Nat → Prop} {S : Nat → Prop} {ι : Nat → Value} {m : List (Blk G.U.El)} {w : World} {r : ρ} {K : W G.U.El → Option ρ} {K2 : W G.U.El → List (Blk G.U.El) → Option ρ}

theorem RunsP.toM {s : Sem Value} (hm : MR G.U B S ι m w) (h : RunsP P G B ι m w s (fun x => K2 x m) r) : RunsM P G B S ι m w s K2 r :=
  let ⟨x, u, h1, h2, h3⟩ := h
  ⟨x, u, ι, m, w, h1, h2, h3, Grow.refl, hm, Fr.refl _ _⟩

theorem Fr.alloc (S : Nat → Prop) (w : World) (o : Obj) : Fr S w (w.alloc o) := Fr.of_grown (World.grownBy_alloc w o none) (fun _ h => by cases h)

theorem zeroC_ok : ∀ zs : List Z, CsR G.U B ι m w (zeroC G.U zs) (zvals G.U zs)
  | [] => rfl
  | .int k :: zs => ⟨[_], _, rfl, ⟨_, rfl, rfl, rfl⟩, zeroC_ok zs⟩
  | .bool :: zs => ⟨[_], _, rfl, ⟨_, rfl, rfl, rfl⟩, zeroC_ok zs⟩
  | .str :: zs => ⟨[_], _, rfl, ⟨_, rfl, rfl, rfl⟩, zeroC_ok zs⟩
  | .sl :: zs => ⟨[_], _, rfl, ⟨_, rfl, rfl, rfl⟩, zeroC_ok zs⟩
  | .ptr :: zs => ⟨[_], _, rfl, ⟨_, rfl, rfl, rfl⟩, zeroC_ok zs⟩
  | .func :: zs => ⟨[_], _, rfl, ⟨_, rfl, rfl, rfl⟩, zeroC_ok zs⟩
  | .arr e n :: zs => ⟨_, _, rfl, ⟨by simp, rfl⟩, zeroC_ok zs⟩

theorem zero_run {t : Nat} {x : TI} (hx : TIok P G.U G.ti t x) : ∃ z, (zeroValue t).run P w = .ok z w ∧ z.cells.toList = zvals G.U x.zero := by
  obtain ⟨i, z, hi, _, _, hz, hc, _⟩ := hx.info
  exact ⟨z, by simp [zeroValue, typeInfo, hi, hz], hc⟩

/-- A new variable. -/
theorem newVar_ok (hm : MR G.U B S ι m w) (hS : ∀ k, w.heap.size ≤ k → S k) {t : Nat} {cs : List (C G.U.El)} {vs : Array Value} (hc : CsR G.U B ι m w cs vs.toList) :
    let ι' := updι ι m.length (.pointer (some ⟨w.heap.size, 0, none⟩)); let m' := m ++ [.st t cs]; let w' := w.alloc (.cells vs t)
    WR G.U B ι' m' w' (.c (.ptr m.length 0)) (.pointer (some ⟨w.heap.size, 0, none⟩)) ∧ Grow G.U ι m w ι' m' w' ∧ MR G.U B S ι' m' w' ∧ Fr S w w' := by
  intro ι' m' w'
  have h := hm.push (w' := w') hS (.st t cs) (.pointer (some ⟨w.heap.size, 0, none⟩)) (by simp [w']) (fun k hk => heap_alloc_old w _ k hk) (fun k hk => by cases hk; exact Nat.le_refl _)
    (fun hg => ⟨w.heap.size, vs, by simp [updι], heap_alloc_new w _, hc.grow hg⟩)
  refine ⟨⟨by simp [m'], w.heap.size, by simp [ι', updι], rfl⟩, h.1, h.2, Fr.alloc _ _ _⟩

/-- A new row of the call's own. -/
theorem newOwn_ok (hm : MR G.U B S ι m w) (hS : ∀ k, w.heap.size ≤ k → S k) {w' : World} {t : Nat} {l : List (G.U.El t)} {v : Value} (hv : ∀ k, ownOf v = some k → w.heap.size ≤ k) (h1 : v.oneCell' = true)
    (hg : w.grownBy w' none) (hown : w'.ownsRow 0 t (G.U.sz t) v l.length (flat G.U t l)) :
    let ι' := updι ι m.length v; let m' := m ++ [.da t l]
    WR G.U B ι' m' w' (.c (.sl m.length)) v ∧ Grow G.U ι m w ι' m' w' ∧ MR G.U B S ι' m' w' ∧ Fr S w w' := by
  intro ι' m'
  have h := hm.push (w' := w') hS (.da t l) v hg.size (fun k hk => hg.block k hk (by simp)) hv (fun _ => by simpa [BR, updι] using hown)
  exact ⟨⟨by simp [m'], by simp [ι', updι], h1⟩, h.1, h.2, Fr.of_grown hg (fun _ h => by cases h)⟩

theorem aAlloc_ok (hF : Fits P G.U G.ti) (hm : MR G.U B S ι m w) (hS : ∀ k, w.heap.size ≤ k → S k) {t : Nat} {x : TI} (hx : G.ti t = some x)
    (h : K2 (.c (.ptr m.length 0)) (m ++ [.st t (zeroC G.U x.zero)]) = some r) : RunsM P G B S ι m w (Instr.alloc t true (.tuple #[])) K2 r := by
  obtain ⟨z, hz, hc⟩ := zero_run (P := P) (w := w) (hF.ti t x hx)
  have := newVar_ok hm hS (t := t) (cs := zeroC G.U x.zero) (vs := z.cells) (by rw [hc]; exact zeroC_ok _)
  refine ⟨_, _, _, _, _, ?_, h, this⟩
  simp [Instr.alloc, hz, newVar, newRow]

theorem aBox_ok (hF : Fits P G.U G.ti) (hm : MR G.U B S ι m w) (hS : ∀ k, w.heap.size ≤ k → S k) {t : Nat} {y : W G.U.El} {u : Value} (hy : WR G.U B ι m w y u)
    (h : K2 (.c (.ptr m.length 0)) (m ++ [.st t y.cells]) = some r) : RunsM P G B S ι m w (Instr.box t u) K2 r := by
  have := newVar_ok hm hS (t := t) (cs := y.cells) (vs := u.cells) hy.cells
  refine ⟨_, _, _, _, _, ?_, h, this⟩
  simp [Instr.box, newVar, newRow]

theorem made_flat (hU : UOk G.U) {e : Nat} {z : Array Value} (hz : z.toList = G.U.cells e (G.U.dflt e)) (h0 : 0 < G.U.sz e) (a n : Nat) (hn : a * G.U.sz e ≤ n) :
    (madeCells z n).toList.take (a * G.U.sz e) = flat G.U e (List.replicate a (G.U.dflt e)) := by
  have hzs : z.size = G.U.sz e := by rw [← Array.length_toList, hz]; rfl
  apply List.ext_getElem?
  intro j
  by_cases hj : j < a * G.U.sz e
  · have hi : j / G.U.sz e < a := (Nat.div_lt_iff_lt_mul h0).2 hj
    have hr : j % G.U.sz e < G.U.sz e := Nat.mod_lt _ h0
    have hd : rd (G.U.dflt e) (List.replicate a (G.U.dflt e)) (j / G.U.sz e) = G.U.dflt e := by simp [rd, List.getD_eq_getElem?_getD, List.getElem?_replicate, hi]
    have hc : (G.U.cells e (rd (G.U.dflt e) (List.replicate a (G.U.dflt e)) (j / G.U.sz e)))[j % G.U.sz e]? = some (z[j % z.size]!) := by
      rw [hd, ← hz, hzs, Array.getElem?_toList]
      simp [hzs, hr]
    have := flat_get hU e (List.replicate a (G.U.dflt e)) (j / G.U.sz e) (by simpa using hi) _ _ _ hc
    rw [Nat.div_add_mod' j (G.U.sz e)] at this
    rw [this, List.getElem?_take, if_pos hj]
    simp only [madeCells, Array.toList_map, Array.toList_range, List.getElem?_map, List.getElem?_range (by omega : j < n), Option.map_some]
  · rw [List.getElem?_eq_none (by simp; omega), List.getElem?_eq_none (by rw [flat_len hU]; simp; omega)]

theorem aMake_ok (hF : Fits P G.U G.ti) (hm : MR G.U B S ι m w) (hS : ∀ k, w.heap.size ≤ k → S k) (hB : ∀ k, w.heap.size ≤ k → B k) {own : Bool} {t : Nat} {a b : V G.U.El} {ua ub : Value} (ha : VR G.U B ι m w a ua) (hb : VR G.U B ι m w b ub)
    (h : aMakeSlice G own t a b m K2 = some r) : RunsM P G B S ι m w (Instr.makeSlice t ua ub) K2 r := by
  unfold aMakeSlice at h
  split at h
  · rename_i e a b ht
    cases vr_sc ha
    cases vr_sc hb
    split at h
    · rename_i x hx
      obtain ⟨h1, h⟩ := cond_y.1 h
      obtain ⟨h2, h⟩ := cond_y.1 h
      obtain ⟨h3, h⟩ := cond_y.1 h
      simp only [decide_eq_true_eq] at h1 h2 h3
      obtain ⟨hu, y, hy, hs, h0, h0'⟩ := tyOf_ok hF ht
      rw [hx] at hy
      cases hy
      obtain ⟨i, z, hi, hsz, hby, hz, hc, _⟩ := (hF.ti e x hx).info
      have hel : zvals G.U x.zero = G.U.cells e (G.U.dflt e) := by
        obtain ⟨y, hy, hty⟩ := Option.map_eq_some_iff.1 ht
        exact (hF.ti t y hy).el e 0 (.inl hty) x hx
      have hbb : b ≤ 140737488355328 := by
        have : (1 : Int) * b ≤ x.bytes * b := Int.mul_le_mul_of_nonneg_right (by omega) (by omega)
        omega
      have hr := run_make (P := P) w t e i z hu hi hz .i64 .i64 a b h1 h2 (by rw [hby]; omega) (by omega)
      have hg := World.grownBy_alloc w (.cells (madeCells z.cells (b.toNat * i.size)) e) none
      have hown : (w.alloc (.cells (madeCells z.cells (b.toNat * i.size)) e)).ownsRow 0 e (G.U.sz e) (.slice (some ⟨w.heap.size, 0, none⟩) a.toNat b.toNat) (List.replicate a.toNat (G.U.dflt e)).length (flat G.U e (List.replicate a.toNat (G.U.dflt e))) := by
        refine ⟨flat_len hF.U _ _, .inr ⟨w.heap.size, b.toNat, _, by rw [List.length_replicate], Nat.zero_le _, heap_alloc_new w _, by rw [List.length_replicate]; omega, by simp [maxLen]; omega, ?_, ?_⟩⟩
        · rw [size_madeCells, hsz, hs]
        · rw [List.length_replicate]
          exact made_flat hF.U (by rw [hc, hel]) (by omega) a.toNat _ (by rw [hsz, hs]; exact Nat.mul_le_mul_right _ (by omega))
      cases own with
      | false =>
        have hqm := hm.quiet (w' := w.alloc (.cells (madeCells z.cells (b.toNat * i.size)) e)) hg.size (fun k hk => hg.block k hk (by simp))
        refine ⟨_, _, _, _, _, hr, h, ⟨some ⟨w.heap.size, 0, none⟩, b.toNat, by rw [List.length_replicate], by rw [List.length_replicate]; omega, ?_, fun h => by cases h⟩, hqm.1, hqm.2, Fr.alloc _ _ _⟩
        intro j v hv
        have hlt := (List.getElem?_eq_some_iff.1 hv).1
        have hl := hown.1
        have hL : (List.replicate a.toNat (G.U.dflt e)).length = a.toNat := List.length_replicate
        generalize List.replicate a.toNat (G.U.dflt e) = L at hv hown hlt hl hL
        rw [← hL] at hown
        refine ⟨w.heap.size, 0, rfl, ?_, ?_, fun _ => hB _ (Nat.le_refl _)⟩
        · rw [Nat.zero_add, World.ownsRow.cellAt hown j (by rw [← hl]; exact hlt), hv]
        · intro id b hb hlb hk
          have := own_lt (hm.blk id b hb) hlb hk
          omega
      | true =>
      have := newOwn_ok hm hS (l := List.replicate a.toNat (G.U.dflt e)) (fun k hk => by cases hk; exact Nat.le_refl _) rfl hg hown
      exact ⟨_, _, _, _, _, hr, h, this⟩
    · cases h
  · cases h

theorem set_cells (off : Nat) : ∀ (l : List Value) (k : Nat) (cs : Array Value), off + k + l.length ≤ cs.size →
    ((l.zipIdx k).foldl (fun cs (p : Value × Nat) => cs.setIfInBounds (off + p.2) p.1) cs).toList = cs.toList.take (off + k) ++ (l ++ cs.toList.drop (off + k + l.length))
  | [], k, cs, _ => by simp
  | v :: l, k, cs, h => by
    simp only [List.zipIdx_cons, List.foldl_cons]
    simp only [List.length_cons] at h
    rw [set_cells off l (k + 1) _ (by simp; omega)]
    have := list_seg_step cs.toList (off + k) v l (by simp; omega)
    rw [Array.toList_setIfInBounds]
    simp only [List.append_assoc, List.length_cons] at this ⊢
    rw [show off + (k + 1) = off + k + 1 by omega]
    rw [this]

theorem fill_step {place : Nat → Option (Nat × Nat)} {cells : Array Value} {i off size : Nat} {v : Value} {rest : List (Nat × Value)} (hp : place i = some (off, size)) (hs : v.cells.size = size) (hl : off + size ≤ cells.size) :
    ∃ cells', Instr.fill place cells ((i, v) :: rest) = Instr.fill place cells' rest ∧ cells'.toList = cells.toList.take off ++ (v.cells.toList ++ cells.toList.drop (off + size)) := by
  refine ⟨v.cells.zipIdx.foldl (fun cs (p : Value × Nat) => cs.setIfInBounds (off + p.2) p.1) cells, ?_, ?_⟩
  · simp only [Instr.fill, hp]
    rw [if_neg (by simp [hs]; omega)]
  · rw [← Array.foldl_toList, Array.toList_zipIdx]
    have := set_cells off v.cells.toList 0 cells (by simp [hs]; omega)
    simp only [Nat.add_zero, Array.length_toList, hs] at this
    exact this

def PsR (U : Univ) (B : Nat → Prop) (ι : Nat → Value) (m : List (Blk U.El)) (w : World) : List (Nat × V U.El) → List (Nat × Value) → Prop
  | [], ps => ps = []
  | (i, v) :: vs, ps => ∃ u us, ps = (i, u) :: us ∧ VR U B ι m w v u ∧ PsR U B ι m w vs us

theorem mapM_get {α β : Type} (f : α → Option β) : ∀ (l : List α) (r : List β), l.mapM f = some r → ∀ (i : Nat) (x : α), l[i]? = some x → ∃ y : β, r[i]? = some y ∧ f x = some y
  | [], _, _, i, x, h => by simp at h
  | a :: l, r, h, i, x, hx => by
    simp only [List.mapM_cons, Option.bind_eq_bind, Option.pure_def] at h
    obtain ⟨b, h1, h⟩ := Option.bind_eq_some_iff.1 h
    obtain ⟨bs, h2, h⟩ := Option.bind_eq_some_iff.1 h
    cases h
    cases i with
    | zero => simp at hx; subst hx; exact ⟨b, rfl, h1⟩
    | succ i => exact mapM_get f l bs h2 i x (by simpa using hx)

theorem aFill_ok (hF : Fits P G.U G.ti) {fs : List (Nat × Nat)} {places : List (Nat × Nat)} (hpl : ∀ (i o ft : Nat) (y : TI), fs[i]? = some (o, ft) → G.ti ft = some y → places[i]? = some (o, y.size)) :
    ∀ {ps : List (Nat × V G.U.El)} {us : List (Nat × Value)} {cs cs' : List (C G.U.El)} {cells : Array Value}, PsR G.U B ι m w ps us → CsR G.U B ι m w cs cells.toList → aFill G fs ps cs = some cs' →
      ∃ cells', Instr.fill (places.toArray[·]?) cells us = some cells' ∧ CsR G.U B ι m w cs' cells'.toList
  | [], us, cs, cs', cells, hp, hc, h => by
    cases hp
    cases h
    exact ⟨cells, rfl, hc⟩
  | (i, .w v) :: ps, us, cs, cs', cells, ⟨u, us', e, hv, hp⟩, hc, h => by
    subst e
    simp only [aFill] at h
    split at h
    · rename_i o ft hf
      split at h
      · rename_i y hy
        split at h
        · rename_i hwd
          obtain ⟨cs1, h1, h2⟩ := Option.bind_eq_some_iff.1 h
          have hcv := WR.cells hv
          have hl := hcv.len hF.U
          obtain ⟨h3, h4⟩ := putAt_ok hF.U h1 hc hcv
          obtain ⟨cells', h5, h6⟩ := fill_step (rest := us') (place := (places.toArray[·]?)) (cells := cells) (i := i) (v := u) (by simpa using hpl i o ft y hf hy) (by rw [← Array.length_toList, hl, hwd]) (by simpa using h3)
          obtain ⟨cells2, h7, h8⟩ := aFill_ok hF hpl hp (cells := cells') (by rw [h6]; exact h4) h2
          exact ⟨cells2, h5.trans h7, h8⟩
        · cases h
      · cases h
    · cases h
  | (i, .un) :: ps, _, _, _, _, _, _, h | (i, .und) :: ps, _, _, _, _, _, _, h | (i, .tup _) :: ps, _, _, _, _, _, _, h => by simp [aFill] at h

theorem aBuild_ok (hF : Fits P G.U G.ti) {t : Nat} {ps : List (Nat × V G.U.El)} {us : Array (Nat × Value)} (hp : PsR G.U B ι m w ps us.toList) (h : aBuild G t ps K = some r) :
    RunsP P G B ι m w (Instr.build t us) K r := by
  unfold aBuild at h
  split at h
  · rename_i x hx
    split at h
    · rename_i fs hfs
      have hti := hF.ti t x hx
      have hty := hti.ty
      rw [hfs] at hty
      obtain ⟨F, h1, h2, ⟨places, h3⟩, _⟩ := hty
      obtain ⟨i, z, hi, hsz, hby, hz, hc, _⟩ := hti.info
      cases hcs : aFill G fs ps (zeroC G.U x.zero) with
      | none => rw [hcs] at h; cases h
      | some cs =>
        rw [hcs] at h
        have hpl : ∀ (i o ft : Nat) (y : TI), fs[i]? = some (o, ft) → G.ti ft = some y → places[i]? = some (o, y.size) := by
          intro i o ft y e1 e2
          rw [← h2, List.getElem?_map] at e1
          obtain ⟨fl, e3, e4⟩ := Option.map_eq_some_iff.1 e1
          obtain ⟨q, e5, e6⟩ := mapM_get _ _ _ h3 i fl e3
          obtain ⟨inf, _, e7, e8, _⟩ := (hF.ti ft y e2).info
          cases e4
          rw [e7] at e6
          cases e6
          rw [e5, ← e8]
        obtain ⟨cells, h4, h5⟩ := aFill_ok hF hpl hp (cells := z.cells) (by rw [hc]; exact zeroC_ok _) hcs
        refine ⟨_, _, run_build w t us cells ?_, h, cells.toList, rfl, h5⟩
        simp only [Program.built, hi, h1, hz, h3]
        exact h4
    · cases h
  · cases h

theorem litFill_ok (hF : Fits P G.U G.ti) {e : Nat} :
    ∀ {ps : List (Nat × V G.U.El)} {us : List (Nat × Value)} {l l' : List (G.U.El e)} {cells : Array Value}, PsR G.U B ι m w ps us → cells.toList = flat G.U e l → litFill G e ps l = some l' →
      l'.length = l.length ∧ ∃ cells', Instr.fill (fun i => some (i * G.U.sz e, G.U.sz e)) cells us = some cells' ∧ cells'.toList = flat G.U e l'
  | [], us, l, l', cells, hp, hc, h => by
    cases hp
    cases h
    exact ⟨rfl, cells, rfl, hc⟩
  | (i, .w v) :: ps, us, l, l', cells, ⟨u, us', e', hv, hp⟩, hc, h => by
    subst e'
    simp only [litFill] at h
    split at h
    · rename_i hi
      obtain ⟨vs, h1, h⟩ := Option.bind_eq_some_iff.1 h
      split at h
      · rename_i hl
        obtain ⟨y, h2, h⟩ := Option.bind_eq_some_iff.1 h
        have hcv := WR.cells hv
        have hus := scs_ok h1 hcv
        have hy := hF.U.back _ _ _ h2
        have hsz : cells.size = l.length * G.U.sz e := by rw [← Array.length_toList, hc, flat_len hF.U]
        have hle : i * G.U.sz e + G.U.sz e ≤ cells.size := by
          rw [hsz]
          calc i * G.U.sz e + G.U.sz e = (i + 1) * G.U.sz e := by rw [Nat.add_mul]; omega
            _ ≤ l.length * G.U.sz e := Nat.mul_le_mul_right _ hi
        obtain ⟨cells', h5, h6⟩ := fill_step (rest := us') (place := fun i => some (i * G.U.sz e, G.U.sz e)) (cells := cells) (i := i) (v := u) rfl (by rw [← Array.length_toList, hus, hl]) hle
        have h7 : cells'.toList = flat G.U e (l.set i y) := by rw [h6, hc, flat_set hF.U e l i hi, hus, hy]
        obtain ⟨h8, cells2, h9, h10⟩ := litFill_ok hF hp h7 h
        exact ⟨by rw [h8, List.length_set], cells2, h5.trans h9, h10⟩
      · cases h
    · cases h
  | (i, .un) :: ps, _, _, _, _, _, _, h | (i, .und) :: ps, _, _, _, _, _, _, h | (i, .tup _) :: ps, _, _, _, _, _, _, h => by simp [litFill] at h

theorem aBuildSlice_ok (hF : Fits P G.U G.ti) (hm : MR G.U B S ι m w) (hS : ∀ k, w.heap.size ≤ k → S k) (hB : ∀ k, w.heap.size ≤ k → B k) {own : Bool} {t len : Nat} {ps : List (Nat × V G.U.El)} {us : Array (Nat × Value)} (hp : PsR G.U B ι m w ps us.toList)
    (h : aBuildSlice G own t len ps m K2 = some r) : RunsM P G B S ι m w (Instr.buildSlice t len us) K2 r := by
  unfold aBuildSlice at h
  split at h
  · rename_i e ht
    split at h
    · rename_i l hl
      split at hl
      · rename_i hmax
        obtain ⟨hu, y, hy, hs, h0, _⟩ := tyOf_ok hF ht
        obtain ⟨i, z, hi, hsz, hby, hz, hc, _⟩ := (hF.ti e y hy).info
        have hel : zvals G.U y.zero = G.U.cells e (G.U.dflt e) := by
          obtain ⟨x, hx, hty⟩ := Option.map_eq_some_iff.1 ht
          exact (hF.ti t x hx).el e 0 (.inl hty) y hy
        have hz0 : (if len * G.U.sz e = 0 then (#[] : Array Value) else z.cells) = if len = 0 then #[] else z.cells := by
          by_cases hl0 : len = 0
          · simp [hl0]
          · rw [if_neg hl0, if_neg (by intro h; rcases Nat.mul_eq_zero.1 h with h | h <;> omega)]
        have hcells : ((Array.range (len * G.U.sz e)).map (fun j => (if len * G.U.sz e = 0 then (#[] : Array Value) else z.cells)[j % (if len * G.U.sz e = 0 then (#[] : Array Value) else z.cells).size]!)).toList = flat G.U e (List.replicate len (G.U.dflt e)) := by
          by_cases hl0 : len = 0
          · subst hl0; simp [flat]
          · rw [if_neg (by intro h; rcases Nat.mul_eq_zero.1 h with h | h <;> omega)]
            have := made_flat hF.U (z := z.cells) (by rw [hc, hel]) (by omega) len (len * G.U.sz e) (Nat.le_refl _)
            rw [← this, List.take_of_length_le (by simp [madeCells])]
            rfl
        obtain ⟨hlen, cells', h1, h2⟩ := litFill_ok hF hp hcells hl
        rw [List.length_replicate] at hlen
        have hsize : cells'.size = len * G.U.sz e := by rw [← Array.length_toList, h2, flat_len hF.U, hlen]
        have hrun : (Instr.buildSlice t len us).run P w = .ok (.slice (some ⟨w.heap.size, 0, none⟩) len len) (w.alloc (.cells cells' e)) := by
          by_cases hl0 : len * G.U.sz e = 0
          · rw [if_pos hl0] at h1
            simp [Instr.buildSlice, run_underlying hu, sizeOf_run (hF.ti e y hy), hs, hl0, h1, newRow]
            simp [hl0] at h1
            simp [h1]
          · rw [if_neg hl0] at h1
            simp [Instr.buildSlice, run_underlying hu, sizeOf_run (hF.ti e y hy), hs, hl0, Nat.not_lt.2 hmax, zeroValue, typeInfo, hi, hz, h1, newRow]
        have hg := World.grownBy_alloc w (.cells cells' e) none
        split at h
        · have hown : (w.alloc (.cells cells' e)).ownsRow 0 e (G.U.sz e) (.slice (some ⟨w.heap.size, 0, none⟩) len len) l.length (flat G.U e l) := by
            have := World.ownsRow_lit (base := 0) (e := e) (size := G.U.sz e) w cells' len (Nat.zero_le _) (by
              have : len * 1 ≤ len * G.U.sz e := Nat.mul_le_mul_left _ (by omega)
              simp [maxLen]; omega) hsize
            rw [h2] at this
            rw [hlen]
            exact this
          have := newOwn_ok hm hS (l := l) (fun k hk => by cases hk; exact Nat.le_refl _) rfl hg hown
          exact ⟨_, _, _, _, _, hrun, h, this⟩
        · have hq := hm.quiet (w' := w.alloc (.cells cells' e)) hg.size (fun k hk => hg.block k hk (by simp))
          refine ⟨_, _, _, _, _, hrun, h, ⟨some ⟨w.heap.size, 0, none⟩, len, by rw [hlen], by omega, ?_, fun _ => hlen.symm⟩, hq.1, hq.2, Fr.alloc _ _ _⟩
          intro j v hv
          refine ⟨w.heap.size, 0, rfl, ?_, ?_, fun _ => hB _ (Nat.le_refl _)⟩
          · rw [← h2, Array.getElem?_toList] at hv
            rw [Nat.zero_add]
            exact (cell_of_row (w.alloc (.cells cells' e)) w.heap.size j cells' e (0, 0) (heap_alloc_new w _)).trans hv
          · intro id b hb hlb hk
            have := own_lt (hm.blk id b hb) hlb hk
            omega
      · cases hl
    · cases h
  · cases h
end
end Go.Proofs.Ytigoabhkdipdeaa.AM
