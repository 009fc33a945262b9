/- A part of the plain reading of Go's code: what a function's code comes to, by a plain function. No condition. -/
import Derived.Test.YtigoabhkdipdeaaZAXB
namespace Go.Proofs.Ytigoabhkdipdeaa.AM
open Go.RowKit
variable {ρ : Type}

section
variable {P : Program} {G : Cfg} {B : Nat → Prop} {S : Nat → Prop} {ι : Nat → Value} {m : List (Blk G.U.El)} {w : World}

theorem nodup_at : ∀ {l : List (Option Nat)} {a i j : Nat}, (l.filterMap id).Nodup → l[i]? = some (some a) → l[j]? = some (some a) → i = j
  | [], _, i, _, _, h, _ => by simp at h
  | p :: l, a, i, j, hn, h1, h2 => by
    have hmem : ∀ k, l[k]? = some (some a) → a ∈ l.filterMap id := fun k hk => List.mem_filterMap.2 ⟨some a, List.mem_of_getElem? hk, rfl⟩
    cases i with
    | zero =>
      simp at h1
      subst h1
      rw [List.filterMap_cons_some (f := id) (b := a) rfl] at hn
      cases j with
      | zero => rfl
      | succ j => exact absurd (hmem j (by simpa using h2)) (List.nodup_cons.1 hn).1
    | succ i =>
      cases j with
      | zero =>
        simp at h2
        subst h2
        rw [List.filterMap_cons_some (f := id) (b := a) rfl] at hn
        exact absurd (hmem i (by simpa using h1)) (List.nodup_cons.1 hn).1
      | succ j =>
        have hn' : (l.filterMap id).Nodup := by
          cases p with
          | none => rwa [List.filterMap_cons_none (f := id) rfl] at hn
          | some q => rw [List.filterMap_cons_some (f := id) (b := q) rfl] at hn; exact (List.nodup_cons.1 hn).2
        have := nodup_at (a := a) (i := i) (j := j) hn' (by simpa using h1) (by simpa using h2)
        rw [this]

/-- A call, at the caller. -/
theorem call_ok (hF : Fits P G.U G.ti) (hm : MR G.U B S ι m w) (hS : ∀ k, w.heap.size ≤ k → S k) (hSB : ∀ k, S k → B k) {c : Con G.U.El} {key : Nat} (hc : ConOk P G.U key c) {args : List (V G.U.El)} {cargs : List Value} (hv : VsR G.U B ι m w args cargs)
    {x : ASs G.U.El c.ins} (hx : ASdec G.U m c.ins args = some x) (hnd : ((mvs m c.ins args).filterMap id).Nodup) (hus : ∀ i ∈ usOf m c.ins args, some i ∉ mvs m c.ins args) {n : Nat} {y : Os G.U.El (c.outs ++ bkSs c.ins)} (hy : c.plain n x = some y) {own : Bool} (hown : c.quiet = false → own = true)
    {r : List (W G.U.El) × List (Blk G.U.El)} (hr : r = encOs own (lcOf m c.ins args) (c.outs ++ bkSs c.ins) y (kill m (mvs m c.ins args))) {m' : List (Blk G.U.El)} (hm' : m' = putBk r.2 (bkIs c.ins args) (bkBlks (bkSs c.ins) (r.1.drop c.outs.length))) :
    Calls P (key % 65536) cargs.toArray w fun e w' => ∃ u ι', e = .returned u ∧ VR G.U B ι' m' w' (resV (r.1.take c.outs.length)) u ∧ Grow G.U ι m w ι' m' w' ∧ MR G.U B S ι' m' w' ∧ Fr S w w' := by
  have hlive := fun a ha => mvs_live hx (a := a) ha
  have hsub := bks_sub hx
  have hal := ASdec_align hx
  obtain ⟨hbl, hbv⟩ := bks_val hF.U hal hv
  have hlen0 := encIs_len (mk := []) hx
  simp only [List.length_nil, Nat.zero_add] at hlen0
  generalize hmv : mvs m c.ins args = mv at *
  generalize hlc : lcOf m c.ins args = lc at *
  generalize hids : bkIs c.ins args = ids at *
  -- what the call sees
  let ιT : Nat → Value := fun i => match mv[i]? with
    | some (some a) => ι a
    | _ => .slice none 0 0
  have own' : ∀ id b k, (encIs c.ins x []).2[id]? = some b → ownOf (ιT id) = some k → ∃ a b', mv[id]? = some (some a) ∧ m[a]? = some b' ∧ b'.live ∧ ownOf (ι a) = some k := by
    intro id b k hb hk
    have hlt : id < mv.length := by rw [← hlen0]; exact (List.getElem?_eq_some_iff.1 hb).1
    cases hq : mv[id]? with
    | none => simp at hq; omega
    | some o =>
      cases o with
      | none => simp [ιT, hq, ownOf] at hk
      | some a =>
        obtain ⟨b', e1, e2⟩ := hlive a (List.mem_of_getElem? hq)
        exact ⟨a, b', rfl, e1, e2, by simpa [ιT, hq] using hk⟩
  let m0 := kill m mv
  let Dc : Nat → Prop := fun b => Far G.U ι m0 b ∧ (lc = true → B b)
  let Sc : Nat → Prop := fun k => w.heap.size ≤ k ∨ ∃ a b, some a ∈ mv ∧ m[a]? = some b ∧ b.live ∧ ownOf (ι a) = some k
  have m0_get : ∀ id b, m0[id]? = some b → b.live → some id ∉ mv ∧ m[id]? = some b := by
    intro id b hb hl
    have h := kill_get mv m id
    rw [show kill m mv = m0 from rfl, hb] at h
    split at h
    · cases hq : m[id]? with
      | none => rw [hq] at h; cases h
      | some q => rw [hq] at h; cases h; exact hl.elim
    · rename_i hn; exact ⟨hn, h.symm⟩
  have far0 : ∀ b, Far G.U ι m b → Far G.U ι m0 b := fun b hf id q hq hl hk => hf id q (m0_get id q hq hl).2 hl hk
  have new0 : ∀ k, w.heap.size ≤ k → Far G.U ι m k := fun k hk id q hq hl ho => by
    have := own_lt (hm.blk id q hq) hl ho
    omega
  have hScDc : ∀ k, Sc k → Dc k := by
    rintro k (hk | ⟨a, b, h1, h2, h3, h4⟩)
    · exact ⟨far0 k (new0 k hk), fun _ => hSB k (hS k hk)⟩
    · refine ⟨fun id q hq hl ho => ?_, fun _ => hSB k (hm.inS a b k h2 h3 h4)⟩
      obtain ⟨h5, h6⟩ := m0_get id q hq hl
      have := hm.inj id a q b k h6 h2 hl h3 ho h4
      subst this
      exact h5 h1
  have O : Over G.U B Dc lc ι m mv (usOf m c.ins args) ιT (encIs c.ins x []).2 := by
    refine ⟨hlen0, fun i a h => by simp [ιT, h], fun i h => by simp [ιT, h], fun b hf id q hq hl hk => ?_, hus, hm.inj, own', fun b hf hd => ⟨far0 b hf, hd⟩⟩
    obtain ⟨a, b', _, e2, e3, e4⟩ := own' id q b hq hk
    exact hf a b' e2 e3 e4
  obtain ⟨hin, _, _, hpush⟩ := ASdec_ok hF hm O (mk := []) hx hv ⟨[], [], by simp [hmv], rfl⟩ (fun i hi => hi) (fun h => by rw [hlc]; exact h)
  have hMc : MR G.U Dc Sc ιT (encIs c.ins x []).2 w := by
    refine ⟨fun id b hb => by simpa using hpush id b (by simpa using hb), ?_, ?_⟩
    · intro i j b b' k hi hj hl hl' hk hk'
      obtain ⟨a, q, e1, e2, e3, e4⟩ := own' i b k hi hk
      obtain ⟨a', q', e1', e2', e3', e4'⟩ := own' j b' k hj hk'
      have := hm.inj a a' q q' k e2 e2' e3 e3' e4 e4'
      subst this
      exact nodup_at hnd e1 e1'
    · intro id b k hb hl hk
      obtain ⟨a, q, e1, e2, e3, e4⟩ := own' id b k hb hk
      exact .inr ⟨a, q, List.mem_of_getElem? e1, e2, e3, e4⟩
  refine Calls.mono (hc.sound n x y hy Dc Sc ιT cargs w (fun k hk => .inl hk) hScDc hin hMc) ?_
  rintro e w' ⟨u, rfl, hfr, ιc, hvE, hmE, hbk⟩
  -- what the caller sees
  have hFr : Fr S w w' := by
    refine ⟨hfr.os, hfr.tape, hfr.output, hfr.size, fun k hk hns => hfr.block k hk ?_⟩
    rintro (h | ⟨a, b, h1, h2, h3, h4⟩)
    · omega
    · exact hns (hm.inS a b k h2 h3 h4)
  generalize hpu : (encOs true true (c.outs ++ bkSs c.ins) y []).2 = pu at *
  have hpulen : pu.length = nps (c.outs ++ bkSs c.ins) := by rw [← hpu, encOs_len2]; simp
  have hpulive : ∀ b ∈ pu, b.live := by rw [← hpu]; exact encOs_live _ _ _ _ _ (fun b hb => by cases hb)
  have hwl : (encOs true true (c.outs ++ bkSs c.ins) y []).1.length = c.outs.length + (bkSs c.ins).length := by rw [encOs_len, List.length_append]
  have hrl : r.1.length = c.outs.length + (bkSs c.ins).length := by rw [hr, encOs_len, List.length_append]
  have hmEdef : endMem c.ins c.outs y = pu ++ bkBlks (bkSs c.ins) ((encOs true true (c.outs ++ bkSs c.ins) y []).1.drop c.outs.length) := by rw [← hpu]; rfl
  rw [hmEdef] at hvE hmE
  generalize hmEg : pu ++ bkBlks (bkSs c.ins) ((encOs true true (c.outs ++ bkSs c.ins) y []).1.drop c.outs.length) = mE at *
  have hpre : pu <+: mE := ⟨_, hmEg⟩
  have fin : ∀ (ι' : Nat → Value), Hand G.U B Dc own lc m.length ιc pu mE ι' m' w' → Grow G.U ι m w ι' m' w' → MR G.U B S ι' m' w' →
      ∃ u' ι', Go.Ending.returned u = .returned u' ∧ VR G.U B ι' m' w' (resV (r.1.take c.outs.length)) u' ∧ Grow G.U ι m w ι' m' w' ∧ MR G.U B S ι' m' w' ∧ Fr S w w' := by
    intro ι' H hg hM
    refine ⟨u, ι', rfl, ?_, hg, hM, hFr⟩
    refine resV_ok (U' := G.U) hvE (by rw [List.length_take, List.length_take, hwl, hrl]) fun j a b ha hb v hv => ?_
    have hj : j < c.outs.length := by
      have := (List.getElem?_eq_some_iff.1 ha).1
      rw [List.length_take] at this
      omega
    rw [List.getElem?_take_of_lt hj] at ha hb
    rw [hr] at hb
    refine encOs_hand H (c.outs ++ bkSs c.ins) y [] (kill m mv) (fun _ => by rw [kill_len]; rfl) (fun h => ?_) (by rw [hpu]; exact List.prefix_refl _) j a b ha hb v hv
    refine hown ?_
    have hb2 : ∀ ss : List AS, (bkSs ss).any isNp = false := by
      have h1 : ∀ ss : List S1, (bkS1 ss).any isNp = false := by
        intro ss
        induction ss with
        | nil => rfl
        | cons s ss ih => rw [bkS1, List.any_append, ih]; cases s <;> rfl
      have h2 : ∀ caps : List (Nat × List S1), (bkCaps caps).any isNp = false := by
        intro caps
        induction caps with
        | nil => rfl
        | cons p ps ih => rw [bkCaps, List.any_cons, ih]; rfl
      intro ss
      induction ss with
      | nil => rfl
      | cons s ss ih =>
        rw [bkSs, List.any_append, ih]
        cases s with
        | c s => cases s <;> rfl
        | agg ss => simp [AS.bkS, h1]
        | fnp f caps => simp [AS.bkS, h2]
        | _ => rfl
    rw [List.any_append, hb2, Bool.or_false] at h
    simp [Con.quiet, h]
  cases own with
  | false =>
    have hq : c.quiet = true := by
      cases h : c.quiet with
      | true => rfl
      | false => exact absurd (hown h) (by simp)
    simp only [Con.quiet, Bool.and_eq_true, List.isEmpty_iff, Bool.not_eq_true'] at hq
    have hmv0 : mv = [] := by rw [← hmv]; exact quiet_mv hx hq.1.1 hq.2
    have hids0 : ids = [] := by
      rw [hq.1.1] at hbl
      exact List.eq_nil_of_length_eq_zero hbl
    have hm'm : m' = m := by
      rw [hm', hids0, hr, hmv0]
      have : (encOs false lc (c.outs ++ bkSs c.ins) y (kill m [])).2 = m := by
        rw [encOs_false _ _ _ _ (by rw [hq.1.1, List.append_nil]; exact hq.1.2)]
        rfl
      rw [this]
      cases bkBlks (bkSs c.ins) ((encOs false lc (c.outs ++ bkSs c.ins) y (kill m [])).1.drop c.outs.length) <;> rfl
    have hblks : bkBlks (bkSs c.ins) ((encOs true true (c.outs ++ bkSs c.ins) y []).1.drop c.outs.length) = [] := by
      have e : ∀ (ss : List AS) (ws : List (W G.U.El)), ss = [] → bkBlks ss ws = [] := by
        rintro _ ws rfl
        cases ws <;> rfl
      exact e _ _ hq.1.1
    have hSc : ∀ k, Sc k → w.heap.size ≤ k := by
      rintro k (h | ⟨a, _, h1, _⟩)
      · exact h
      · rw [hmv0] at h1; cases h1
    have hqm := hm.quiet hfr.size (fun k hk => hfr.block k hk fun h => by have := hSc k h; omega)
    refine fin ι ?_ (hm'm ▸ hqm.1) (hm'm ▸ hqm.2)
    refine ⟨hpre, fun b hd _ => by rw [hm'm]; have := hd.1; rw [show m0 = m by show kill m mv = m; rw [hmv0]; rfl] at this; exact this, fun hl b hd => hd.2 hl, (fun h => by cases h), (fun h => by cases h), fun id t l hb => hmE.blk id _ hb, fun _ id b k hb hl hk => ?_⟩
    have := hSc k (hmE.inS id b k hb hl hk)
    exact ⟨by rw [hm'm]; exact new0 k this, hSB k (hS k this)⟩
  | true =>
    let ι' : Nat → Value := fun id => if id < m.length then ι id else ιc (id - m.length)
    have hι : ∀ id, ι' (m.length + id) = ιc id := fun id => by simp [ι']; omega
    have hι0 : ∀ id, id < m.length → ι' id = ι id := fun id h => by simp [ι', h]
    have hidn : (ids.filterMap id).Nodup := (List.Sublist.filterMap id hsub).nodup hnd
    have hr2 : r.2.length = m.length + pu.length := by rw [hr, encOs_len2, kill_len, hpulen]
    have hm'l : m'.length = m.length + pu.length := by rw [hm', putBk_len, hr2]
    have hpre2 : m0 <+: r.2 := by rw [hr]; exact encOs_pre ..
    have hbb : (bkBlks (bkSs c.ins) (r.1.drop c.outs.length)).length = ids.length := by
      rw [bkBlks_len _ _ (by rw [List.length_drop, hrl]; omega), hbl]
    have hcb : (bkBlks (bkSs c.ins) ((encOs true true (c.outs ++ bkSs c.ins) y []).1.drop c.outs.length)).length = ids.length := by
      rw [bkBlks_len _ _ (by rw [List.length_drop, hwl]; omega), hbl]
    have hmid : ∀ id, some id ∈ ids → some id ∈ mv := fun id h => hsub.subset h
    -- where a block of the caller lies at the call
    have cls : ∀ (id : Nat) (b : Blk G.U.El), m'[id]? = some b → b.live → (id < m.length ∧ some id ∉ ids ∧ m0[id]? = some b) ∨ (∃ i : Nat, id = m.length + i ∧ i < pu.length ∧ r.2[m.length + i]? = some b) ∨ (∃ j : Nat, ids[j]? = some (some id) ∧ (bkBlks (bkSs c.ins) (r.1.drop c.outs.length))[j]? = some b ∧ id < m.length) := by
      intro id b hb hl
      by_cases hi : some id ∈ ids
      · obtain ⟨j, hj, hje⟩ := List.getElem_of_mem hi
        have hje' : ids[j]? = some (some id) := by rw [List.getElem?_eq_getElem hj, hje]
        obtain ⟨q, hq1, _⟩ := hlive id (hmid id hi)
        have hlt := (List.getElem?_eq_some_iff.1 hq1).1
        have hbj : (bkBlks (bkSs c.ins) (r.1.drop c.outs.length))[j]? = some ((bkBlks (bkSs c.ins) (r.1.drop c.outs.length))[j]'(by omega)) := List.getElem?_eq_getElem (by omega)
        have := putBk_at ids _ r.2 j id _ hidn hje' hbj (by omega)
        rw [← hm', hb] at this
        cases this
        exact .inr (.inr ⟨j, hje', hbj, hlt⟩)
      · rw [hm', putBk_other ids _ _ _ hi] at hb
        by_cases hlt : id < m.length
        · refine .inl ⟨hlt, hi, ?_⟩
          obtain ⟨q, hq⟩ := hpre2
          rw [← hq, List.getElem?_append_left (by rw [show m0.length = m.length from kill_len ..]; exact hlt)] at hb
          exact hb
        · have := (List.getElem?_eq_some_iff.1 hb).1
          exact .inr (.inl ⟨id - m.length, by omega, by omega, by rw [show m.length + (id - m.length) = id by omega]; exact hb⟩)
    have puE : ∀ i : Nat, i < pu.length → ∃ b0 : Blk G.U.El, mE[i]? = some b0 ∧ pu[i]? = some b0 ∧ b0.live := by
      intro i hi
      refine ⟨pu[i], ?_, List.getElem?_eq_getElem hi, hpulive _ (List.getElem_mem hi)⟩
      rw [← hmEg, List.getElem?_append_left hi, List.getElem?_eq_getElem hi]
    have bkE : ∀ (j id : Nat) (b : Blk G.U.El), ids[j]? = some (some id) → (bkBlks (bkSs c.ins) (r.1.drop c.outs.length))[j]? = some b → b.live → ι id = ιc (pu.length + j) ∧ ∃ s a0 a, (bkSs c.ins)[j]? = some s ∧ (encOs true true (c.outs ++ bkSs c.ins) y []).1[c.outs.length + j]? = some a0 ∧ r.1[c.outs.length + j]? = some a ∧ b = bkBlk s a ∧ mE[pu.length + j]? = some (bkBlk s a0) := by
      intro j id b hj hb hl
      have hjlt : j < ids.length := (List.getElem?_eq_some_iff.1 hj).1
      have hval : (bkVs G.U c.ins cargs)[j]? = some (ι id) := by rw [← hbv]; simp [hj, idv]
      refine ⟨(hbk j _ hval).symm, ?_⟩
      have hs : (bkSs c.ins)[j]? = some ((bkSs c.ins)[j]'(by omega)) := List.getElem?_eq_getElem (by omega)
      have ha0 : (encOs true true (c.outs ++ bkSs c.ins) y []).1[c.outs.length + j]? = some ((encOs true true (c.outs ++ bkSs c.ins) y []).1[c.outs.length + j]'(by omega)) := List.getElem?_eq_getElem (by omega)
      have ha : r.1[c.outs.length + j]? = some (r.1[c.outs.length + j]'(by omega)) := List.getElem?_eq_getElem (by omega)
      refine ⟨_, _, _, hs, ha0, ha, ?_, ?_⟩
      · have := bkBlks_get (bkSs c.ins) (r.1.drop c.outs.length) j _ _ hs (by rw [List.getElem?_drop]; exact ha)
        rw [hb] at this
        exact Option.some.inj this
      · rw [← hmEg, List.getElem?_append_right (by omega), show pu.length + j - pu.length = j by omega]
        exact bkBlks_get (bkSs c.ins) _ j _ _ hs (by rw [List.getElem?_drop]; exact ha0)
    -- live blocks that come back were live at the call
    have hsh : ∀ (ss : List AS) (y : Os G.U.El ss) (mq mk : List (Blk G.U.El)) (lc : Bool) (j : Nat) (s : AS) (a0 a : W G.U.El), ss[j]? = some s → (encOs true true ss y mk).1[j]? = some a0 → (encOs true lc ss y mq).1[j]? = some a → (bkBlk s a).live → (bkBlk s a0).live := by
      have one : ∀ (s : AS) (x : s.T G.U.El) (mq mk : List (Blk G.U.El)) (lc : Bool), (bkBlk s (encO true lc s x mq).1).live → (bkBlk s (encO true true s x mk).1).live := by
        intro s x mq mk lc h
        cases s <;> first | exact trivial | exact h
      intro ss
      induction ss with
      | nil => intro y mq mk lc j s a0 a h; simp at h
      | cons s ss ih =>
        intro y mq mk lc j s' a0 a h1 h2 h3 h4
        cases ss with
        | nil =>
          cases j with
          | zero => simp [encOs] at h1 h2 h3; subst h1; subst h2; subst h3; exact one s y mq mk lc h4
          | succ j => simp at h1
        | cons s2 ss =>
          obtain ⟨x, y⟩ := y
          cases j with
          | zero => simp [encOs] at h1 h2 h3; subst h1; subst h2; subst h3; exact one s x mq mk lc h4
          | succ j => exact ih y _ _ lc j s' a0 a (by simpa using h1) (by simpa [encOs] using h2) (by simpa [encOs] using h3) h4
    have liveE : ∀ (j id : Nat) (b : Blk G.U.El), ids[j]? = some (some id) → (bkBlks (bkSs c.ins) (r.1.drop c.outs.length))[j]? = some b → b.live → ∃ b0, mE[pu.length + j]? = some b0 ∧ b0.live := by
      intro j id b hj hb hl
      obtain ⟨_, s, a0, a, h1, h2, h3, rfl, h5⟩ := bkE j id b hj hb hl
      refine ⟨_, h5, hsh (c.outs ++ bkSs c.ins) y (kill m mv) [] lc (c.outs.length + j) s a0 a ?_ h2 (by rw [← hr]; exact h3) hl⟩
      rw [List.getElem?_append_right (by omega), show c.outs.length + j - c.outs.length = j by omega]
      exact h1
    let X : Nat → Prop := fun k => ∃ a b, some a ∈ mv ∧ m[a]? = some b ∧ b.live ∧ ownOf (ι a) = some k
    let N : Nat → Prop := fun id => m.length ≤ id ∨ some id ∈ ids
    -- the place at the call of a block that is new
    have pl : ∀ (id : Nat) (b : Blk G.U.El), m'[id]? = some b → b.live → N id → ∃ (e : Nat) (b0 : Blk G.U.El), ι' id = ιc e ∧ mE[e]? = some b0 ∧ b0.live ∧ ((e < pu.length ∧ id = m.length + e) ∨ (∃ j : Nat, e = pu.length + j ∧ ids[j]? = some (some id))) := by
      intro id b hb hl hn
      rcases cls id b hb hl with ⟨h1, h2, _⟩ | ⟨i, rfl, hi, _⟩ | ⟨j, hj, hbj, hlt⟩
      · rcases hn with hn | hn
        · omega
        · exact absurd hn h2
      · obtain ⟨b0, h1, _, h3⟩ := puE i hi
        exact ⟨i, b0, hι i, h1, h3, .inl ⟨hi, rfl⟩⟩
      · obtain ⟨b0, h1, h2⟩ := liveE j id b hj hbj hl
        exact ⟨pu.length + j, b0, (hι0 id hlt).trans (bkE j id b hj hbj hl).1, h1, h2, .inr ⟨j, rfl, hj⟩⟩
    have H0 : ∀ b, Dc b → Far G.U ιc mE b → Far G.U ι' m' b := by
      intro b hd hf id q hq hl hk
      by_cases hn : N id
      · obtain ⟨e, b0, h1, h2, h3, _⟩ := pl id q hq hl hn
        rw [h1] at hk
        exact hf e b0 h2 h3 hk
      · rcases cls id q hq hl with ⟨h1, h2, h3⟩ | ⟨i, rfl, hi, _⟩ | ⟨j, hj, _, _⟩
        · rw [hι0 id h1] at hk
          exact hd.1 id q h3 hl hk
        · exact hn (.inl (by omega))
        · exact hn (.inr (List.mem_of_getElem? hj))
    have H : Hand G.U B Dc true lc m.length ιc pu mE ι' m' w' :=
      ⟨hpre, H0, fun hl b hd => hd.2 hl, fun _ id _ => hι id, fun _ id hi => by rw [hm'l]; omega, fun id t l hb => hmE.blk id _ hb, fun h => by cases h⟩
    have hup := hm.upd (m' := m') (ι' := ι') (w' := w') X (by rw [hm'l]; omega) hι0 hfr.size
      (fun k hk hx => hfr.block k hk fun hh => hh.elim (fun h => by omega) hx)
      (fun k ⟨a, b, h1, h2, h3, h4⟩ => ⟨a, b, h2, h3, h4⟩) N
      (fun id b hb hl hn => by
        rcases cls id b hb hl with ⟨h1, h2, h3⟩ | ⟨i, rfl, hi, _⟩ | ⟨j, hj, _, _⟩
        · obtain ⟨h4, h5⟩ := m0_get id b h3 hl
          refine ⟨h1, h5, fun k hk ⟨a, b', e1, e2, e3, e4⟩ => ?_⟩
          have := hm.inj id a b b' k h5 e2 hl e3 hk e4
          subst this
          exact h4 e1
        · exact absurd (Or.inl (by omega)) hn
        · exact absurd (Or.inr (List.mem_of_getElem? hj)) hn)
      (fun id b k hb hl hn hk => by
        obtain ⟨e, b0, h1, h2, h3, _⟩ := pl id b hb hl hn
        rw [h1] at hk
        rcases hmE.inS e b0 k h2 h3 hk with h | h
        · exact ⟨.inr h, hS k h⟩
        · obtain ⟨a, q, e1, e2, e3, e4⟩ := h
          exact ⟨.inl ⟨a, q, e1, e2, e3, e4⟩, hm.inS a q k e2 e3 e4⟩)
      (fun i j b b' k hi hj hl hl' hni hnj hk hk' => by
        obtain ⟨e, b0, h1, h2, h3, h4⟩ := pl i b hi hl hni
        obtain ⟨e', b0', h1', h2', h3', h4'⟩ := pl j b' hj hl' hnj
        rw [h1] at hk
        rw [h1'] at hk'
        have := hmE.inj e e' b0 b0' k h2 h2' h3 h3' hk hk'
        subst this
        rcases h4 with ⟨h5, h6⟩ | ⟨q, h5, h6⟩ <;> rcases h4' with ⟨h5', h6'⟩ | ⟨q', h5', h6'⟩
        · omega
        · omega
        · omega
        · have : q = q' := by omega
          subst this
          rw [h6] at h6'
          exact Option.some.inj (Option.some.inj h6'))
      (fun hg id b hb hl hn => by
        rcases cls id b hb hl with ⟨h1, h2, _⟩ | ⟨i, rfl, hi, hri⟩ | ⟨j, hj, hbj, hlt⟩
        · rcases hn with hn | hn
          · omega
          · exact absurd hn h2
        · have hbt := encOs_btr H (c.outs ++ bkSs c.ins) y [] (kill m mv) (by rw [kill_len]; rfl) (by rw [hpu]; exact List.prefix_refl _)
          obtain ⟨b0, h1, h2⟩ := hbt i b (by rw [kill_len, ← hr]; exact hri)
          rw [kill_len] at h2
          simp only [List.length_nil, Nat.zero_add] at h1 h2
          refine h2 (hmE.blk i b0 ?_)
          rw [hpu] at h1
          rw [← hmEg, List.getElem?_append_left hi]
          exact h1
        · obtain ⟨h0, s, a0, a, h1, h2, h3, rfl, h5⟩ := bkE j id b hj hbj hl
          have hB := hmE.blk _ _ h5
          have hid : ι' id = ιc (pu.length + j) := (hι0 id hlt).trans h0
          have htr := encOs_hand H (c.outs ++ bkSs c.ins) y [] (kill m mv) (fun _ => by rw [kill_len]; rfl) (fun _ => rfl) (by rw [hpu]; exact List.prefix_refl _) (c.outs.length + j) a0 a h2 (by rw [← hr]; exact h3)
          have hss : (c.outs ++ bkSs c.ins)[c.outs.length + j]? = some s := by rw [List.getElem?_append_right (by omega), show c.outs.length + j - c.outs.length = j by omega]; exact h1
          -- by its kind
          have kinds : ∀ (ss : List AS) (y : Os G.U.El ss) (mq mk : List (Blk G.U.El)) (lc : Bool) (j : Nat) (s : AS) (a0 a : W G.U.El), ss[j]? = some s → (encOs true true ss y mk).1[j]? = some a0 → (encOs true lc ss y mq).1[j]? = some a →
              (∃ t ss', s = .io t ss' ∧ ∃ c0 c1, a0 = .agg c0 ∧ a = .agg c1) ∨ (∃ t l, s = .bk t ∧ a0 = .agg [.arr t (List.length l) l] ∧ a = .agg [.arr t (List.length l) l]) ∨ ¬ (bkBlk s a).live := by
            have one : ∀ (s : AS) (x : s.T G.U.El) (mq mk : List (Blk G.U.El)) (lc : Bool), (∃ t ss', s = .io t ss' ∧ ∃ c0 c1, (encO true true s x mk).1 = .agg c0 ∧ (encO true lc s x mq).1 = .agg c1) ∨ (∃ t l, s = .bk t ∧ (encO true true s x mk).1 = .agg [.arr t (List.length l) l] ∧ (encO true lc s x mq).1 = .agg [.arr t (List.length l) l]) ∨ ¬ (bkBlk s (encO true lc s x mq).1).live := by
              intro s x mq mk lc
              cases s with
              | io t ss => exact .inl ⟨t, ss, rfl, _, _, rfl, rfl⟩
              | bk t => exact .inr (.inl ⟨t, x, rfl, rfl, rfl⟩)
              | _ => exact .inr (.inr (fun h => h))
            intro ss
            induction ss with
            | nil => intro y mq mk lc j s a0 a h; simp at h
            | cons s ss ih =>
              intro y mq mk lc j s' a0 a h1 h2 h3
              cases ss with
              | nil =>
                cases j with
                | zero => simp [encOs] at h1 h2 h3; subst h1; subst h2; subst h3; exact one s y mq mk lc
                | succ j => simp at h1
              | cons s2 ss =>
                obtain ⟨x, y⟩ := y
                cases j with
                | zero => simp [encOs] at h1 h2 h3; subst h1; subst h2; subst h3; exact one s x mq mk lc
                | succ j => exact ih y _ _ lc j s' a0 a (by simpa using h1) (by simpa [encOs] using h2) (by simpa [encOs] using h3)
          rcases kinds _ y (kill m mv) [] lc (c.outs.length + j) s a0 a hss h2 (by rw [← hr]; exact h3) with ⟨t, ss', rfl, c0, c1, rfl, rfl⟩ | ⟨t, l, rfl, rfl, rfl⟩ | hdead
          · obtain ⟨β, vs, e1, e2, e3⟩ := hB
            obtain ⟨vs', e4, e5⟩ := htr (.agg vs) ⟨vs.toList, by simp, e3⟩
            have : vs'.toArray = vs := by cases e4; rfl
            refine ⟨β, vs, hid.trans e1, e2, ?_⟩
            rw [← this]
            simpa using e5
          · simp only [bkBlk, BR] at hB ⊢
            rw [hid]
            exact hB
          · exact absurd hl hdead)
    exact fin ι' H hup.1 hup.2
end
end Go.Proofs.Ytigoabhkdipdeaa.AM
