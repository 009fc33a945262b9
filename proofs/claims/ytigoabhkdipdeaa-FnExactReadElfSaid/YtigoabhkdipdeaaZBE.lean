/- A part of the plain reading of Go's code: what a function's code comes to, by a plain function. No condition. -/
import Derived.Test.YtigoabhkdipdeaaZBB
namespace Go.Proofs.Ytigoabhkdipdeaa.AM
open Go.RowKit
variable {ρ : Type}

section
variable (G : Cfg) (con : Nat → Option (Con G.U.El)) (n : Nat)

theorem aOp_congr (o : Oper) {e e' : Nat → V G.U.El} (m : List (Blk G.U.El)) (K : V G.U.El → List (Blk G.U.El) → Option ρ) (h : ∀ x ∈ o.op.operands, opv e x = opv e' x) : aOp G con n o e m K = aOp G con n o e' m K := by
  obtain ⟨dst, op, type, pos, after, guard⟩ := o
  have pairs : ∀ ps : Array (Nat × Operand), (∀ x ∈ (ps.toList.map (·.2)).toArray, opv e x = opv e' x) → (ps.toList.map fun p => (p.1, opv e p.2)) = (ps.toList.map fun p => (p.1, opv e' p.2)) := fun ps hp =>
    List.map_congr_left fun p hm => by rw [hp p.2 (by simpa using ⟨p.1, by simpa using hm⟩)]
  have args : ∀ xs : Array Operand, (∀ x ∈ xs, opv e x = opv e' x) → xs.toList.map (opv e) = xs.toList.map (opv e') := fun xs hp => List.map_congr_left fun x hm => hp x (by simpa using hm)
  have opt : ∀ x : Option Operand, (∀ y ∈ x.toArray, opv e y = opv e' y) → x.map (opv e) = x.map (opv e') := fun x hx => by
    cases x with
    | none => rfl
    | some x => simp [hx x (by simp)]
  cases op <;> simp only [Op.operands] at h <;> simp only [aOp]
  case build t ps => rw [pairs ps h]
  case buildSlice t len ps => rw [pairs ps h]
  case makeFunc fn first caps =>
    have hc := args caps fun x hx => h x (by simp [hx])
    cases fn <;> simp only [hc]
  case slice t x lo hi mx =>
    rw [h x (by simp), opt lo fun y hy => h y (by simp at hy ⊢; simp [hy]), opt hi fun y hy => h y (by simp at hy ⊢; simp [hy]), opt mx fun y hy => h y (by simp at hy ⊢; simp [hy])]
  case call c =>
    have ha : ∀ x ∈ c.args, opv e x = opv e' x := fun x hx => h x (by simp [Call.operands, hx])
    have hargs := args c.args ha
    cases hc : c.callee with
    | value f =>
      have hf : opv e f = opv e' f := h f (by simp [Call.operands, hc])
      simp only [hf, hargs]
    | invoke => rfl
    | builtin b =>
      have one : ∀ x, c.args.toList = [x] → opv e x = opv e' x := fun x hx => ha x (by rw [← Array.mem_toList_iff, hx]; simp)
      have two : ∀ x y, c.args.toList = [x, y] → opv e x = opv e' x ∧ opv e y = opv e' y := fun x y hx => ⟨ha x (by rw [← Array.mem_toList_iff, hx]; simp), ha y (by rw [← Array.mem_toList_iff, hx]; simp)⟩
      cases b <;> simp only []
      all_goals (repeat' split) <;> first | rfl | skip
      all_goals first
        | (rename_i hx; rw [one _ hx]; done)
        | (rename_i hx; rw [(two _ _ hx).1, (two _ _ hx).2]; done)
        | (rename_i hx _; rw [one _ hx]; done)
        | (rename_i hx _; rw [(two _ _ hx).1, (two _ _ hx).2]; done)
        | skip
  all_goals first
    | rfl
    | (rw [h _ (by simp)]; done)
    | (rw [h _ (by simp), h _ (by simp)]; done)
    | (simp_all; done)
    | skip

variable {G con n} {m mm : List (Blk G.U.El)}

theorem look {id : Nat} {b : Blk G.U.El} (h : m[id]? = some b) : (m ++ mm)[id]? = some b := by
  rw [List.getElem?_append_left (List.getElem?_eq_some_iff.1 h).1, h]

theorem rowOf_mono {t : Nat} {c : C G.U.El} {l : List (G.U.El t)} (h : rowOf m t c = some l) : rowOf (m ++ mm) t c = some l := by
  unfold rowOf at h ⊢
  split at h
  · exact h
  · split at h
    · rename_i hm
      rw [look hm]
      exact h
    · cases h
  · split at h
    · rename_i hm
      rw [look hm]
      exact h
    · cases h
  · exact h
  · cases h

theorem ptrElem_mono {t : Nat} {c : C G.U.El} {x : G.U.El t} (h : ptrElem G.U m t c = some x) : ptrElem G.U (m ++ mm) t c = some x := by
  unfold ptrElem at h ⊢
  split at h
  · split at h
    · rename_i hm
      rw [look hm]
      exact h
    · cases h
  · split at h
    · rename_i hm
      rw [look hm]
      exact h
    · cases h
  · exact h
  · cases h

theorem dec1_mono {s : S1} {c : C G.U.El} {x : s.T G.U.El} (h : s.dec m c = some x) : s.dec (m ++ mm) c = some x := by
  cases s with
  | row t => exact rowOf_mono (l := x) h
  | sl t => exact rowOf_mono (l := x) h
  | ip t =>
    have h' : ownRow m t c = some (x : List (G.U.El t)) := h
    rcases dec_own h' with ⟨id, rfl, hb⟩ | ⟨rfl, hx⟩
    · show ownRow (m ++ mm) t (.sl id) = some x
      simp only [ownRow, look hb, dif_pos]
      rfl
    · show ownRow (m ++ mm) t (.sc (.slice none 0 0)) = some x
      rw [hx]
      rfl
  | gv t =>
    have h' : ownRow m t c = some (x : List (G.U.El t)) := h
    rcases dec_own h' with ⟨id, rfl, hb⟩ | ⟨rfl, hx⟩
    · show ownRow (m ++ mm) t (.sl id) = some x
      simp only [ownRow, look hb, dif_pos]
      rfl
    · show ownRow (m ++ mm) t (.sc (.slice none 0 0)) = some x
      rw [hx]
      rfl
  | _ => exact h

theorem decs_mono : ∀ {ss : List S1} {cs : List (C G.U.El)} {x : Ts G.U.El ss}, decs m ss cs = some x → decs (m ++ mm) ss cs = some x
  | [], [], _, h => h
  | [], _ :: _, _, h => by simp [decs] at h
  | _ :: _, [], _, h => by simp [decs] at h
  | s :: ss, c :: cs, x, h => by
    simp only [decs] at h ⊢
    obtain ⟨y, h3, h⟩ := Option.bind_eq_some_iff.1 h
    obtain ⟨z, h4, h⟩ := Option.bind_eq_some_iff.1 h
    rw [dec1_mono h3, Option.bind_some, decs_mono h4]
    exact h

theorem ioDec_mono {t : Nat} {ss : List S1} {id : Nat} {x : Ts G.U.El ss} (h : ioDec m t ss id = some x) : ioDec (m ++ mm) t ss id = some x := by
  obtain ⟨cs, hb, hd⟩ := ioDec_some h
  simp only [ioDec, look hb, if_true]
  exact decs_mono hd
theorem capsDec_mono : ∀ {caps : List (Nat × List S1)} {cs : List (Nat × Nat)} {x : CapT G.U.El caps}, capsDec m caps cs = some x → capsDec (m ++ mm) caps cs = some x
  | [], [], _, h => h
  | [], _ :: _, _, h => by simp [capsDec] at h
  | _ :: _, [], _, h => by simp [capsDec] at h
  | p :: ps, c :: cs, x, h => by
    simp only [capsDec] at h ⊢
    split at h
    case isFalse => cases h
    rename_i h0
    obtain ⟨y, h3, h⟩ := Option.bind_eq_some_iff.1 h
    obtain ⟨z, h4, h⟩ := Option.bind_eq_some_iff.1 h
    rw [if_pos h0, ioDec_mono h3, Option.bind_some, capsDec_mono h4]
    exact h

theorem AS.dec_mono {s : AS} {v : V G.U.El} {x : s.T G.U.El} (h : s.dec G.U m v = some x) : s.dec G.U (m ++ mm) v = some x := by
  cases s with
  | c s => cases v with
    | w y => cases y with
      | c c => exact dec1_mono (s := s) h
      | agg => cases h
    | _ => cases h
  | agg ss => cases v with
    | w y => cases y with
      | agg xs => exact decs_mono h
      | c => cases h
    | _ => cases h
  | ptr t => cases v with
    | w y => cases y with
      | c c => exact ptrElem_mono h
      | agg => cases h
    | _ => cases h
  | skip => cases v <;> exact h
  | io t ss => cases v with
    | w y => cases y with
      | c c => cases c with
        | ptr id off =>
          change (if off = 0 then ioDec m t ss id else none) = some x at h
          show (if off = 0 then ioDec (m ++ mm) t ss id else none) = some x
          split at h
          · rename_i h0; rw [if_pos h0]; exact ioDec_mono h
          · cases h
        | _ => cases h
      | agg => cases h
    | _ => cases h
  | fnp f caps => cases v with
    | w y => cases y with
      | c c => cases c with
        | fn f' cs =>
          change (if f' = f then capsDec m caps cs else none) = some x at h
          show (if f' = f then capsDec (m ++ mm) caps cs else none) = some x
          split at h
          · rename_i h0; rw [if_pos h0]; exact capsDec_mono h
          · cases h
        | _ => cases h
      | agg => cases h
    | _ => cases h
  | bk t => cases v with
    | w y => cases y <;> cases h
    | _ => cases h
  | np t ss => cases v with
    | w y => cases y <;> cases h
    | _ => cases h

theorem ASdec_mono : ∀ {ss : List AS} {vs : List (V G.U.El)} {x : ASs G.U.El ss}, ASdec G.U m ss vs = some x → ASdec G.U (m ++ mm) ss vs = some x
  | [], [], _, h => h
  | [], _ :: _, _, h => by simp [ASdec] at h
  | _ :: _, [], _, h => by simp [ASdec] at h
  | s :: ss, v :: vs, x, h => by
    simp only [ASdec] at h ⊢
    obtain ⟨y, h3, h⟩ := Option.bind_eq_some_iff.1 h
    obtain ⟨z, h4, h⟩ := Option.bind_eq_some_iff.1 h
    rw [AS.dec_mono h3, Option.bind_some, ASdec_mono h4]
    exact h

theorem aLoad_mono {t : Nat} {a : V G.U.El} {x : W G.U.El} (h : aLoad G t a m some = some x) : aLoad G t a (m ++ mm) some = some x := by
  unfold aLoad at h ⊢
  split at h
  · cases h
  · split at h
    · split at h
      · rename_i hm
        simp only [look hm]
        exact h
      · cases h
    · split at h
      · rename_i hm
        simp only [look hm]
        exact h
      · cases h
    · exact h
    · split at h
      · rename_i hm
        simp only [look hm]
        exact h
      · cases h
    · cases h

theorem aLen_mono {t : Nat} {a : V G.U.El} {x : W G.U.El} (h : aLen G t a m some = some x) : aLen G t a (m ++ mm) some = some x := by
  unfold aLen at h ⊢
  split at h
  · exact h
  · exact h
  · exact h
  · split at h
    · rename_i hm
      simp only [look hm]
      exact h
    · cases h
  · exact h
  · cases h

theorem aIndexAddr_mono {t : Nat} {a i : V G.U.El} {x : W G.U.El} (h : aIndexAddr G t a i m some = some x) : aIndexAddr G t a i (m ++ mm) some = some x := by
  unfold aIndexAddr at h ⊢
  split at h
  · split at h
    · exact h
    · split at h
      · rename_i hm
        simp only [look hm]
        exact h
      · cases h
    · exact h
    · exact h
    · cases h
  · cases h

theorem aSlice_mono {t : Nat} {a : V G.U.El} {lo hi mx : Option (V G.U.El)} {x : W G.U.El} (h : aSlice G t a lo hi mx m some = some x) : aSlice G t a lo hi mx (m ++ mm) some = some x := by
  unfold aSlice at h ⊢
  split at h
  · exact h
  · exact h
  · exact h
  · split at h
    · rename_i hm
      simp only [look hm]
      exact h
    · cases h
  · cases h

theorem aConvert_mono {s d : Nat} {a : V G.U.El} {x : W G.U.El} (h : aConvert G s d a m some = some x) : aConvert G s d a (m ++ mm) some = some x := by
  unfold aConvert at h ⊢
  split at h
  · exact h
  · exact h
  · split at h
    · rename_i hk
      simp only [if_pos hk]
      split at h
      · rename_i h1 h2
        simp only [h1, rowOf_mono h2]
        exact h
      · cases h
    · cases h
  · cases h

theorem of1 {x : Option (W G.U.El)} {v : V G.U.El} {m m' : List (Blk G.U.El)} (h : (x.bind fun w => some (V.w w, m)) = some (v, m')) : ∃ w, x = some w ∧ v = .w w ∧ m' = m := by
  obtain ⟨w, h1, h2⟩ := Option.bind_eq_some_iff.1 h
  cases h2
  exact ⟨w, h1, rfl, rfl⟩

theorem enc1_free (lc : Bool) (s : S1) (x : s.T G.U.El) (m1 m2 : List (Blk G.U.El)) : (enc1 false lc s x m1).1 = (enc1 false lc s x m2).1 := by cases s <;> rfl
theorem enc2_free (lc : Bool) : ∀ (ss : List S1) (x : Ts G.U.El ss) (m1 m2 : List (Blk G.U.El)), (enc2 false lc ss x m1).1 = (enc2 false lc ss x m2).1
  | [], _, _, _ => rfl
  | s :: ss, (x, y), m1, m2 => by simp only [enc2]; rw [enc1_free lc s x m1 m2, enc2_free lc ss y _ (enc1 false lc s x m2).2]
theorem encO_free (lc : Bool) : ∀ (s : AS) (x : s.T G.U.El) (m1 m2 : List (Blk G.U.El)), isNp s = false → (encO false lc s x m1).1 = (encO false lc s x m2).1
  | .c s, x, m1, m2, _ => by simp only [encO]; rw [enc1_free lc s x m1 m2]
  | .agg ss, x, m1, m2, _ => by simp only [encO]; rw [enc2_free lc ss x m1 m2]
  | .io _ ss, x, m1, m2, _ => congrArg W.agg (enc2_free lc ss x m1 m2)
  | .np .., _, _, _, h => by cases h
  | .ptr _, _, _, _, _ | .skip, _, _, _, _ | .bk _, _, _, _, _ | .fnp .., _, _, _, _ => rfl
theorem encOs_free (lc : Bool) : ∀ (ss : List AS) (x : Os G.U.El ss) (m1 m2 : List (Blk G.U.El)), ss.any isNp = false → (encOs false lc ss x m1).1 = (encOs false lc ss x m2).1
  | [], _, _, _, _ => rfl
  | [s], x, m1, m2, h => congrArg (fun z => [z]) (encO_free lc s x m1 m2 (by simpa using h))
  | s :: s' :: ss, (x, y), m1, m2, h => by
    rw [List.any_cons, Bool.or_eq_false_iff] at h
    simp only [encOs]
    rw [encO_free lc s x m1 m2 h.1, encOs_free lc (s' :: ss) y _ (encO false lc s x m2).2 h.2]

theorem quiet_outs {c : Con G.U.El} (hq : c.quiet = true) : bkSs c.ins = [] ∧ (c.outs ++ bkSs c.ins).any isNp = false ∧ c.ins.any AS.isGv = false := by
  simp only [Con.quiet, Bool.and_eq_true, List.isEmpty_iff, Bool.not_eq_true'] at hq
  exact ⟨hq.1.1, by rw [hq.1.1, List.append_nil]; exact hq.1.2, hq.2⟩

theorem lc_free : ∀ {ss : List AS} {vs : List (V G.U.El)} (m1 m2 : List (Blk G.U.El)), bkSs ss = [] → lcOf m1 ss vs = lcOf m2 ss vs
  | [], [], _, _, _ | [], _ :: _, _, _, _ | _ :: _, [], _, _, _ => rfl
  | s :: ss, v :: vs, m1, m2, h => by
    simp only [bkSs, List.append_eq_nil_iff] at h
    simp only [lcOf]
    rw [lc_free m1 m2 h.2]
    congr 1
    cases s with
    | c s => cases v with
      | w y => cases y <;> rfl
      | _ => rfl
    | agg ss => cases v with
      | w y => cases y <;> rfl
      | _ => rfl
    | io t ss => cases h.1
    | fnp f caps => cases caps with
      | nil => cases v with
        | w y => cases y with
          | c c => cases c with
            | fn f' cs => cases cs <;> rfl
            | _ => rfl
          | agg => rfl
        | _ => rfl
      | cons p ps => cases h.1
    | _ => cases v <;> rfl

theorem aCall_inv {dst : Option Nat} {f : Nat} {args : List (V G.U.El)} {m : List (Blk G.U.El)} {K : V G.U.El → List (Blk G.U.El) → Option ρ} {r : ρ} (h : aCall G con n dst f args m K = some r) :
    ∃ c x y, con (keyOf f args) = some c ∧ ASdec G.U m c.ins args = some x ∧ callOk G c f m args = true ∧ c.plain n x = some y := by
  unfold aCall at h
  split at h
  · cases h
  · rename_i c hc
    split at h
    · cases h
    · rename_i x hx
      split at h
      · rename_i hco
        obtain ⟨y, hy, h2⟩ := Option.bind_eq_some_iff.1 h
        exact ⟨c, x, y, hc, hx, hco, hy⟩
      · cases h

/-- A call that writes nothing that it is handed. -/
theorem aCall_eq {dst : Option Nat} {f : Nat} {args : List (V G.U.El)} {m : List (Blk G.U.El)} {K : V G.U.El → List (Blk G.U.El) → Option ρ} {c x y} (hc : con (keyOf f args) = some c) (hx : ASdec G.U m c.ins args = some x) (hf : Nat.blt f 65536 = true) (hq : c.quiet = true) (hy : c.plain n x = some y) :
    aCall G con n dst f args m K = K (resV ((encOs (ownD G dst) (lcOf m c.ins args) (c.outs ++ bkSs c.ins) y m).1.take c.outs.length)) (encOs (ownD G dst) (lcOf m c.ins args) (c.outs ++ bkSs c.ins) y m).2 := by
  have hmv := quiet_mv hx (quiet_outs hq).1 (quiet_outs hq).2.2
  have hbk : bkIs c.ins args = [] := by
    have := bks_sub hx
    rw [hmv] at this
    exact List.sublist_nil.1 this
  unfold aCall
  simp only [hc, hx]
  rw [if_pos (by simp [callOk, hf, hq, hmv]), hy]
  simp only [Option.bind_some, hmv, kill, hbk, hq, Bool.not_true, Bool.or_false]
  congr 1
  cases bkBlks (bkSs c.ins) ((encOs (ownD G dst) (lcOf m c.ins args) (c.outs ++ bkSs c.ins) y m).1.drop c.outs.length) <;> rfl

/-- What reads alone. -/
theorem kind1 {o : Oper} {e : Nat → V G.U.El} {v : V G.U.El} {m' : List (Blk G.U.El)} (hk : opKind G o ≤ 1) (h : aOp1 G con n o e m = some (v, m')) :
    m' = m ∧ (∀ mm, aOp1 G con n o e (m ++ mm) = some (v, m ++ mm)) ∧ (opKind G o = 0 → ∀ m2, aOp1 G con n o e m2 = some (v, m2)) := by
  have free : ∀ {F : (m : List (Blk G.U.El)) → Option (W G.U.El)}, (∀ m, aOp1 G con n o e m = (F m).bind fun w => some (V.w w, m)) → (∀ m1 m2, F m1 = F m2) →
      m' = m ∧ (∀ mm, aOp1 G con n o e (m ++ mm) = some (v, m ++ mm)) ∧ (opKind G o = 0 → ∀ m2, aOp1 G con n o e m2 = some (v, m2)) := by
    intro F h1 h2
    rw [h1] at h
    obtain ⟨w, h3, rfl, rfl⟩ := of1 h
    exact ⟨rfl, fun mm => by rw [h1, h2 _ m', h3]; rfl, fun _ m2 => by rw [h1, h2 _ m', h3]; rfl⟩
  have reads : ∀ {F : (m : List (Blk G.U.El)) → Option (W G.U.El)}, (∀ m, aOp1 G con n o e m = (F m).bind fun w => some (V.w w, m)) → (∀ w mm, F m = some w → F (m ++ mm) = some w) → opKind G o ≠ 0 →
      m' = m ∧ (∀ mm, aOp1 G con n o e (m ++ mm) = some (v, m ++ mm)) ∧ (opKind G o = 0 → ∀ m2, aOp1 G con n o e m2 = some (v, m2)) := by
    intro F h1 h2 h0
    rw [h1] at h
    obtain ⟨w, h3, rfl, rfl⟩ := of1 h
    exact ⟨rfl, fun mm => by rw [h1, h2 _ mm h3]; rfl, fun hh => absurd hh h0⟩
  have plain : ∀ {F : Option (V G.U.El)}, (∀ m, aOp1 G con n o e m = F.bind fun v => some (v, m)) →
      m' = m ∧ (∀ mm, aOp1 G con n o e (m ++ mm) = some (v, m ++ mm)) ∧ (opKind G o = 0 → ∀ m2, aOp1 G con n o e m2 = some (v, m2)) := by
    intro F h1
    rw [h1] at h
    obtain ⟨w, h3, h4⟩ := Option.bind_eq_some_iff.1 h
    cases h4
    exact ⟨rfl, fun mm => by rw [h1, h3]; rfl, fun _ m2 => by rw [h1, h3]; rfl⟩
  have none_ : (∀ m, aOp1 G con n o e m = none) → m' = m ∧ (∀ mm, aOp1 G con n o e (m ++ mm) = some (v, m ++ mm)) ∧ (opKind G o = 0 → ∀ m2, aOp1 G con n o e m2 = some (v, m2)) := fun h1 => by rw [h1] at h; cases h
  obtain ⟨dst, op, type, pos, after, guard⟩ := o
  cases op
  case move x => exact plain (F := some (opv e x)) fun m => rfl
  case assign x => exact plain (F := some (opv e x)) fun m => rfl
  case pick c a b =>
    refine plain (F := match opv e c with | .w (.c (.sc (.bool t))) => cond t (some (opv e a)) (some (opv e b)) | _ => none) fun m => ?_
    simp only [aOp1, aOp]
    generalize opv e c = z
    cases z with
    | w y => cases y with
      | c y => cases y with
        | sc y => cases y <;> first | rfl | (simp only [cond_bind, Option.bind_some]; done)
        | _ => rfl
      | _ => rfl
    | _ => rfl
  case alloc => simp [opKind] at hk
  case box => simp [opKind] at hk
  case build t ps => exact free (F := fun _ => aBuild G t (ps.toList.map fun p => (p.1, opv e p.2)) some) (fun m => by simp only [aOp1, aOp]; exact aBuild_nat ..) (fun _ _ => rfl)
  case buildSlice t len ps =>
    have hk' : (if ownD G dst = true then 2 else 0) ≤ 1 := hk
    have e0 : ∀ m, aOp1 G con n ⟨dst, .buildSlice t len ps, type, pos, after, guard⟩ e m = aBuildSlice G (ownD G dst) t len (ps.toList.map fun p => (p.1, opv e p.2)) m fun w m => some (.w w, m) := fun m => rfl
    cases ho : ownD G dst with
    | true => rw [ho] at hk'; simp at hk'
    | false =>
      refine free (F := fun _ => (aBuildSlice (ρ := W G.U.El) G false t len (ps.toList.map fun p => (p.1, opv e p.2)) [] fun w _ => some w)) (fun m => ?_) (fun _ _ => rfl)
      rw [e0, ho]
      unfold aBuildSlice
      generalize G.tyOf t = z
      cases z with
      | none => rfl
      | some z =>
        cases z <;> try rfl
        rename_i t
        dsimp only
        generalize (if len * G.U.sz t ≤ 16777216 then litFill G t (List.map (fun p => (p.1, opv e p.2)) ps.toList) (List.replicate len (G.U.dflt t)) else none) = z
        cases z <;> rfl
  case load t a => exact reads (F := fun m => aLoad G t (opv e a) m some) (fun m => by simp only [aOp1, aOp]; exact aLoad_nat ..) (fun w mm hw => aLoad_mono hw) (by simp [opKind])
  case store => simp [opKind] at hk
  case nilCheck x =>
    refine plain (F := match opv e x with | .w (.c (.ptr a b)) => some (.w (.c (.ptr a b))) | .w (.c (.pda a b c d)) => some (.w (.c (.pda a b c d))) | .w (.c (.fn f cs)) => some (.w (.c (.fn f cs))) | _ => none) fun m => ?_
    simp only [aOp1, aOp]
    generalize opv e x = z
    cases z with
    | w y => cases y with
      | c y => cases y <;> rfl
      | _ => rfl
    | _ => rfl
  case binOp op t x y _ => exact free (F := fun _ => aBin G.U G.ti op t (opv e x) (opv e y) some) (fun m => by simp only [aOp1, aOp]; exact aBin_nat ..) (fun _ _ => rfl)
  case unOp op _ x => exact free (F := fun _ => aUn op (opv e x) some) (fun m => by simp only [aOp1, aOp]; exact aUn_nat ..) (fun _ _ => rfl)
  case convert s d x => exact reads (F := fun m => aConvert G s d (opv e x) m some) (fun m => by simp only [aOp1, aOp]; exact aConvert_nat ..) (fun w mm hw => aConvert_mono hw) (by simp [opKind])
  case makeFunc fn first caps =>
    cases fn
    case func f =>
      refine plain (F := if first.size = 0 then match capsOf (caps.toList.map (opv e)) with | some cs => some (.w (.c (.fn f cs))) | none => none else none) fun m => ?_
      simp only [aOp1, aOp]
      by_cases hz : first.size = 0
      · simp only [if_pos hz]
        cases capsOf (caps.toList.map (opv e)) <;> rfl
      · simp only [if_neg hz]
        rfl
    all_goals exact none_ fun m => rfl
  case makeSlice t a b =>
    have hk' : (if ownD G dst = true then 2 else 0) ≤ 1 := hk
    have e0 : ∀ m, aOp1 G con n ⟨dst, .makeSlice t a b, type, pos, after, guard⟩ e m = aMakeSlice G (ownD G dst) t (opv e a) (opv e b) m fun w m => some (.w w, m) := fun m => rfl
    cases ho : ownD G dst with
    | true => rw [ho] at hk'; simp at hk'
    | false =>
      refine free (F := fun _ => (aMakeSlice (ρ := W G.U.El) G false t (opv e a) (opv e b) [] fun w _ => some w)) (fun m => ?_) (fun _ _ => rfl)
      rw [e0, ho]
      unfold aMakeSlice
      split
      · split
        · simp only [Bool.false_eq_true, if_false, cond_bind, Option.bind_some, Option.bind_none]
        · rfl
      · rfl
  case slice t x lo hi mx => exact reads (F := fun m => aSlice G t (opv e x) (lo.map (opv e)) (hi.map (opv e)) (mx.map (opv e)) m some) (fun m => by simp only [aOp1, aOp]; exact aSlice_nat ..) (fun w mm hw => aSlice_mono hw) (by simp [opKind])
  case fieldAddr t x f => exact free (F := fun _ => aFieldAddr G t f (opv e x) some) (fun m => by simp only [aOp1, aOp]; exact aFieldAddr_nat ..) (fun _ _ => rfl)
  case field t x f => exact free (F := fun _ => aField G t f (opv e x) some) (fun m => by simp only [aOp1, aOp]; exact aField_nat ..) (fun _ _ => rfl)
  case indexAddr t x i => exact reads (F := fun m => aIndexAddr G t (opv e x) (opv e i) m some) (fun m => by simp only [aOp1, aOp]; exact aIndexAddr_nat ..) (fun w mm hw => aIndexAddr_mono hw) (by simp [opKind])
  case index t x i => exact free (F := fun _ => aIndex G t (opv e x) (opv e i) some) (fun m => by simp only [aOp1, aOp]; exact aIndex_nat ..) (fun _ _ => rfl)
  case extract t i =>
    refine plain (F := match opv e t with | .tup ws => (match ws[i]? with | some w => some (.w w) | none => none) | _ => none) fun m => ?_
    simp only [aOp1, aOp]
    generalize opv e t = z
    cases z with
    | tup ws =>
      dsimp only
      cases ws[i]? <;> rfl
    | _ => rfl
  case call c =>
    cases hc : c.callee with
    | invoke => exact none_ fun m => by simp only [aOp1, aOp, hc]
    | value f =>
      have hk3 : (∀ g, f = .func g → G.ios.contains g = false) ∧ ((∀ g, f ≠ .func g) → G.ios = []) ∧ ownD G dst = false ∧ opKind G ⟨dst, .call c, type, pos, after, guard⟩ ≠ 0 := by
        simp only [opKind, hc] at hk ⊢
        cases f with
        | func g =>
          simp only [] at hk ⊢
          cases hg : G.ios.contains g with
          | true => rw [hg] at hk; simp at hk
          | false =>
            cases ho : ownD G dst with
            | true => rw [hg, ho] at hk; simp at hk
            | false => exact ⟨fun g' e => (by cases e; exact hg), fun h => absurd rfl (h g), rfl, by simp⟩
        | _ =>
          simp only [] at hk ⊢
          cases hg : G.ios.isEmpty with
          | false => rw [hg] at hk; simp at hk
          | true =>
            cases ho : ownD G dst with
            | true => rw [hg, ho] at hk; simp at hk
            | false => exact ⟨fun g' e => (by cases e), fun _ => List.isEmpty_iff.1 hg, rfl, by simp⟩
      obtain ⟨hk4, hk5, ho', h0⟩ := hk3
      -- a call whose results are not owned
      have key : ∀ g caps, opv e f = .w (.c (.fn g caps)) → ∀ m, aOp1 G con n ⟨dst, .call c, type, pos, after, guard⟩ e m = aCall G con n dst g (c.args.toList.map (opv e) ++ ptrsOf caps) m fun v m => some (v, m) := fun g caps hg m => by simp only [aOp1, aOp, hc, hg]
      cases hf : opv e f with
      | w y =>
        cases y with
        | c c' =>
          cases c' with
          | fn g caps =>
            have h1 := h
            rw [key g caps hf] at h1
            have hng : G.ios.contains g = false := by
              by_cases hfg : ∃ g', f = .func g'
              · obtain ⟨g', rfl⟩ := hfg
                cases hf
                exact hk4 _ rfl
              · rw [hk5 fun g' e => hfg ⟨g', e⟩]; rfl
            obtain ⟨cn, x, y, hcn, hx, hco, hy⟩ := aCall_inv h1
            simp only [callOk, Bool.and_eq_true, hng, Bool.or_false] at hco
            obtain ⟨⟨hlt, hq⟩, _⟩ := hco
            have hqo := quiet_outs hq
            rw [aCall_eq hcn hx hlt hq hy, ho', encOs_false _ _ _ _ hqo.2.1] at h1
            cases h1
            refine ⟨rfl, fun mm => ?_, fun hh => absurd hh h0⟩
            rw [key g caps hf, aCall_eq hcn (ASdec_mono hx) hlt hq hy, ho', encOs_false _ _ _ _ hqo.2.1]
            rw [encOs_free _ (cn.outs ++ bkSs cn.ins) y (_ ++ mm) _ hqo.2.1, lc_free (_ ++ mm) _ hqo.1]
          | _ => exact none_ fun m => by simp only [aOp1, aOp, hc, hf]
        | agg => exact none_ fun m => by simp only [aOp1, aOp, hc, hf]
      | _ => exact none_ fun m => by simp only [aOp1, aOp, hc, hf]
    | builtin b =>
      cases b
      case len =>
        refine reads (F := fun m => match c.argTypes.toList, c.args.toList with | [t], [x] => aLen G t (opv e x) m some | _, _ => none) (fun m => ?_) (fun w mm hw => ?_) (by simp [opKind, hc])
        · simp only [aOp1, aOp, hc]
          generalize c.argTypes.toList = ts
          generalize c.args.toList = xs
          rcases ts with _ | ⟨t, _ | ⟨_, _⟩⟩ <;> rcases xs with _ | ⟨x, _ | ⟨_, _⟩⟩ <;> first | rfl | exact aLen_nat ..
        · split at hw
          · exact aLen_mono hw
          · cases hw
      case append => simp [opKind, hc] at hk
      case min =>
        refine free (F := fun _ => match c.args.toList with | [x, y] => aMinMax G true (opv e x) (opv e y) some | _ => none) (fun m => ?_) (fun _ _ => rfl)
        simp only [aOp1, aOp, hc]
        generalize c.args.toList = xs
        rcases xs with _ | ⟨x, _ | ⟨y, _ | ⟨_, _⟩⟩⟩ <;> first | rfl | exact aMinMax_nat ..
      case max =>
        refine free (F := fun _ => match c.args.toList with | [x, y] => aMinMax G false (opv e x) (opv e y) some | _ => none) (fun m => ?_) (fun _ _ => rfl)
        simp only [aOp1, aOp, hc]
        generalize c.args.toList = xs
        rcases xs with _ | ⟨x, _ | ⟨y, _ | ⟨_, _⟩⟩⟩ <;> first | rfl | exact aMinMax_nat ..
      all_goals exact none_ fun m => by simp only [aOp1, aOp, hc]
  all_goals exact none_ fun m => rfl

/-- What makes blocks alone. -/
theorem kind2 {o : Oper} {e : Nat → V G.U.El} {v : V G.U.El} {m' : List (Blk G.U.El)} (hk : opKind G o ≤ 2) (h : aOp1 G con n o e m = some (v, m')) : ∃ mm, m' = m ++ mm := by
  by_cases h1 : opKind G o ≤ 1
  · exact ⟨[], by rw [(kind1 h1 h).1, List.append_nil]⟩
  obtain ⟨dst, op, type, pos, after, guard⟩ := o
  cases op <;> simp only [opKind] at hk h1 <;> first | omega | skip
  case alloc t =>
    simp only [aOp1, aOp] at h
    split at h
    · cases h; exact ⟨_, rfl⟩
    · cases h
  case box t x =>
    simp only [aOp1, aOp] at h
    split at h
    · split at h
      · cases h; exact ⟨_, rfl⟩
      · cases h
    · cases h
  case buildSlice t len ps =>
    simp only [aOp1, aOp, aBuildSlice] at h
    split at h
    · split at h
      · have h' : (if ownD G dst = true then some ((V.w (.c (.sl m.length)) : V G.U.El), m ++ [Blk.da _ _]) else some (.w (.c (.row _ _ true true)), m)) = some (v, m') := h
        split at h'
        · cases h'; exact ⟨_, rfl⟩
        · cases h'; exact ⟨[], by simp⟩
      · cases h
    · cases h
  case makeSlice t a b =>
    simp only [aOp1, aOp, aMakeSlice] at h
    split at h
    · split at h
      · obtain ⟨_, h⟩ := cond_y.1 h
        obtain ⟨_, h⟩ := cond_y.1 h
        obtain ⟨_, h⟩ := cond_y.1 h
        split at h
        · cases h; exact ⟨_, rfl⟩
        · cases h; exact ⟨[], by simp⟩
      · cases h
    · cases h
  case call c =>
    simp only [aOp1, aOp] at h
    cases hc : c.callee with
    | invoke => simp only [hc] at h; cases h
    | builtin b => cases b <;> simp only [hc] at hk h1 <;> omega
    | value f =>
      simp only [hc] at h hk
      have hk3 : (∀ g, f = .func g → G.ios.contains g = false) ∧ ((∀ g, f ≠ .func g) → G.ios = []) := by
        cases f with
        | func g =>
          simp only [] at hk
          cases hg : G.ios.contains g with
          | true => rw [hg] at hk; simp at hk
          | false => exact ⟨fun g' e => (by cases e; exact hg), fun h => absurd rfl (h g)⟩
        | _ =>
          simp only [] at hk
          cases hg : G.ios.isEmpty with
          | false => rw [hg] at hk; simp at hk
          | true => exact ⟨fun g' e => (by cases e), fun _ => List.isEmpty_iff.1 hg⟩
      split at h
      · rename_i g caps hf
        have hng : G.ios.contains g = false := by
          by_cases hfg : ∃ g', f = .func g'
          · obtain ⟨g', rfl⟩ := hfg
            cases hf
            exact hk3.1 _ rfl
          · rw [hk3.2 fun g' e => hfg ⟨g', e⟩]; rfl
        obtain ⟨cn, x, y, hcn, hx, hco, hy⟩ := aCall_inv h
        simp only [callOk, Bool.and_eq_true, hng, Bool.or_false] at hco
        obtain ⟨⟨hlt, hq⟩, _⟩ := hco
        rw [aCall_eq hcn hx hlt hq hy] at h
        cases h
        obtain ⟨mm, hmm⟩ := encOs_pre (ownD G dst) (lcOf m cn.ins (c.args.toList.map (opv e) ++ ptrsOf caps)) (cn.outs ++ bkSs cn.ins) y m
        exact ⟨mm, hmm.symm⟩
      · cases h
end
end Go.Proofs.Ytigoabhkdipdeaa.AM
