/- A part of the plain reading of Go's code: what a function's code comes to, by a plain function. No condition. -/
import Derived.Test.YtigoabhkdipdeaaZBB
namespace Go.Proofs.Ytigoabhkdipdeaa.AM
open Go.RowKit
variable {ρ : Type}

section
variable (G : Cfg) (con : Nat → Option (Con G.U.El)) (n : Nat)

theorem aOp_congr (o : Oper) {e e' : Nat → V G.U.El} (m : List (Blk G.U.El)) (K : V G.U.El → List (Blk G.U.El) → Option ρ) (h : ∀ x ∈ o.op.operands, opv e x = opv e' x) : aOp G con n o e m K = aOp G con n o e' m K := by
  obtain ⟨dst, op, type, pos, after, guard⟩ := o
  have pairs : ∀ ps : Array (Nat × Operand), (∀ x ∈ (ps.toList.map (·.2)).toArray, opv e x = opv e' x) → (ps.toList.map fun p => (p.1, opv e p.2)) = (ps.toList.map fun p => (p.1, opv e' p.2)) := fun ps hp =>
    List.map_congr_left fun p hm => by rw [hp p.2 (by simpa using ⟨p.1, by simpa using hm⟩)]
  have args : ∀ xs : Array Operand, (∀ x ∈ xs, opv e x = opv e' x) → xs.toList.map (opv e) = xs.toList.map (opv e') := fun xs hp => List.map_congr_left fun x hm => hp x (by simpa using hm)
  have opt : ∀ x : Option Operand, (∀ y ∈ x.toArray, opv e y = opv e' y) → x.map (opv e) = x.map (opv e') := fun x hx => by
    cases x with
    | none => rfl
    | some x => simp [hx x (by simp)]
  cases op <;> simp only [Op.operands] at h <;> simp only [aOp]
  case build t ps => rw [pairs ps h]
  case buildSlice t len ps => rw [pairs ps h]
  case makeFunc fn first caps =>
    have hc := args caps fun x hx => h x (by simp [hx])
    cases fn <;> simp only [hc]
  case slice t x lo hi mx =>
    rw [h x (by simp), opt lo fun y hy => h y (by simp at hy ⊢; simp [hy]), opt hi fun y hy => h y (by simp at hy ⊢; simp [hy]), opt mx fun y hy => h y (by simp at hy ⊢; simp [hy])]
  case call c =>
    have ha : ∀ x ∈ c.args, opv e x = opv e' x := fun x hx => h x (by simp [Call.operands, hx])
    have hargs := args c.args ha
    cases hc : c.callee with
    | value f =>
      have hf : opv e f = opv e' f := h f (by simp [Call.operands, hc])
      simp only [hf, hargs]
    | invoke => rfl
    | builtin b =>
      have one : ∀ x, c.args.toList = [x] → opv e x = opv e' x := fun x hx => ha x (by rw [← Array.mem_toList_iff, hx]; simp)
      have two : ∀ x y, c.args.toList = [x, y] → opv e x = opv e' x ∧ opv e y = opv e' y := fun x y hx => ⟨ha x (by rw [← Array.mem_toList_iff, hx]; simp), ha y (by rw [← Array.mem_toList_iff, hx]; simp)⟩
      cases b <;> simp only []
      all_goals (repeat' split) <;> first | rfl | skip
      all_goals first
        | (rename_i hx; rw [one _ hx]; done)
        | (rename_i hx; rw [(two _ _ hx).1, (two _ _ hx).2]; done)
        | (rename_i hx _; rw [one _ hx]; done)
        | (rename_i hx _; rw [(two _ _ hx).1, (two _ _ hx).2]; done)
        | skip
  all_goals first
    | rfl
    | (rw [h _ (by simp)]; done)
    | (rw [h _ (by simp), h _ (by simp)]; done)
    | (simp_all; done)
    | skip

variable {G con n} {m mm : List (Blk G.U.El)}

theorem look {id : Nat} {b : Blk G.U.El} (h : m[id]? = some b) : (m ++ mm)[id]? = some b := by
  rw [List.getElem?_append_left (List.getElem?_eq_some_iff.1 h).1, h]

theorem rowOf_mono {t : Nat} {c : C G.U.El} {l : List (G.U.El t)} (h : rowOf m t c = some l) : rowOf (m ++ mm) t c = some l := by
  unfold rowOf at h ⊢
  split at h
  · exact h
  · split at h
    · rename_i hm
      rw [look hm]
      exact h
    · cases h
  · split at h
    · rename_i hm
      rw [look hm]
      exact h
    · cases h
  · exact h
  · cases h

theorem ptrElem_mono {t : Nat} {c : C G.U.El} {x : G.U.El t} (h : ptrElem G.U m t c = some x) : ptrElem G.U (m ++ mm) t c = some x := by
  unfold ptrElem at h ⊢
  split at h
  · split at h
    · rename_i hm
      rw [look hm]
      exact h
    · cases h
  · split at h
    · rename_i hm
      rw [look hm]
      exact h
    · cases h
  · exact h
  · cases h

theorem dec1_mono {s : S1} {c : C G.U.El} {x : s.T G.U.El} (h : s.dec m c = some x) : s.dec (m ++ mm) c = some x := by
  cases s with
  | row t => exact rowOf_mono (l := x) h
  | sl t => exact rowOf_mono (l := x) h
  | _ => exact h

theorem decs_mono : ∀ {ss : List S1} {cs : List (C G.U.El)} {x : Ts G.U.El ss}, decs m ss cs = some x → decs (m ++ mm) ss cs = some x
  | [], [], _, h => h
  | [], _ :: _, _, h => by simp [decs] at h
  | _ :: _, [], _, h => by simp [decs] at h
  | s :: ss, c :: cs, x, h => by
    simp only [decs] at h ⊢
    obtain ⟨y, h3, h⟩ := Option.bind_eq_some_iff.1 h
    obtain ⟨z, h4, h⟩ := Option.bind_eq_some_iff.1 h
    rw [dec1_mono h3, Option.bind_some, decs_mono h4]
    exact h

theorem AS.dec_mono {s : AS} {v : V G.U.El} {x : s.T G.U.El} (h : s.dec G.U m v = some x) : s.dec G.U (m ++ mm) v = some x := by
  cases s with
  | c s => cases v with
    | w y => cases y with
      | c c => exact dec1_mono (s := s) h
      | agg => cases h
    | _ => cases h
  | agg ss => cases v with
    | w y => cases y with
      | agg xs => exact decs_mono h
      | c => cases h
    | _ => cases h
  | ptr t => cases v with
    | w y => cases y with
      | c c => exact ptrElem_mono h
      | agg => cases h
    | _ => cases h
  | skip => cases v <;> exact h

theorem ASdec_mono : ∀ {ss : List AS} {vs : List (V G.U.El)} {x : ASs G.U.El ss}, ASdec G.U m ss vs = some x → ASdec G.U (m ++ mm) ss vs = some x
  | [], [], _, h => h
  | [], _ :: _, _, h => by simp [ASdec] at h
  | _ :: _, [], _, h => by simp [ASdec] at h
  | s :: ss, v :: vs, x, h => by
    simp only [ASdec] at h ⊢
    obtain ⟨y, h3, h⟩ := Option.bind_eq_some_iff.1 h
    obtain ⟨z, h4, h⟩ := Option.bind_eq_some_iff.1 h
    rw [AS.dec_mono h3, Option.bind_some, ASdec_mono h4]
    exact h

theorem aLoad_mono {t : Nat} {a : V G.U.El} {x : W G.U.El} (h : aLoad G t a m some = some x) : aLoad G t a (m ++ mm) some = some x := by
  unfold aLoad at h ⊢
  split at h
  · cases h
  · split at h
    · split at h
      · rename_i hm
        simp only [look hm]
        exact h
      · cases h
    · split at h
      · rename_i hm
        simp only [look hm]
        exact h
      · cases h
    · exact h
    · split at h
      · rename_i hm
        simp only [look hm]
        exact h
      · cases h
    · cases h

theorem aLen_mono {t : Nat} {a : V G.U.El} {x : W G.U.El} (h : aLen G t a m some = some x) : aLen G t a (m ++ mm) some = some x := by
  unfold aLen at h ⊢
  split at h
  · exact h
  · exact h
  · exact h
  · split at h
    · rename_i hm
      simp only [look hm]
      exact h
    · cases h
  · exact h
  · cases h

theorem aIndexAddr_mono {t : Nat} {a i : V G.U.El} {x : W G.U.El} (h : aIndexAddr G t a i m some = some x) : aIndexAddr G t a i (m ++ mm) some = some x := by
  unfold aIndexAddr at h ⊢
  split at h
  · split at h
    · exact h
    · split at h
      · rename_i hm
        simp only [look hm]
        exact h
      · cases h
    · exact h
    · exact h
    · cases h
  · cases h

theorem aSlice_mono {t : Nat} {a : V G.U.El} {lo hi mx : Option (V G.U.El)} {x : W G.U.El} (h : aSlice G t a lo hi mx m some = some x) : aSlice G t a lo hi mx (m ++ mm) some = some x := by
  unfold aSlice at h ⊢
  split at h
  · exact h
  · exact h
  · exact h
  · split at h
    · rename_i hm
      simp only [look hm]
      exact h
    · cases h
  · cases h

theorem aConvert_mono {s d : Nat} {a : V G.U.El} {x : W G.U.El} (h : aConvert G s d a m some = some x) : aConvert G s d a (m ++ mm) some = some x := by
  unfold aConvert at h ⊢
  split at h
  · exact h
  · exact h
  · split at h
    · rename_i hk
      simp only [if_pos hk]
      split at h
      · rename_i h1 h2
        simp only [h1, rowOf_mono h2]
        exact h
      · cases h
    · cases h
  · cases h

theorem of1 {x : Option (W G.U.El)} {v : V G.U.El} {m m' : List (Blk G.U.El)} (h : (x.bind fun w => some (V.w w, m)) = some (v, m')) : ∃ w, x = some w ∧ v = .w w ∧ m' = m := by
  obtain ⟨w, h1, h2⟩ := Option.bind_eq_some_iff.1 h
  cases h2
  exact ⟨w, h1, rfl, rfl⟩

theorem enc1_free (s : S1) (x : s.T G.U.El) (m1 m2 : List (Blk G.U.El)) : (enc1 false s x m1).1 = (enc1 false s x m2).1 := by cases s <;> rfl
theorem enc2_free : ∀ (ss : List S1) (x : Ts G.U.El ss) (m1 m2 : List (Blk G.U.El)), (enc2 false ss x m1).1 = (enc2 false ss x m2).1
  | [], _, _, _ => rfl
  | s :: ss, (x, y), m1, m2 => by simp only [enc2]; rw [enc1_free s x m1 m2, enc2_free ss y _ (enc1 false s x m2).2]
theorem encO_free : ∀ (s : AS) (x : s.T G.U.El) (m1 m2 : List (Blk G.U.El)), (encO false s x m1).1 = (encO false s x m2).1
  | .c s, x, m1, m2 => by simp only [encO]; rw [enc1_free s x m1 m2]
  | .agg ss, x, m1, m2 => by simp only [encO]; rw [enc2_free ss x m1 m2]
  | .ptr _, _, _, _ => rfl
  | .skip, _, _, _ => rfl
theorem encOs_free : ∀ (ss : List AS) (x : Os G.U.El ss) (m1 m2 : List (Blk G.U.El)), (encOs false ss x m1).1 = (encOs false ss x m2).1
  | [], _, _, _ => rfl
  | [s], x, m1, m2 => by simp only [encOs]; rw [encO_free s x m1 m2]
  | s :: s' :: ss, (x, y), m1, m2 => by simp only [encOs]; rw [encO_free s x m1 m2, encOs_free (s' :: ss) y _ (encO false s x m2).2]

/-- Is the result its own block? -/
def ownD (G : Cfg) (dst : Option Nat) : Bool := match dst with | some d => G.own.contains d | none => false

theorem aCall_inv {dst : Option Nat} {f : Nat} {args : List (V G.U.El)} {m : List (Blk G.U.El)} {K : V G.U.El → List (Blk G.U.El) → Option ρ} {r : ρ} (h : aCall G con n dst f args m K = some r) :
    ∃ c x y, con f = some c ∧ ASdec G.U m c.ins args = some x ∧ c.plain n x = some y ∧ K (resV (encOs (ownD G dst) c.outs y m).1) (encOs (ownD G dst) c.outs y m).2 = some r := by
  unfold aCall at h
  split at h
  · cases h
  · rename_i c hc
    split at h
    · cases h
    · rename_i x hx
      obtain ⟨y, hy, h2⟩ := Option.bind_eq_some_iff.1 h
      exact ⟨c, x, y, hc, hx, hy, h2⟩

theorem aCall_eq {dst : Option Nat} {f : Nat} {args : List (V G.U.El)} {m : List (Blk G.U.El)} {K : V G.U.El → List (Blk G.U.El) → Option ρ} {c x y} (hc : con f = some c) (hx : ASdec G.U m c.ins args = some x) (hy : c.plain n x = some y) :
    aCall G con n dst f args m K = K (resV (encOs (ownD G dst) c.outs y m).1) (encOs (ownD G dst) c.outs y m).2 := by
  unfold aCall
  simp only [hc, hx, hy, Option.bind_some]
  rfl

/-- What reads alone. -/
theorem kind1 {o : Oper} {e : Nat → V G.U.El} {v : V G.U.El} {m' : List (Blk G.U.El)} (hk : opKind G o ≤ 1) (h : aOp1 G con n o e m = some (v, m')) :
    m' = m ∧ (∀ mm, aOp1 G con n o e (m ++ mm) = some (v, m ++ mm)) ∧ (opKind G o = 0 → ∀ m2, aOp1 G con n o e m2 = some (v, m2)) := by
  have free : ∀ {F : (m : List (Blk G.U.El)) → Option (W G.U.El)}, (∀ m, aOp1 G con n o e m = (F m).bind fun w => some (V.w w, m)) → (∀ m1 m2, F m1 = F m2) →
      m' = m ∧ (∀ mm, aOp1 G con n o e (m ++ mm) = some (v, m ++ mm)) ∧ (opKind G o = 0 → ∀ m2, aOp1 G con n o e m2 = some (v, m2)) := by
    intro F h1 h2
    rw [h1] at h
    obtain ⟨w, h3, rfl, rfl⟩ := of1 h
    exact ⟨rfl, fun mm => by rw [h1, h2 _ m', h3]; rfl, fun _ m2 => by rw [h1, h2 _ m', h3]; rfl⟩
  have reads : ∀ {F : (m : List (Blk G.U.El)) → Option (W G.U.El)}, (∀ m, aOp1 G con n o e m = (F m).bind fun w => some (V.w w, m)) → (∀ w mm, F m = some w → F (m ++ mm) = some w) → opKind G o ≠ 0 →
      m' = m ∧ (∀ mm, aOp1 G con n o e (m ++ mm) = some (v, m ++ mm)) ∧ (opKind G o = 0 → ∀ m2, aOp1 G con n o e m2 = some (v, m2)) := by
    intro F h1 h2 h0
    rw [h1] at h
    obtain ⟨w, h3, rfl, rfl⟩ := of1 h
    exact ⟨rfl, fun mm => by rw [h1, h2 _ mm h3]; rfl, fun hh => absurd hh h0⟩
  have plain : ∀ {F : Option (V G.U.El)}, (∀ m, aOp1 G con n o e m = F.bind fun v => some (v, m)) →
      m' = m ∧ (∀ mm, aOp1 G con n o e (m ++ mm) = some (v, m ++ mm)) ∧ (opKind G o = 0 → ∀ m2, aOp1 G con n o e m2 = some (v, m2)) := by
    intro F h1
    rw [h1] at h
    obtain ⟨w, h3, h4⟩ := Option.bind_eq_some_iff.1 h
    cases h4
    exact ⟨rfl, fun mm => by rw [h1, h3]; rfl, fun _ m2 => by rw [h1, h3]; rfl⟩
  have none_ : (∀ m, aOp1 G con n o e m = none) → m' = m ∧ (∀ mm, aOp1 G con n o e (m ++ mm) = some (v, m ++ mm)) ∧ (opKind G o = 0 → ∀ m2, aOp1 G con n o e m2 = some (v, m2)) := fun h1 => by rw [h1] at h; cases h
  obtain ⟨dst, op, type, pos, after, guard⟩ := o
  cases op
  case move x => exact plain (F := some (opv e x)) fun m => rfl
  case assign x => exact plain (F := some (opv e x)) fun m => rfl
  case pick c a b =>
    refine plain (F := match opv e c with | .w (.c (.sc (.bool t))) => cond t (some (opv e a)) (some (opv e b)) | _ => none) fun m => ?_
    simp only [aOp1, aOp]
    generalize opv e c = z
    cases z with
    | w y => cases y with
      | c y => cases y with
        | sc y => cases y <;> first | rfl | (simp only [cond_bind, Option.bind_some]; done)
        | _ => rfl
      | _ => rfl
    | _ => rfl
  case alloc => simp [opKind] at hk
  case box => simp [opKind] at hk
  case build t ps => exact free (F := fun _ => aBuild G t (ps.toList.map fun p => (p.1, opv e p.2)) some) (fun m => by simp only [aOp1, aOp]; exact aBuild_nat ..) (fun _ _ => rfl)
  case buildSlice t len ps =>
    have hk' : (if ownD G dst = true then 2 else 0) ≤ 1 := hk
    have e0 : ∀ m, aOp1 G con n ⟨dst, .buildSlice t len ps, type, pos, after, guard⟩ e m = aBuildSlice G (ownD G dst) t len (ps.toList.map fun p => (p.1, opv e p.2)) m fun w m => some (.w w, m) := fun m => rfl
    cases ho : ownD G dst with
    | true => rw [ho] at hk'; simp at hk'
    | false =>
      refine free (F := fun _ => (aBuildSlice (ρ := W G.U.El) G false t len (ps.toList.map fun p => (p.1, opv e p.2)) [] fun w _ => some w)) (fun m => ?_) (fun _ _ => rfl)
      rw [e0, ho]
      unfold aBuildSlice
      generalize G.tyOf t = z
      cases z with
      | none => rfl
      | some z =>
        cases z <;> try rfl
        rename_i t
        dsimp only
        generalize (if len * G.U.sz t ≤ 16777216 then litFill G t (List.map (fun p => (p.1, opv e p.2)) ps.toList) (List.replicate len (G.U.dflt t)) else none) = z
        cases z <;> rfl
  case load t a => exact reads (F := fun m => aLoad G t (opv e a) m some) (fun m => by simp only [aOp1, aOp]; exact aLoad_nat ..) (fun w mm hw => aLoad_mono hw) (by simp [opKind])
  case store => simp [opKind] at hk
  case nilCheck x =>
    refine plain (F := match opv e x with | .w (.c (.ptr a b)) => some (.w (.c (.ptr a b))) | .w (.c (.pda a b c d)) => some (.w (.c (.pda a b c d))) | .w (.c (.fn f cs)) => some (.w (.c (.fn f cs))) | _ => none) fun m => ?_
    simp only [aOp1, aOp]
    generalize opv e x = z
    cases z with
    | w y => cases y with
      | c y => cases y <;> rfl
      | _ => rfl
    | _ => rfl
  case binOp op t x y _ => exact free (F := fun _ => aBin G.ti op t (opv e x) (opv e y) some) (fun m => by simp only [aOp1, aOp]; exact aBin_nat ..) (fun _ _ => rfl)
  case unOp op _ x => exact free (F := fun _ => aUn op (opv e x) some) (fun m => by simp only [aOp1, aOp]; exact aUn_nat ..) (fun _ _ => rfl)
  case convert s d x => exact reads (F := fun m => aConvert G s d (opv e x) m some) (fun m => by simp only [aOp1, aOp]; exact aConvert_nat ..) (fun w mm hw => aConvert_mono hw) (by simp [opKind])
  case makeFunc fn first caps =>
    cases fn
    case func f =>
      refine plain (F := if first.size = 0 then match capsOf (caps.toList.map (opv e)) with | some cs => some (.w (.c (.fn f cs))) | none => none else none) fun m => ?_
      simp only [aOp1, aOp]
      by_cases hz : first.size = 0
      · simp only [if_pos hz]
        cases capsOf (caps.toList.map (opv e)) <;> rfl
      · simp only [if_neg hz]
        rfl
    all_goals exact none_ fun m => rfl
  case makeSlice => simp [opKind] at hk
  case slice t x lo hi mx => exact reads (F := fun m => aSlice G t (opv e x) (lo.map (opv e)) (hi.map (opv e)) (mx.map (opv e)) m some) (fun m => by simp only [aOp1, aOp]; exact aSlice_nat ..) (fun w mm hw => aSlice_mono hw) (by simp [opKind])
  case fieldAddr t x f => exact free (F := fun _ => aFieldAddr G t f (opv e x) some) (fun m => by simp only [aOp1, aOp]; exact aFieldAddr_nat ..) (fun _ _ => rfl)
  case field t x f => exact free (F := fun _ => aField G t f (opv e x) some) (fun m => by simp only [aOp1, aOp]; exact aField_nat ..) (fun _ _ => rfl)
  case indexAddr t x i => exact reads (F := fun m => aIndexAddr G t (opv e x) (opv e i) m some) (fun m => by simp only [aOp1, aOp]; exact aIndexAddr_nat ..) (fun w mm hw => aIndexAddr_mono hw) (by simp [opKind])
  case index t x i => exact free (F := fun _ => aIndex G t (opv e x) (opv e i) some) (fun m => by simp only [aOp1, aOp]; exact aIndex_nat ..) (fun _ _ => rfl)
  case extract t i =>
    refine plain (F := match opv e t with | .tup ws => (match ws[i]? with | some w => some (.w w) | none => none) | _ => none) fun m => ?_
    simp only [aOp1, aOp]
    generalize opv e t = z
    cases z with
    | tup ws =>
      dsimp only
      cases ws[i]? <;> rfl
    | _ => rfl
  case call c =>
    cases hc : c.callee with
    | invoke => exact none_ fun m => by simp only [aOp1, aOp, hc]
    | value f =>
      have hk2 : opKind G ⟨dst, .call c, type, pos, after, guard⟩ = if ownD G dst = true then 2 else 1 := by simp only [opKind, hc]; rfl
      have hk' : (if ownD G dst = true then 2 else 1) ≤ 1 := hk2 ▸ hk
      cases ho' : ownD G dst with
      | true => rw [ho'] at hk'; simp at hk'
      | false =>
        have h0 : opKind G ⟨dst, .call c, type, pos, after, guard⟩ ≠ 0 := by rw [hk2, ho']; simp
        have ho'' : (match (generalizing := false) dst with | some d => G.own.contains d | none => false) = false := ho'
        -- a call whose results are not owned
        have key : ∀ g caps, opv e f = .w (.c (.fn g caps)) → ∀ m, aOp1 G con n ⟨dst, .call c, type, pos, after, guard⟩ e m = aCall G con n dst g (c.args.toList.map (opv e) ++ ptrsOf caps) m fun v m => some (v, m) := fun g caps hg m => by simp only [aOp1, aOp, hc, hg]
        cases hf : opv e f with
        | w y =>
          cases y with
          | c c' =>
            cases c' with
            | fn g caps =>
              have h1 := h
              rw [key g caps hf] at h1
              obtain ⟨cn, x, y, hcn, hx, hy, h2⟩ := aCall_inv h1
              rw [ho', encOs_false] at h2
              cases h2
              refine ⟨rfl, fun mm => ?_, fun hh => absurd hh h0⟩
              rw [key g caps hf, aCall_eq hcn (ASdec_mono hx) hy, ho', encOs_false]
              rw [encOs_free cn.outs y (_ ++ mm) _]
            | _ => exact none_ fun m => by simp only [aOp1, aOp, hc, hf]
          | agg => exact none_ fun m => by simp only [aOp1, aOp, hc, hf]
        | _ => exact none_ fun m => by simp only [aOp1, aOp, hc, hf]
    | builtin b =>
      cases b
      case len =>
        refine reads (F := fun m => match c.argTypes.toList, c.args.toList with | [t], [x] => aLen G t (opv e x) m some | _, _ => none) (fun m => ?_) (fun w mm hw => ?_) (by simp [opKind, hc])
        · simp only [aOp1, aOp, hc]
          generalize c.argTypes.toList = ts
          generalize c.args.toList = xs
          rcases ts with _ | ⟨t, _ | ⟨_, _⟩⟩ <;> rcases xs with _ | ⟨x, _ | ⟨_, _⟩⟩ <;> first | rfl | exact aLen_nat ..
        · split at hw
          · exact aLen_mono hw
          · cases hw
      case append => simp [opKind, hc] at hk
      case min =>
        refine free (F := fun _ => match c.args.toList with | [x, y] => aMinMax G true (opv e x) (opv e y) some | _ => none) (fun m => ?_) (fun _ _ => rfl)
        simp only [aOp1, aOp, hc]
        generalize c.args.toList = xs
        rcases xs with _ | ⟨x, _ | ⟨y, _ | ⟨_, _⟩⟩⟩ <;> first | rfl | exact aMinMax_nat ..
      case max =>
        refine free (F := fun _ => match c.args.toList with | [x, y] => aMinMax G false (opv e x) (opv e y) some | _ => none) (fun m => ?_) (fun _ _ => rfl)
        simp only [aOp1, aOp, hc]
        generalize c.args.toList = xs
        rcases xs with _ | ⟨x, _ | ⟨y, _ | ⟨_, _⟩⟩⟩ <;> first | rfl | exact aMinMax_nat ..
      all_goals exact none_ fun m => by simp only [aOp1, aOp, hc]
  all_goals exact none_ fun m => rfl

/-- What makes blocks alone. -/
theorem kind2 {o : Oper} {e : Nat → V G.U.El} {v : V G.U.El} {m' : List (Blk G.U.El)} (hk : opKind G o ≤ 2) (h : aOp1 G con n o e m = some (v, m')) : ∃ mm, m' = m ++ mm := by
  by_cases h1 : opKind G o ≤ 1
  · exact ⟨[], by rw [(kind1 h1 h).1, List.append_nil]⟩
  obtain ⟨dst, op, type, pos, after, guard⟩ := o
  cases op <;> simp only [opKind] at hk h1 <;> first | omega | skip
  case alloc t =>
    simp only [aOp1, aOp] at h
    split at h
    · cases h; exact ⟨_, rfl⟩
    · cases h
  case box t x =>
    simp only [aOp1, aOp] at h
    split at h
    · split at h
      · cases h; exact ⟨_, rfl⟩
      · cases h
    · cases h
  case buildSlice t len ps =>
    simp only [aOp1, aOp, aBuildSlice] at h
    split at h
    · split at h
      · have h' : (if ownD G dst = true then some ((V.w (.c (.sl m.length)) : V G.U.El), m ++ [Blk.da _ _]) else some (.w (.c (.row _ _ true true)), m)) = some (v, m') := h
        split at h'
        · cases h'; exact ⟨_, rfl⟩
        · cases h'; exact ⟨[], by simp⟩
      · cases h
    · cases h
  case makeSlice t a b =>
    simp only [aOp1, aOp, aMakeSlice] at h
    split at h
    · split at h
      · obtain ⟨_, h⟩ := cond_y.1 h
        obtain ⟨_, h⟩ := cond_y.1 h
        obtain ⟨_, h⟩ := cond_y.1 h
        cases h; exact ⟨_, rfl⟩
      · cases h
    · cases h
  case call c =>
    simp only [aOp1, aOp] at h
    cases hc : c.callee with
    | invoke => simp only [hc] at h; cases h
    | builtin b => cases b <;> simp only [hc] at hk h1 <;> omega
    | value f =>
      simp only [hc] at h
      split at h
      · obtain ⟨cn, x, y, hcn, hx, hy, h2⟩ := aCall_inv h
        cases h2
        cases hown : ownD G dst with
        | false => exact ⟨[], by rw [encOs_false, List.append_nil]⟩
        | true =>
          have := encOs_true cn.outs y m []
          rw [List.append_nil] at this
          exact ⟨_, this⟩
      · cases h
end
end Go.Proofs.Ytigoabhkdipdeaa.AM
