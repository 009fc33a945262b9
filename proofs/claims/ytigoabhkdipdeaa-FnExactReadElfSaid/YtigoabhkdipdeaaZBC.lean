/- A part of the plain reading of Go's code: what a function's code comes to, by a plain function. No condition. -/
import Derived.Test.YtigoabhkdipdeaaZBF
namespace Go.Proofs.Ytigoabhkdipdeaa.AM
open Go.RowKit
variable {ρ : Type}

def exOf : Ex → Exit
  | .normal => .normal
  | .ret => .ret
  | .exit i => .exit i

section
variable {P : Program} {G : Cfg} {w0 : Frm} {r : ρ}

/-- What follows is met. -/
def KOk (G : Cfg) (w0 : Frm) (n : Nat) (K : Kt G.U ρ) (r : ρ) (Q : Exit → Act → World → Prop) : Prop :=
  ∀ n', n' ≤ n → ∀ e σ a w, K n' e σ = some r → SR G.U G.ntmps w0 σ a w → Q (exOf e) a w

theorem KOk.mono {n n' : Nat} {K : Kt G.U ρ} {Q : Exit → Act → World → Prop} (h : KOk G w0 n K r Q) (hn : n' ≤ n) : KOk G w0 n' K r Q := fun k hk => h k (Nat.le_trans hk hn)

theorem testBit_edges {bs : List Nat} {p : Nat} : ∀ {es : List Edge}, (edgeBits bs es).testBit p = true → ∃ e ∈ es, Region.binds .any e = true ∧ (e.on = p ∨ (bs.getD e.on 0).testBit p = true)
  | [], h => by simp [edgeBits] at h
  | e :: es, h => by
    simp only [edgeBits, Nat.testBit_or, Bool.or_eq_true] at h
    rcases h with h | h
    · by_cases hb : Region.binds .any e = true
      · rw [if_pos hb, Nat.testBit_or, Bool.or_eq_true, Nat.testBit_two_pow] at h
        exact ⟨e, by simp, hb, h.imp (fun h => of_decide_eq_true h) id⟩
      · rw [if_neg hb] at h
        simp at h
    · obtain ⟨e', he, h⟩ := testBit_edges h
      exact ⟨e', by simp [he], h⟩

theorem edges_testBit {bs : List Nat} {e : Edge} : ∀ {es : List Edge}, e ∈ es → Region.binds .any e = true → (edgeBits bs es).testBit e.on = true
  | e' :: es, h, hb => by
    simp only [edgeBits, Nat.testBit_or, Bool.or_eq_true]
    rcases List.mem_cons.1 h with rfl | h
    · rw [if_pos hb, Nat.testBit_or, Nat.testBit_two_pow]
      simp
    · exact .inr (edges_testBit h hb)

theorem bsOk_at {ops : Array Oper} {bs : List Nat} (h : bsOk ops bs = true) {i : Nat} {o : Oper} (ho : ops[i]? = some o) : bs.getD i 0 = edgeBits bs o.after.toList ∧ ∀ e ∈ o.after, e.on < i := by
  unfold bsOk at h
  rw [List.all_eq_true] at h
  have := h i (List.mem_range.2 (Array.getElem?_eq_some_iff.1 ho).1)
  rw [ho, Bool.and_eq_true] at this
  refine ⟨Nat.eq_of_beq_eq_true this.1, fun e he => Nat.le_of_ble_eq_true (List.all_eq_true.1 this.2 e (by simpa using he))⟩

theorem pairsOk_pw {ops : Array Oper} {ks bs : List Nat} : ∀ {l : List Nat}, pairsOk ops ks bs l = true → l.Pairwise (fun x y => pairOk ops ks bs x y = true ∧ x ≠ y)
  | [], _ => .nil
  | x :: xs, h => by
    simp only [pairsOk, Bool.and_eq_true, List.all_eq_true, Bool.not_eq_true'] at h
    refine .cons (fun y hy => ⟨h.1.1 y hy, ?_⟩) (pairsOk_pw h.2)
    rintro rfl
    have : xs.contains x = true := by simpa using hy
    rw [this] at h
    simp at h

theorem all_in {l : List Nat} {n : Nat} (hnd : l.Nodup) (hlt : ∀ j ∈ l, j < n) (hlen : l.length = n) {j : Nat} (hj : j < n) : j ∈ l := by
  by_cases hm : j ∈ l
  · exact hm
  · have hsub : (j :: l) ⊆ List.range n := fun x hx => by
      rcases List.mem_cons.1 hx with rfl | hx
      · exact List.mem_range.2 hj
      · exact List.mem_range.2 (hlt x hx)
    have := (List.nodup_cons.2 ⟨hm, hnd⟩).length_le_of_subset hsub
    simp at this
    omega

theorem SR.drawn {U : Univ} {N : Nat} {σ : St U.El} {a : Act} {w : World} (h : SR U N w0 σ a w) (k : Nat) : SR U N w0 σ a { w with drawn := k } := by
  obtain ⟨ι, hE, hN, hD, hM, hFr, hPn⟩ := h
  obtain ⟨hg, hM'⟩ := hM.quiet (w' := { w with drawn := k }) (Nat.le_refl _) (fun _ _ => rfl)
  exact ⟨ι, fun t => (hE t).grow hg, hN, hD, hM', ⟨hFr.os, hFr.tape, hFr.output, hFr.size, hFr.block⟩, hPn⟩

theorem any_ok (hF : Fits P G.U G.ti) {con : Nat → Option (Con G.U.El)} (hcon : ∀ f c, con f = some c → ConOk P G.U f c) {n : Nat} {ops : Array Oper} {K : St G.U.El → Option ρ} {Q : Exit → Act → World → Prop} {bs : List Nat}
    (hbs : bsOk ops bs = true) (hpin : w0.pins = G.pins) (hk : ∀ σ' a' w', K σ' = some r → SR G.U G.ntmps w0 σ' a' w' → Q .normal a' w') :
    ∀ (fuel : Nat) (listed : Array Bool) (rest : List Nat) (σ : St G.U.El) (a : Act) (w : World), (∀ j, j ∈ rest ↔ j < ops.size ∧ listed.getD j true = false) → listed.size = ops.size →
      rest.Pairwise (fun x y => pairOk ops (ops.toList.map (opKind G)) bs x y = true ∧ x ≠ y) → (∀ j p, listed.getD j false = true → (bs.getD j 0).testBit p = true → listed.getD p false = true) →
      rest.length ≤ fuel → SR G.U G.ntmps w0 σ a w → (steps G con n ops rest σ).bind K = some r → wpAny P .any ops Q fuel listed a w := by
  intro fuel
  induction fuel with
  | zero =>
    intro listed rest σ a w hmem _ _ _ hlen hσ h
    have hr : rest = [] := List.length_eq_zero_iff.1 (Nat.le_zero.1 hlen)
    subst hr
    refine ⟨List.eq_nil_iff_forall_not_mem.2 fun j hj => ?_, hk σ a w h hσ⟩
    obtain ⟨h0, o, ho, _⟩ := mem_ready.1 hj
    have := (hmem j).2 ⟨(Array.getElem?_eq_some_iff.1 ho).1, h0⟩
    simp at this
  | succ fuel ih =>
    intro listed rest σ a w hmem hsize hpw hcl hlen hσ h
    have hlisted : ∀ j, j < ops.size → j ∉ rest → listed.getD j false = true := fun j hj hn => by
      cases hb : listed.getD j true with
      | false => exact absurd ((hmem j).2 ⟨hj, hb⟩) hn
      | true =>
        have hlt : j < listed.size := hsize ▸ hj
        simpa [hlt] using hb
    have hunl : ∀ j, j ∈ rest → listed.getD j false = false := fun j hj => by
      obtain ⟨hlt, hb⟩ := (hmem j).1 hj
      have hlt : j < listed.size := hsize ▸ hlt
      simpa [hlt] using hb
    constructor
    · intro hr
      cases rest with
      | nil => exact hk σ a w h hσ
      | cons x xs =>
        exfalso
        obtain ⟨hx, hx0⟩ := (hmem x).1 (by simp)
        have ho : ops[x]? = some ops[x] := by simp [hx]
        have hready : x ∈ Region.ready .any ops listed := by
          refine mem_ready.2 ⟨hx0, _, ho, fun e he hb => ?_⟩
          obtain ⟨h1, h2⟩ := bsOk_at hbs ho
          have hlt := h2 e he
          refine hlisted _ (by omega) fun hm => ?_
          rcases List.mem_cons.1 hm with hex | hm
          · omega
          · have := (List.rel_of_pairwise_cons hpw hm).1
            unfold pairOk at this
            rw [h1, edges_testBit (by simpa using he) hb] at this
            simp at this
        rw [hr] at hready
        simp at hready
    · intro i hi
      obtain ⟨hi0, o, ho, hall⟩ := mem_ready.1 hi
      have hilt : i < ops.size := (Array.getElem?_eq_some_iff.1 ho).1
      obtain ⟨hbi, _⟩ := bsOk_at hbs ho
      have hbits : ∀ p, (bs.getD i 0).testBit p = true → listed.getD p false = true := fun p hp => by
        rw [hbi] at hp
        obtain ⟨e, he, hb, hp⟩ := testBit_edges hp
        have hl := hall e (by simpa using he) hb
        rcases hp with rfl | hp
        · exact hl
        · exact hcl _ _ hl hp
      obtain ⟨pre, post, hrest⟩ := List.append_of_mem ((hmem i).2 ⟨hilt, hi0⟩)
      subst hrest
      have hfree : ∀ p ∈ pre, Free G ops p i := fun p hp => by
        have h1 := ((List.pairwise_append.1 hpw).2.2 p hp i (by simp)).1
        have hunp := hunl p (by simp [hp])
        unfold pairOk at h1
        simp only [Bool.and_eq_true, Bool.or_eq_true] at h1
        obtain ⟨_, h1 | ⟨h1, h2⟩⟩ := h1
        · rw [hbits p h1] at hunp
          cases hunp
        · split at h2
          · rename_i a' b' ha hb
            refine ⟨a', b', ha, hb, ?_, ?_, h2⟩
            · have := Nat.le_of_ble_eq_true h1.1
              simpa [List.getD, ha] using this
            · refine h1.2.imp (fun h => ?_) fun h => ?_
              · simpa [List.getD, ha] using h
              · have := Nat.le_of_ble_eq_true h
                simpa [List.getD, hb] using this
          · cases h2
      obtain ⟨σe, h3, h4⟩ := Option.bind_eq_some_iff.1 h
      have h5 := steps_front hfree h3
      simp only [steps, Array.getElem?_toList, ho] at h5
      obtain ⟨σ1, h6, h7⟩ := Option.bind_eq_some_iff.1 h5
      have hrun : aOper G con n ops.toList o σ (fun σ1 => (steps G con n ops (pre ++ post) σ1).bind K) = some r := by
        rw [aOper_nat, h6, Option.bind_some, h7]
        exact h4
      unfold wpOp
      rw [ho]
      refine aOper_ok hF hcon hσ hpin hrun fun σ' a' w' h8 h9 => ?_
      have hnd : (pre ++ i :: post).Nodup := hpw.imp fun h => h.2
      refine ih (listed.setIfInBounds i true) (pre ++ post) σ' a' w' (fun j => ?_) (by simpa using hsize) (hpw.sublist (List.Sublist.append_left (List.sublist_cons_self _ _) _)) (fun j p hj hp => ?_) (by simp at hlen ⊢; omega) h9 h8
      · by_cases hji : j = i
        · subst hji
          have hnot : j ∉ pre ++ post := by
            rw [List.nodup_append] at hnd
            intro hm
            rcases List.mem_append.1 hm with hm | hm
            · exact hnd.2.2 j hm j (by simp) rfl
            · exact (List.nodup_cons.1 hnd.2.1).1 hm
          have hlt : j < listed.size := hsize ▸ hilt
          simp only [hnot, false_iff]
          simp [hlt]
        · rw [getD_set_ne true (Ne.symm hji), ← hmem j]
          simp [hji]
      · by_cases hji : j = i
        · subst hji
          exact getD_set_true (hbits p hp)
        · rw [getD_set_ne false (Ne.symm hji)] at hj
          exact getD_set_true (hcl j p hj hp)

theorem aRegion_ok (hF : Fits P G.U G.ti) {con : Nat → Option (Con G.U.El)} (hcon : ∀ f c, con f = some c → ConOk P G.U f c) {n id : Nat} {ops : Array Oper} {draw : Bool} {K : St G.U.El → Option ρ} {Q : Exit → Act → World → Prop} {is : List Nat}
    (ho : regionOrder G ops draw = some is) {σ : St G.U.El} {a : Act} {w : World} (hσ : SR G.U G.ntmps w0 σ a w) (hpin : w0.pins = G.pins) (h : aOps G con n ops.toList is σ K = some r) (hk : ∀ σ' a' w', K σ' = some r → SR G.U G.ntmps w0 σ' a' w' → Q .normal a' w') :
    (Code.region id ops draw).wp P Q a w := by
  cases draw with
  | false =>
    simp only [regionOrder, Bool.false_eq_true, if_false, Option.some.injEq] at ho
    subst ho
    exact wp_region (aOps_ok hF hcon hpin hk hσ h)
  | true =>
    simp only [regionOrder, if_true] at ho
    split at ho
    · rename_i hc
      cases ho
      simp only [Bool.and_eq_true, decide_eq_true_eq] at hc
      obtain ⟨⟨⟨h1, h2⟩, h3⟩, h4⟩ := hc
      rw [aOps_steps] at h
      have hpw := pairsOk_pw h2
      have hlt := fun (j : Nat) hj => (Nat.le_of_ble_eq_true (List.all_eq_true.1 h3 j hj) : j < ops.size)
      refine wp_region_any hF.mixed (any_ok hF hcon h4 hpin hk ops.size _ _ σ a _ (fun j => ?_) (by simp) hpw (fun j p hj => ?_) (Nat.le_of_eq h1) (hσ.drawn _) h)
      · constructor
        · intro hj
          have hj' : j < ops.size := hlt j hj
          refine ⟨hj', ?_⟩
          simp only [Array.getD_eq_getD_getElem?, Array.getElem?_replicate, if_pos hj', Option.getD_some]
        · intro hj
          exact all_in (hpw.imp fun h => h.2) hlt h1 hj.1
      · exfalso
        by_cases hjs : j < ops.size <;> simp [hjs] at hj
    · cases ho

theorem aev_ok (hF : Fits P G.U G.ti) {con : Nat → Nat → Option (Con G.U.El)} (hcon : ∀ n f c, con n f = some c → ConOk P G.U f c) {L : Nat → Option (LoopC G.U.El ρ)} (hpin : w0.pins = G.pins) (c : Code) :
    ∀ (k n : Nat) (σ : St G.U.El) (K : Kt G.U ρ) (Q : Exit → Act → World → Prop) (a : Act) (w : World), loopsOk G con L c k K → aev G con L c k n σ K = some r → SR G.U G.ntmps w0 σ a w → KOk G w0 n K r Q → c.wp P Q a w := by
  induction c with
  | skip => exact fun k n σ K Q a w _ h hσ hK => wp_skip (hK n (Nat.le_refl _) .normal σ a w h hσ)
  | region id ops draw =>
    intro k n σ K Q a w hl h hσ hK
    have run : ∀ {σ : St G.U.El}, aRegion G con ops draw n σ K = some r → SR G.U G.ntmps w0 σ a w → (Code.region id ops draw).wp P Q a w := fun {σ} h hσ => by
      unfold aRegion at h
      split at h
      · rename_i is ho
        exact aRegion_ok hF (hcon n) ho hσ hpin h fun σ' a' w' h1 h2 => hK n (Nat.le_refl _) .normal σ' a' w' h1 h2
      · cases h
    have hl' : ∀ c, L (2 * id + 1) = some c → ∀ n x r, c.l n x = some r → aRegion G con ops draw n (c.shape.enc x) K = some r := hl
    have h' : (match L (2 * id + 1) with | some _ => headOf G L (2 * id + 1) n σ | none => aRegion G con ops draw n σ K) = some r := h
    split at h'
    · rename_i c hc
      unfold headOf at h'
      rw [hc] at h'
      obtain ⟨x, h3, h4⟩ := Option.bind_eq_some_iff.1 h'
      exact run (hl' c hc n x r h4) (dec_SR hσ h3)
    · exact run h' hσ
  | seq x y ihx ihy =>
    intro k n σ K Q a w hl h hσ hK
    refine wp_seq (ihx k n σ _ _ a w hl.1 h hσ ?_)
    intro n' hn e σ' a' w' h1 h2
    cases e with
    | normal => exact ihy k n' σ' K Q a' w' hl.2 h1 h2 (hK.mono hn)
    | ret => exact hK n' hn .ret σ' a' w' h1 h2
    | exit i => exact hK n' hn (.exit i) σ' a' w' h1 h2
  | cond c x y ihx ihy =>
    intro k n σ K Q a w hl h hσ hK
    simp only [aev] at h
    split at h
    · rename_i t ht
      have hσ' := hσ
      obtain ⟨ι, hE, _⟩ := hσ'
      have hv := opv_ok hE c
      rw [ht] at hv
      have hc := vr_sc hv
      rcases cond_some.1 h with ⟨rfl, h⟩ | ⟨rfl, h⟩
      · exact wp_cond_true hc (ihx k n σ K Q a w hl.1 h hσ hK)
      · exact wp_cond_false hc (ihy k n σ K Q a w hl.2 h hσ hK)
    · cases h
  | block id c ih =>
    intro k n σ K Q a w hl h hσ hK
    refine wp_block (ih id n σ _ _ a w hl h hσ ?_)
    intro n' hn e σ' a' w' h1 h2
    cases e with
    | normal => exact hK n' hn .normal σ' a' w' h1 h2
    | ret => exact hK n' hn .ret σ' a' w' h1 h2
    | exit i =>
      simp only [exOf, Exit.inBlock]
      rcases cond_some.1 h1 with ⟨hb, h1⟩ | ⟨hb, h1⟩
      · rw [if_pos (Nat.eq_of_beq_eq_true hb)]
        exact hK n' hn .normal σ' a' w' h1 h2
      · rw [if_neg (Nat.ne_of_beq_eq_false hb)]
        exact hK n' hn (.exit i) σ' a' w' h1 h2
  | loop body ih =>
    intro k n σ K Q a w hl h hσ hK
    change headOf G L (2 * k) n σ = some r at h
    obtain ⟨hl1, hl2⟩ := hl
    have head : ∀ {n' : Nat} {σ' : St G.U.El} {a' : Act} {w' : World}, headOf G L (2 * k) n' σ' = some r → SR G.U G.ntmps w0 σ' a' w' → ∃ c x, L (2 * k) = some c ∧ c.l n' x = some r ∧ SR G.U G.ntmps w0 (c.shape.enc x) a' w' := by
      intro n' σ' a' w' h1 h2
      unfold headOf at h1
      split at h1
      · rename_i c hc
        obtain ⟨x, h3, h4⟩ := Option.bind_eq_some_iff.1 h1
        exact ⟨c, x, hc, h4, dec_SR h2 h3⟩
      · cases h1
    refine wp_loop_ghost (fun j a w => j ≤ n ∧ ∃ c x, L (2 * k) = some c ∧ c.l j x = some r ∧ SR G.U G.ntmps w0 (c.shape.enc x) a w) n ⟨Nat.le_refl _, head h hσ⟩ ?_
    rintro j a' w' ⟨hj, c, x, hc, hx, hs⟩
    obtain ⟨h0, hstep⟩ := hl1 c hc
    cases j with
    | zero => rw [h0 x] at hx; cases hx
    | succ j =>
      refine ih k j _ _ _ a' w' hl2 (hstep j x r hx) hs ?_
      intro n' hn e σ' a'' w'' h1 h2
      cases e with
      | normal => exact ⟨n', by omega, by omega, head h1 h2⟩
      | ret => exact hK n' (by omega) .ret σ' a'' w'' h1 h2
      | exit i => exact hK n' (by omega) (.exit i) σ' a'' w'' h1 h2
  | exit id => exact fun k n σ K Q a w _ h hσ hK => wp_exit (hK n (Nat.le_refl _) (.exit id) σ a w h hσ)
  | ret => exact fun k n σ K Q a w _ h hσ hK => wp_ret (hK n (Nat.le_refl _) .ret σ a w h hσ)
  | rangeFunc => intro k n σ K Q a w _ h; cases h
  | scope => intro k n σ K Q a w _ h; cases h
  | label => intro k n σ K Q a w _ h; cases h
  | goto => intro k n σ K Q a w _ h; cases h
  | refuse => intro k n σ K Q a w _ h; cases h
end
end Go.Proofs.Ytigoabhkdipdeaa.AM
