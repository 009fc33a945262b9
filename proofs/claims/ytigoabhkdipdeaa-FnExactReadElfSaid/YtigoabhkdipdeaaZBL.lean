/- A part of the plain reading of Go's code: what a function's code comes to, by a plain function. No condition. -/
import Derived.Test.YtigoabhkdipdeaaZBH
namespace Go.Proofs.Ytigoabhkdipdeaa.AM
open Go.RowKit
variable {ρ : Type}

/-! A region whose two makers of blocks may stand either way: both orders come to the same. -/
def pairOkX (x y : Nat) (ops : Array Oper) (ks bs : List Nat) (i j : Nat) : Bool := pairOk ops ks bs i j || (Nat.beq i x && (Nat.beq j y || (bs.getD j 0).testBit y) && !(bs.getD x 0).testBit j)
def pairsOkX (x y : Nat) (ops : Array Oper) (ks bs : List Nat) : List Nat → Bool
  | [] => true
  | i :: is => is.all (pairOkX x y ops ks bs i) && !is.contains i && pairsOkX x y ops ks bs is

theorem pairsOkX_pw {x y : Nat} {ops : Array Oper} {ks bs : List Nat} : ∀ {l : List Nat}, pairsOkX x y ops ks bs l = true → l.Pairwise (fun i j => pairOkX x y ops ks bs i j = true ∧ i ≠ j)
  | [], _ => .nil
  | i :: is, h => by
    simp only [pairsOkX, Bool.and_eq_true, List.all_eq_true, Bool.not_eq_true'] at h
    refine .cons (fun j hj => ⟨h.1.1 j hj, ?_⟩) (pairsOkX_pw h.2)
    rintro rfl
    have : is.contains i = true := by simpa using hj
    rw [this] at h
    simp at h

section
variable {P : Program} {G : Cfg} {w0 : Frm} {r : ρ}

theorem pairOk_free {ops : Array Oper} {bs : List Nat} {p i : Nat} {listed : Array Bool} (h1 : pairOk ops (ops.toList.map (opKind G)) bs p i = true) (hbits : ∀ p, (bs.getD i 0).testBit p = true → listed.getD p false = true) (hunp : listed.getD p false = false) : Free G ops p i := by
  unfold pairOk at h1
  simp only [Bool.and_eq_true, Bool.or_eq_true] at h1
  obtain ⟨_, h1 | ⟨h1, h2⟩⟩ := h1
  · rw [hbits p h1] at hunp
    cases hunp
  · split at h2
    · rename_i a' b' ha hb
      refine ⟨a', b', ha, hb, ?_, ?_, h2⟩
      · have := Nat.le_of_ble_eq_true h1.1
        simpa [List.getD, ha] using this
      · refine h1.2.imp (fun h => ?_) fun h => ?_
        · simpa [List.getD, ha] using h
        · have := Nat.le_of_ble_eq_true h
          simpa [List.getD, hb] using this
    · cases h2

theorem front {con : Nat → Option (Con G.U.El)} {n : Nat} {ops : Array Oper} {K : St G.U.El → Option ρ} {i : Nat} {o : Oper} (ho : ops[i]? = some o) {pre post : List Nat} (hfree : ∀ p ∈ pre, Free G ops p i) {σ : St G.U.El}
    (h : (steps G con n ops (pre ++ i :: post) σ).bind K = some r) : ∃ σ1, step G con n ops.toList o σ = some σ1 ∧ (steps G con n ops (pre ++ post) σ1).bind K = some r := by
  obtain ⟨σe, h3, h4⟩ := Option.bind_eq_some_iff.1 h
  have h5 := steps_front hfree h3
  simp only [steps, Array.getElem?_toList, ho] at h5
  obtain ⟨σ1, h6, h7⟩ := Option.bind_eq_some_iff.1 h5
  exact ⟨σ1, h6, by rw [h7]; exact h4⟩

/-- What remains when an operation is done. -/
theorem mem_next {ops : Array Oper} {listed : Array Bool} {i : Nat} {pre post : List Nat} (hsize : listed.size = ops.size) (hilt : i < ops.size) (hnd : (pre ++ i :: post).Nodup) (hmem : ∀ j, j ∈ pre ++ i :: post ↔ j < ops.size ∧ listed.getD j true = false) (j : Nat) :
    j ∈ pre ++ post ↔ j < ops.size ∧ (listed.setIfInBounds i true).getD j true = false := by
  by_cases hji : j = i
  · subst hji
    have hnot : j ∉ pre ++ post := by
      rw [List.nodup_append] at hnd
      intro hm
      rcases List.mem_append.1 hm with hm | hm
      · exact hnd.2.2 j hm j (by simp) rfl
      · exact (List.nodup_cons.1 hnd.2.1).1 hm
    have hlt : j < listed.size := hsize ▸ hilt
    simp only [hnot, false_iff]
    simp [hlt]
  · rw [getD_set_ne true (Ne.symm hji), ← hmem j]
    simp [hji]

theorem cl_next {bs : List Nat} {listed : Array Bool} {i : Nat} (hbits : ∀ p, (bs.getD i 0).testBit p = true → listed.getD p false = true) (hcl : ∀ j p, listed.getD j false = true → (bs.getD j 0).testBit p = true → listed.getD p false = true) (j p : Nat)
    (hj : (listed.setIfInBounds i true).getD j false = true) (hp : (bs.getD j 0).testBit p = true) : (listed.setIfInBounds i true).getD p false = true := by
  by_cases hji : j = i
  · subst hji
    exact getD_set_true (hbits p hp)
  · rw [getD_set_ne false (Ne.symm hji)] at hj
    exact getD_set_true (hcl j p hj hp)

theorem pw_drop {x y : Nat} {ops : Array Oper} {ks bs : List Nat} {l : List Nat} (h : l.Pairwise fun i j => pairOkX x y ops ks bs i j = true ∧ i ≠ j) (hn : x ∉ l) : l.Pairwise fun i j => pairOk ops ks bs i j = true ∧ i ≠ j := by
  refine h.imp_of_mem fun {i j} hi hj ⟨h1, h2⟩ => ⟨?_, h2⟩
  unfold pairOkX at h1
  rw [Bool.or_eq_true] at h1
  rcases h1 with h1 | h1
  · exact h1
  · simp only [Bool.and_eq_true] at h1
    exact absurd (Nat.eq_of_beq_eq_true h1.1.1 ▸ hi) hn

theorem any2_ok (hF : Fits P G.U G.ti) {con : Nat → Option (Con G.U.El)} (hcon : ∀ f c, con f = some c → ConOk P G.U f c) {n : Nat} {ops : Array Oper} {K : St G.U.El → Option ρ} {Q : Exit → Act → World → Prop} {bs : List Nat}
    (hbs : bsOk ops bs = true) (hpin : w0.pins = G.pins) (hk : ∀ σ' a' w', K σ' = some r → SR G.U G.ntmps w0 σ' a' w' → Q .normal a' w') (x y : Nat) (hxy : x ≠ y) :
    ∀ (fuel : Nat) (listed : Array Bool) (ra rb : List Nat) (σ : St G.U.El) (a : Act) (w : World), (∀ j, j ∈ ra ↔ j < ops.size ∧ listed.getD j true = false) → (∀ j, j ∈ rb ↔ j < ops.size ∧ listed.getD j true = false) → listed.size = ops.size →
      ra.Pairwise (fun i j => pairOkX x y ops (ops.toList.map (opKind G)) bs i j = true ∧ i ≠ j) → rb.Pairwise (fun i j => pairOkX y x ops (ops.toList.map (opKind G)) bs i j = true ∧ i ≠ j) →
      (∀ j p, listed.getD j false = true → (bs.getD j 0).testBit p = true → listed.getD p false = true) →
      ra.length ≤ fuel → rb.length ≤ fuel → x ∈ ra → y ∈ ra → SR G.U G.ntmps w0 σ a w → (steps G con n ops ra σ).bind K = some r → (steps G con n ops rb σ).bind K = some r → wpAny P .any ops Q fuel listed a w := by
  intro fuel
  induction fuel with
  | zero =>
    intro listed ra rb σ a w _ _ _ _ _ _ hlen _ hx _ _ _ _
    rw [List.length_eq_zero_iff.1 (Nat.le_zero.1 hlen)] at hx
    cases hx
  | succ fuel ih =>
    intro listed ra rb σ a w hma hmb hsize hpa hpb hcl hla hlb hx hyr hσ hA hB
    have hlisted : ∀ j, j < ops.size → j ∉ ra → listed.getD j false = true := fun j hj hn => by
      cases hb : listed.getD j true with
      | false => exact absurd ((hma j).2 ⟨hj, hb⟩) hn
      | true =>
        have hlt : j < listed.size := hsize ▸ hj
        simpa [hlt] using hb
    have hunl : ∀ j, j ∈ ra → listed.getD j false = false := fun j hj => by
      obtain ⟨hlt, hb⟩ := (hma j).1 hj
      have hlt : j < listed.size := hsize ▸ hlt
      simpa [hlt] using hb
    have hab : ∀ j, j ∈ rb → j ∈ ra := fun j hj => (hma j).2 ((hmb j).1 hj)
    constructor
    · intro hr
      cases ra with
      | nil => cases hx
      | cons z zs =>
        exfalso
        obtain ⟨hz, hz0⟩ := (hma z).1 (by simp)
        have ho : ops[z]? = some ops[z] := by simp [hz]
        have hready : z ∈ Region.ready .any ops listed := by
          refine mem_ready.2 ⟨hz0, _, ho, fun e he hb => ?_⟩
          obtain ⟨h1, h2⟩ := bsOk_at hbs ho
          have hlt := h2 e he
          refine hlisted _ (by omega) fun hm => ?_
          rcases List.mem_cons.1 hm with hex | hm
          · omega
          · have := (List.rel_of_pairwise_cons hpa hm).1
            have hbit : (bs.getD z 0).testBit e.on = true := by rw [h1]; exact edges_testBit (by simpa using he) hb
            unfold pairOkX pairOk at this
            simp only [Bool.or_eq_true, Bool.and_eq_true, Bool.not_eq_true'] at this
            rcases this with this | this
            · rw [hbit] at this
              cases this.1
            · have hzx := Nat.eq_of_beq_eq_true this.1.1
              rw [← hzx, hbit] at this
              cases this.2
        rw [hr] at hready
        simp at hready
    · intro i hi
      obtain ⟨hi0, o, ho, hall⟩ := mem_ready.1 hi
      have hilt : i < ops.size := (Array.getElem?_eq_some_iff.1 ho).1
      obtain ⟨hbi, _⟩ := bsOk_at hbs ho
      have hbits : ∀ p, (bs.getD i 0).testBit p = true → listed.getD p false = true := fun p hp => by
        rw [hbi] at hp
        obtain ⟨e, he, hb, hp⟩ := testBit_edges hp
        have hl := hall e (by simpa using he) hb
        rcases hp with rfl | hp
        · exact hl
        · exact hcl _ _ hl hp
      obtain ⟨pa, qa, hra⟩ := List.append_of_mem ((hma i).2 ⟨hilt, hi0⟩)
      obtain ⟨pb, qb, hrb⟩ := List.append_of_mem ((hmb i).2 ⟨hilt, hi0⟩)
      subst hra
      subst hrb
      have hna : (pa ++ i :: qa).Nodup := hpa.imp fun h => h.2
      have hnb : (pb ++ i :: qb).Nodup := hpb.imp fun h => h.2
      have fa : i ≠ y → ∀ p ∈ pa, Free G ops p i := fun hiy p hp => by
        have h1 := ((List.pairwise_append.1 hpa).2.2 p hp i (by simp)).1
        unfold pairOkX at h1
        rw [Bool.or_eq_true] at h1
        rcases h1 with h1 | h1
        · exact pairOk_free h1 hbits (hunl p (by simp [hp]))
        · simp only [Bool.and_eq_true, Bool.or_eq_true] at h1
          rcases h1.1.2 with h | h
          · exact absurd (Nat.eq_of_beq_eq_true h) hiy
          · have h2 := hbits _ h
            rw [hunl _ hyr] at h2
            cases h2
      have fb : i ≠ x → ∀ p ∈ pb, Free G ops p i := fun hix p hp => by
        have h1 := ((List.pairwise_append.1 hpb).2.2 p hp i (by simp)).1
        unfold pairOkX at h1
        rw [Bool.or_eq_true] at h1
        rcases h1 with h1 | h1
        · exact pairOk_free h1 hbits (hunl p (hab p (by simp [hp])))
        · simp only [Bool.and_eq_true, Bool.or_eq_true] at h1
          rcases h1.1.2 with h | h
          · exact absurd (Nat.eq_of_beq_eq_true h) hix
          · have h2 := hbits _ h
            rw [hunl _ hx] at h2
            cases h2
      have sa : (pa ++ qa).Sublist (pa ++ i :: qa) := List.Sublist.append_left (List.sublist_cons_self _ _) _
      have sb : (pb ++ qb).Sublist (pb ++ i :: qb) := List.Sublist.append_left (List.sublist_cons_self _ _) _
      have ma := mem_next hsize hilt hna hma
      have mb := mem_next hsize hilt hnb hmb
      have la : (pa ++ qa).length ≤ fuel := by simp at hla ⊢; omega
      have lb : (pb ++ qb).length ≤ fuel := by simp at hlb ⊢; omega
      have hia : i ∉ pa ++ qa := fun hm => by
        have := (ma i).1 hm
        have hlt : i < listed.size := hsize ▸ hilt
        simp [hlt] at this
      have hib : i ∉ pb ++ qb := fun hm => hia ((ma i).2 ((mb i).1 hm))
      have go : ∀ {σ1 : St G.U.El}, step G con n ops.toList o σ = some σ1 → (∀ a' w', SR G.U G.ntmps w0 σ1 a' w' → wpAny P .any ops Q fuel (listed.setIfInBounds i true) a' w') → wpOp P ops Q i (wpAny P .any ops Q fuel (listed.setIfInBounds i true)) a w := by
        intro σ1 hs hn
        unfold wpOp
        rw [ho]
        have hrun : aOper G con n ops.toList o σ (fun σ' => some σ') = some σ1 := by
          rw [aOper_nat, hs]
          rfl
        refine aOper_ok hF hcon hσ hpin hrun fun σ' a' w' h8 h9 => ?_
        cases h8
        exact hn a' w' h9
      by_cases hiy : i = y
      · by_cases hix : i = x
        · exact absurd (hix.symm.trans hiy) hxy
        · obtain ⟨σ1, h1, h2⟩ := front ho (fb hix) hB
          exact go h1 fun a' w' hs => any_ok hF hcon hbs hpin hk fuel _ (pb ++ qb) σ1 a' w' mb (by simpa using hsize) (pw_drop (hpb.sublist sb) (hiy ▸ hib)) (cl_next hbits hcl) lb hs h2
      · obtain ⟨σ1, h1, h2⟩ := front ho (fa hiy) hA
        by_cases hix : i = x
        · exact go h1 fun a' w' hs => any_ok hF hcon hbs hpin hk fuel _ (pa ++ qa) σ1 a' w' ma (by simpa using hsize) (pw_drop (hpa.sublist sa) (hix ▸ hia)) (cl_next hbits hcl) la hs h2
        · obtain ⟨σ2, h3, h4⟩ := front ho (fb hix) hB
          have : σ2 = σ1 := Option.some.inj (h3.symm.trans h1)
          subst this
          refine go h1 fun a' w' hs => ih _ (pa ++ qa) (pb ++ qb) σ2 a' w' ma mb (by simpa using hsize) (hpa.sublist sa) (hpb.sublist sb) (cl_next hbits hcl) la lb ?_ ?_ hs h2 h4
          · have hx' : x ∈ pa ++ i :: qa := hx
            simp only [List.mem_append, List.mem_cons] at hx' ⊢
            rcases hx' with h | h | h
            · exact .inl h
            · exact absurd h.symm hix
            · exact .inr h
          · have hy' : y ∈ pa ++ i :: qa := hyr
            simp only [List.mem_append, List.mem_cons] at hy' ⊢
            rcases hy' with h | h | h
            · exact .inl h
            · exact absurd h.symm hiy
            · exact .inr h

def check2 (G : Cfg) (ops : Array Oper) (x y : Nat) (A B : List Nat) : Bool :=
  let ks := ops.toList.map (opKind G)
  let bs := (Region.before ops).toList
  Nat.beq A.length ops.size && Nat.beq B.length ops.size && pairsOkX x y ops ks bs A && pairsOkX y x ops ks bs B && A.all (Nat.blt · ops.size) && B.all (Nat.blt · ops.size) && bsOk ops bs && A.contains x && A.contains y && !Nat.beq x y

/-- A region that draws, by two orders of its operations. -/
theorem region2_ok (hF : Fits P G.U G.ti) {con : Nat → Option (Con G.U.El)} (hcon : ∀ f c, con f = some c → ConOk P G.U f c) {n id : Nat} {ops : Array Oper} {K : St G.U.El → Option ρ} {Q : Exit → Act → World → Prop} (x y : Nat) (A B : List Nat)
    (hc : check2 G ops x y A B = true) {σ : St G.U.El} {a : Act} {w : World} (hσ : SR G.U G.ntmps w0 σ a w) (hpin : w0.pins = G.pins) (hA : aOps G con n ops.toList A σ K = some r) (hB : aOps G con n ops.toList B σ K = some r)
    (hk : ∀ σ' a' w', K σ' = some r → SR G.U G.ntmps w0 σ' a' w' → Q .normal a' w') : (Code.region id ops true).wp P Q a w := by
  unfold check2 at hc
  simp only [Bool.and_eq_true, Bool.not_eq_true'] at hc
  obtain ⟨⟨⟨⟨⟨⟨⟨⟨⟨h1, h2⟩, h3⟩, h4⟩, h5⟩, h6⟩, h7⟩, h8⟩, h8'⟩, h9⟩ := hc
  have h1 := Nat.eq_of_beq_eq_true h1
  have h2 := Nat.eq_of_beq_eq_true h2
  rw [aOps_steps] at hA hB
  have pa := pairsOkX_pw h3
  have pb := pairsOkX_pw h4
  have la := fun (j : Nat) hj => (Nat.le_of_ble_eq_true (List.all_eq_true.1 h5 j hj) : j < ops.size)
  have lb := fun (j : Nat) hj => (Nat.le_of_ble_eq_true (List.all_eq_true.1 h6 j hj) : j < ops.size)
  have mem : ∀ {l : List Nat}, (∀ j ∈ l, j < ops.size) → l.Nodup → l.length = ops.size → ∀ j, j ∈ l ↔ j < ops.size ∧ (Array.replicate ops.size false).getD j true = false := by
    intro l hl hn hlen j
    constructor
    · intro hj
      have hj' : j < ops.size := hl j hj
      refine ⟨hj', ?_⟩
      simp only [Array.getD_eq_getD_getElem?, Array.getElem?_replicate, if_pos hj', Option.getD_some]
    · intro hj
      exact all_in hn hl hlen hj.1
  refine wp_region_any hF.mixed (any2_ok hF hcon h7 hpin hk x y (Nat.ne_of_beq_eq_false h9) ops.size _ A B σ a _ (mem la (pa.imp fun h => h.2) h1) (mem lb (pb.imp fun h => h.2) h2) (by simp) pa pb (fun j p hj => ?_) (Nat.le_of_eq h1) (Nat.le_of_eq h2) (by simpa using h8) (by simpa using h8') (hσ.drawn _) hA hB)
  exfalso
  by_cases hjs : j < ops.size <;> simp [hjs] at hj

/-- What a code leaves, if it ends as one does. -/
noncomputable def leaves (G : Cfg) (con : Nat → Nat → Option (Con G.U.El)) (c : Code) (n : Nat) (σ : St G.U.El) : Option (Nat × Ex × St G.U.El) := aev G con (fun _ => none) c 0 n σ fun n e σ => some (n, e, σ)
noncomputable def left0 (G : Cfg) (con : Nat → Nat → Option (Con G.U.El)) (c : Code) (n : Nat) (σ : St G.U.El) : St G.U.El := match leaves G con c n σ with
  | some p => p.2.2
  | none => σ
noncomputable def byOrder (G : Cfg) (con : Nat → Nat → Option (Con G.U.El)) (fn : Func) (ins outs : List AS) (R0 : Code) (ops : Array Oper) (A : List Nat) (rest : Code) (n : Nat) (x : ASs G.U.El ins) : Option (Os G.U.El (outs ++ bkSs ins)) :=
  aOps G (con n) n ops.toList A (left0 G con R0 n (startOf G ins x)) fun σ => aev G con (fun _ => none) rest 0 n σ (kEnd G fn ins outs)

/-- A function without loops whose second region has two makers of blocks that may stand either way. -/
theorem fun2_ok {P : Program} {U : Univ} {ti : Nat → Option TI} {own : List Nat} {N : Nat} {ios pins : List Nat} (hF : Fits P U ti) {cs : List (Nat × Con U.El)} (hcs : ConsOk P U cs) {f : Nat} {fn : Func} (hf : P.funcs[f % 65536]? = some fn) {ins outs : List AS} {plain : Nat → ASs U.El ins → Option (Os U.El (outs ++ bkSs ins))}
    (hb : fnB ⟨U, ti, own, N, ios, pins⟩ fn ins = true) {R0 rest : Code} {id : Nat} {ops : Array Oper} (hbody : fn.body = some (R0.seq ((Code.region id ops true).seq rest))) (x y : Nat) (A B : List Nat) (hc : check2 ⟨U, ti, own, N, ios, pins⟩ ops x y A B = true)
    (l0 : sides (ρ := Nat × Ex × St U.El) ⟨U, ti, own, N, ios, pins⟩ (fun _ => lk cs) (fun _ => none) R0 0 (fun n e σ => some (n, e, σ)) = [])
    (l1 : sides ⟨U, ti, own, N, ios, pins⟩ (fun _ => lk cs) (fun _ => none) rest 0 (kEnd ⟨U, ti, own, N, ios, pins⟩ fn ins outs) = [])
    (h0 : (fun n x => leaves ⟨U, ti, own, N, ios, pins⟩ (fun _ => lk cs) R0 n (startOf ⟨U, ti, own, N, ios, pins⟩ ins x)) = fun n x => some (n, .normal, left0 ⟨U, ti, own, N, ios, pins⟩ (fun _ => lk cs) R0 n (startOf ⟨U, ti, own, N, ios, pins⟩ ins x)))
    (hA : plain = byOrder ⟨U, ti, own, N, ios, pins⟩ (fun _ => lk cs) fn ins outs R0 ops A rest) (hB : plain = byOrder ⟨U, ti, own, N, ios, pins⟩ (fun _ => lk cs) fn ins outs R0 ops B rest) : ConOk P U f ⟨ins, outs, plain⟩ := by
  unfold fnB at hb
  simp only [Bool.and_eq_true, Bool.not_eq_true'] at hb
  obtain ⟨⟨⟨h1, h2⟩, h3⟩, h4⟩ := hb
  have hn := Nat.eq_of_beq_eq_true h3
  have hl := Nat.le_of_ble_eq_true h4
  refine ⟨⟨fn, hf, h2, by simp [hbody]⟩, fun n z yy hy D S ι vs w hS hSD hv hM => ?_⟩
  have hlen := encIs_len1 (G := ⟨U, ti, own, N, ios, pins⟩) ins z []
  have hlv : (encIs ins z []).1.length = vs.length := (VsR.get (G := ⟨U, ti, own, N, ios, pins⟩) hv).1
  let F : Frm := ⟨w, D, S, pins, fun i => vs.getD i undef, hS, hSD⟩
  have hs := start_SR (G := ⟨U, ti, own, N, ios, pins⟩) encIs_len1 F rfl rfl hv hM (by show vs.length ≤ N; have h4' : ins.length ≤ N := hl; omega)
  refine calls_of_wp hf hbody ?_
  rw [← hn]
  have e0 := congrFun (congrFun h0 n) z
  refine wp_seq (aev_ok (G := ⟨U, ti, own, N, ios, pins⟩) (w0 := F) (L := fun _ => none) hF (fun _ => consOk hcs) rfl R0 0 n _ _ _ _ w (loopsOk_of R0 0 _ (by rw [l0]; intro s hs; cases hs)) e0 hs ?_)
  intro n' hn' e σ a w' h5 h6
  cases h5
  refine wp_seq (region2_ok (G := ⟨U, ti, own, N, ios, pins⟩) (w0 := F) hF (consOk hcs) x y A B hc h6 rfl (n := n) (K := fun σ => aev ⟨U, ti, own, N, ios, pins⟩ (fun _ => lk cs) (fun _ => none) rest 0 n σ (kEnd ⟨U, ti, own, N, ios, pins⟩ fn ins outs)) (by rw [hA] at hy; exact hy) (by rw [hB] at hy; exact hy) ?_)
  intro σ' a' w'' h7 h8
  refine aev_ok (G := ⟨U, ti, own, N, ios, pins⟩) (w0 := F) hF (fun _ => consOk hcs) rfl rest 0 n _ _ _ _ w'' (loopsOk_of rest 0 _ (by rw [l1]; intro s hs; cases hs)) h7 h8 ?_
  intro n'' _ e σ'' a'' w3 h9 h10
  obtain ⟨h11, h12, v, h13, h14⟩ := end_ok hF h10 rfl (cargs := vs) rfl (by omega) hl h9
  cases e with
  | exit i => exact absurd rfl (h11 i)
  | normal => exact ⟨h12, v, h13, v, rfl, h14⟩
  | ret => exact ⟨h12, v, h13, v, rfl, h14⟩
end
end Go.Proofs.Ytigoabhkdipdeaa.AM
