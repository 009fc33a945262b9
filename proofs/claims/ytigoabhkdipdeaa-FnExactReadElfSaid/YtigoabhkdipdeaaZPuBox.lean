/- A part of the plain reading of Go's code: what a function's code comes to, by a plain function. No condition. -/
import Derived.Test.YtigoabhkdipdeaaZPuMem
/- A box: it is right, copied, compared, told. -/
namespace Go.Proofs.Ytigoabhkdipdeaa
open Go Go.Proofs.Ytigoabhkdipdeaa.AM
set_option linter.all false

abbrev CpuT : Type := List Int × Int × Int × Unit
abbrev BoxT : Type := List Int × Int × Int × List S_Page × Int × Int × ByteArray × Int × ByteArray × Int × Int × Int × Int × Int × Int × Unit
theorem toA16_loop (l b1 : List Int) (hl : l.length = 16) : ∀ (d i : Nat) (b : List Int), i + d = 16 → b.length = 16 → (∀ j, j < i → rd 0 b j = rd 0 l j) → Ev (fun n => w_toIntA16_ls n (i : Int) l b1 b) (l, ()) := by
  intro d
  induction d with
  | zero =>
    intro i b hi hb hj
    have e : b = l := rd_ext (d := 0) (by omega) fun j h => hj j (by omega)
    subst e
    refine Ev.step (g := fun n => w_toIntA16_r0 (w_toIntA16_ls n) n i b b1 b) (fun n => rfl) ?_
    unfold w_toIntA16_r0
    exact Ev.df (by omega) (Ev.now _)
  | succ d ih =>
    intro i b hi hb hj
    have c : (i : Int) < 16 := by omega
    refine Ev.step (g := fun n => w_toIntA16_r0 (w_toIntA16_ls n) n i l b1 b) (fun n => rfl) ?_
    unfold w_toIntA16_r0
    refine Ev.dt c (Ev.dt (by omega) (Ev.dt c (Ev.dt (by omega) (Ev.dt c ?_))))
    rw [wI (by omega) (by omega)]
    exact ih (i + 1) _ (by omega) (by simp [hb]) (fun j h => set_prefix (d := 0) (by omega) (by omega) hj j h)
theorem w_toCpu_ev (x : CpuT) (h : x.1.length = 16) : Ev (fun n => w_toCpu n x) x := by
  unfold w_toCpu w_toIntA16 w_toIntA16_m
  exact Ev.bind (toA16_loop x.1 _ h 16 0 _ (by omega) (by simp) (fun j hj => by omega)) (Ev.now _)
theorem w_toBox_ev (x : BoxT) (h : x.1.length = 16) (hl : x.2.2.2.1.length ≤ 1048576) : Ev (fun n => w_toBox n x) x := by
  unfold w_toBox
  exact Ev.bind (w_toCpu_ev _ h) (Ev.bind (w_toMemory_ev _ hl) (Ev.now _))
theorem eqA16_loop (l : List Int) : ∀ (d i : Nat), i + d = 16 → Ev (fun n => w_eqIntA16_ls n (i : Int) l l) true := by
  intro d
  induction d with
  | zero =>
    intro i hi
    refine Ev.step (g := fun n => w_eqIntA16_r0 (w_eqIntA16_ls n) n i l l) (fun n => rfl) ?_
    unfold w_eqIntA16_r0
    exact Ev.df (by omega) (Ev.now _)
  | succ d ih =>
    intro i hi
    have c : (i : Int) < 16 := by omega
    refine Ev.step (g := fun n => w_eqIntA16_r0 (w_eqIntA16_ls n) n i l l) (fun n => rfl) ?_
    unfold w_eqIntA16_r0
    refine Ev.dt c (Ev.dt (by omega) (Ev.dt c (Ev.dt (by omega) (Ev.dt c (Ev.f (by simp) ?_)))))
    rw [wI (by omega) (by omega)]
    exact ih (i + 1) (by omega)
theorem w_eqCpu_refl (x : CpuT) : Ev (fun n => w_eqCpu n x x) true := by
  unfold w_eqCpu w_eqIntA16 w_eqIntA16_m
  refine Ev.bind (eqA16_loop x.1 16 0 (by omega)) (Ev.f rfl (Ev.f (by simp) (Ev.f (by simp) (Ev.now _))))
theorem w_eqBox_refl (x : BoxT) (hl : x.2.2.2.1.length ≤ 9223372036854775807) : Ev (fun n => w_eqBox n x x) true := by
  unfold w_eqBox
  refine Ev.bind (w_eqCpu_refl _) (Ev.f rfl (Ev.bind (w_eqMemory_refl _ hl) (Ev.f rfl ?_)))
  simp only [bne_self_eq_false, beq_self_eq_true, Bool.not_true, cond_false]
  exact Ev.now _
/-- How much a box holds. -/
theorem w_szBox_ev (x : BoxT) (s : Int) (hs : 0 ≤ s ∧ s ≤ 1048576) (hl : x.2.2.2.1.length ≤ 9223372036854775807) (hy : ∀ y ∈ x.2.2.2.1, y.f2.size ≤ 9223372036854775807) (h6 : x.2.2.2.2.2.2.1.size ≤ 9223372036854775807) (h8 : x.2.2.2.2.2.2.2.2.1.size ≤ 9223372036854775807) :
    ∃ t, t ≤ s ∧ (0 ≤ t → x.2.2.2.1.length ≤ s) ∧ Ev (fun n => w_szBox n x s) t := by
  obtain ⟨t, h1, h2, h3⟩ := w_szMemory_ev x.2.2.2.1 s hs hl hy
  unfold w_szBox
  by_cases c : t < 0
  · exact ⟨-1, by omega, by omega, Ev.bind h3 (Ev.dt c (Ev.now _))⟩
  · have e1 : IntKind.i64.wrap (t - Int.ofNat x.2.2.2.2.2.2.1.size) = t - (x.2.2.2.2.2.2.1.size : Int) := wI (by simp only [Int.ofNat_eq_natCast]; omega) (by simp only [Int.ofNat_eq_natCast]; omega)
    by_cases c1 : t - (x.2.2.2.2.2.2.1.size : Int) < 0
    · exact ⟨-1, by omega, by omega, Ev.bind h3 (Ev.df c (by rw [e1]; exact Ev.dt c1 (Ev.now _)))⟩
    · have e2 : IntKind.i64.wrap (t - (x.2.2.2.2.2.2.1.size : Int) - Int.ofNat x.2.2.2.2.2.2.2.2.1.size) = t - (x.2.2.2.2.2.2.1.size : Int) - (x.2.2.2.2.2.2.2.2.1.size : Int) := wI (by simp only [Int.ofNat_eq_natCast]; omega) (by simp only [Int.ofNat_eq_natCast]; omega)
      by_cases c2 : t - (x.2.2.2.2.2.2.1.size : Int) - (x.2.2.2.2.2.2.2.2.1.size : Int) < 0
      · exact ⟨-1, by omega, by omega, Ev.bind h3 (Ev.df c (by rw [e1]; exact Ev.df c1 (by rw [e2]; exact Ev.dt c2 (Ev.now _))))⟩
      · exact ⟨t - (x.2.2.2.2.2.2.1.size : Int) - (x.2.2.2.2.2.2.2.2.1.size : Int), by omega, by omega, Ev.bind h3 (Ev.df c (by rw [e1]; exact Ev.df c1 (by rw [e2]; exact Ev.df c2 (Ev.now _))))⟩

/-- What is asked of a box. -/
def flOK (f : Int) : Bool := decide (f ≥ 0) && (ibits .and .i64 f 2245 == f)
theorem flOK_eq (f : Int) (h : R64 f) : (ibits .andNot .i64 f 2245 == 0) = flOK f := by
  unfold flOK ibits
  simp only []
  have hb : IntKind.i64.bits = 64 := rfl
  rw [hb]
  have hf : f = (BitVec.ofInt 64 f).toInt := by
    rw [BitVec.toInt_ofInt]
    unfold R64 at h
    have : ((2 ^ 64 : Nat) : Int) = 18446744073709551616 := by decide
    simp only [Int.bmod, this]
    split <;> omega
  have hw : ∀ v : BitVec 64, IntKind.i64.wrap (v.toNat : Int) = v.toInt := by
    intro v
    rw [wI_def, BitVec.toInt_eq_toNat_cond]
    have := v.isLt
    split <;> omega
  rw [hw, hw]
  generalize hv : BitVec.ofInt 64 f = v at *
  rw [hf]
  have m : BitVec.ofInt 64 2245 = 2245#64 := by decide
  rw [m]
  have k1 : ((v &&& ~~~ 2245#64).toInt == 0) = decide (v &&& ~~~ 2245#64 = 0#64) := by
    rw [Bool.eq_iff_iff]
    simp only [beq_iff_eq, decide_eq_true_eq]
    rw [show (0 : Int) = (0#64).toInt by decide, BitVec.toInt_inj]
  have k2 : ((v &&& 2245#64).toInt == v.toInt) = decide (v &&& 2245#64 = v) := by
    rw [Bool.eq_iff_iff]
    simp only [beq_iff_eq, decide_eq_true_eq]
    rw [BitVec.toInt_inj]
  rw [k1, k2]
  have k3 : (v &&& ~~~ 2245#64 = 0#64) ↔ (v &&& 2245#64 = v) := by
    constructor
    · intro h
      have e : v = (v &&& 2245#64) ||| (v &&& ~~~ 2245#64) := by
        ext i hi
        simp only [BitVec.getElem_or, BitVec.getElem_and, BitVec.getElem_not]
        cases v[i] <;> cases (2245#64)[i] <;> rfl
      rw [h, BitVec.or_zero] at e
      exact e.symm
    · intro h
      rw [← h]
      ext i hi
      simp only [BitVec.getElem_and, BitVec.getElem_not, BitVec.getElem_zero]
      cases v[i] <;> cases (2245#64)[i] <;> rfl
  by_cases h1 : v &&& 2245#64 = v
  · rw [decide_eq_true h1, decide_eq_true (k3.2 h1)]
    have : 0 ≤ v.toInt := by
      rw [← h1]
      have hm : (v &&& 2245#64).toNat ≤ 2245 := by rw [BitVec.toNat_and]; exact Nat.and_le_right
      rw [BitVec.toInt_eq_toNat_cond]
      split <;> omega
    simp [this]
  · rw [decide_eq_false h1, decide_eq_false (fun h => h1 (k3.1 h))]
    simp
def BOK (x : BoxT) : Bool :=
  flOK x.2.2.1 && MOK x.2.2.2.1 && IN x.2.2.2.2.1 512 3584 && IN x.2.2.2.2.2.1 x.2.2.2.2.1 3584 && decide (x.2.2.2.2.2.2.1.size ≤ 1024) && IN x.2.2.2.2.2.2.2.1 0 x.2.2.2.2.2.2.1.size &&
  decide (x.2.2.2.2.2.2.2.2.1.size ≤ 512) && IN x.2.2.2.2.2.2.2.2.2.1 0 1000000 && IN x.2.2.2.2.2.2.2.2.2.2.1 0 2147483647 &&
  (if x.2.2.2.2.2.2.2.2.2.2.2.1 = 1 then x.2.2.2.2.2.2.2.2.2.2.2.2.1 == 0 && x.2.2.2.2.2.2.2.2.2.2.2.2.2.1 == 0 && x.2.2.2.2.2.2.2.2.2.2.2.2.2.2.1 == 0
   else if x.2.2.2.2.2.2.2.2.2.2.2.1 = 2 then sg x.2.2.2.2.2.2.2.2.2.2.2.2.1 4 == x.2.2.2.2.2.2.2.2.2.2.2.2.1 && x.2.2.2.2.2.2.2.2.2.2.2.2.2.1 == 0 && x.2.2.2.2.2.2.2.2.2.2.2.2.2.2.1 == 0
   else if x.2.2.2.2.2.2.2.2.2.2.2.1 = 3 then x.2.2.2.2.2.2.2.2.2.2.2.2.1 == 0 && IN x.2.2.2.2.2.2.2.2.2.2.2.2.2.1 1 35 else false)
theorem i_BoxOK_ev (x : BoxT) (hf : R64 x.2.2.1) (hl : x.2.2.2.1.length ≤ 9223372036854775807) (hc : R64 x.2.2.2.2.2.2.2.2.2.2.2.2.1) : Ev (fun n => i_BoxOK n x) (BOK x) := by
  have key : Ev (fun n => i_Box_isEnd n x) (if x.2.2.2.2.2.2.2.2.2.2.2.1 = 1 then x.2.2.2.2.2.2.2.2.2.2.2.2.1 == 0 && x.2.2.2.2.2.2.2.2.2.2.2.2.2.1 == 0 && x.2.2.2.2.2.2.2.2.2.2.2.2.2.2.1 == 0
   else if x.2.2.2.2.2.2.2.2.2.2.2.1 = 2 then sg x.2.2.2.2.2.2.2.2.2.2.2.2.1 4 == x.2.2.2.2.2.2.2.2.2.2.2.2.1 && x.2.2.2.2.2.2.2.2.2.2.2.2.2.1 == 0 && x.2.2.2.2.2.2.2.2.2.2.2.2.2.2.1 == 0
   else if x.2.2.2.2.2.2.2.2.2.2.2.1 = 3 then x.2.2.2.2.2.2.2.2.2.2.2.2.1 == 0 && IN x.2.2.2.2.2.2.2.2.2.2.2.2.2.1 1 35 else false) := by
    refine Ev.all fun n => ?_
    unfold i_Box_isEnd i_fits
    rw [i_sign_val n _ 4 (by omega) hc.1 hc.2, i_within_val]
    simp only [Option.bind_some]
    by_cases c1 : x.2.2.2.2.2.2.2.2.2.2.2.1 = 1
    · simp only [c1, beq_self_eq_true, cond_true, if_true]
      cases (x.2.2.2.2.2.2.2.2.2.2.2.2.1 == 0) <;> cases (x.2.2.2.2.2.2.2.2.2.2.2.2.2.1 == 0) <;> rfl
    · rw [if_neg c1, beq_eq_false_iff_ne.2 c1, cond_false]
      by_cases c2 : x.2.2.2.2.2.2.2.2.2.2.2.1 = 2
      · simp only [c2, beq_self_eq_true, cond_true, if_true]
        cases (sg x.2.2.2.2.2.2.2.2.2.2.2.2.1 4 == x.2.2.2.2.2.2.2.2.2.2.2.2.1) <;> cases (x.2.2.2.2.2.2.2.2.2.2.2.2.2.1 == 0) <;> rfl
      · rw [if_neg c2, beq_eq_false_iff_ne.2 c2, cond_false]
        by_cases c3 : x.2.2.2.2.2.2.2.2.2.2.2.1 = 3
        · simp only [c3, beq_self_eq_true, cond_true, if_true]
          cases (x.2.2.2.2.2.2.2.2.2.2.2.2.1 == 0) <;> rfl
        · rw [if_neg c3, beq_eq_false_iff_ne.2 c3, cond_false]
  unfold i_BoxOK i_CpuOK i_areFlags i_isHeap i_isSeed BOK
  simp only [i_within_val, Option.bind_some]
  rw [flOK_eq _ hf]
  cases h1 : flOK x.2.2.1
  · exact Ev.now _
  refine Ev.t rfl (Ev.bind (i_MemoryOK_ev _ hl) ?_)
  cases h2 : MOK x.2.2.2.1
  · exact Ev.now _
  cases h3 : IN x.2.2.2.2.1 512 3584
  · exact Ev.now _
  cases h4 : IN x.2.2.2.2.2.1 x.2.2.2.2.1 3584
  · exact Ev.now _
  by_cases h5 : x.2.2.2.2.2.2.1.size ≤ 1024
  · have h5' : decide (Int.ofNat x.2.2.2.2.2.2.1.size ≤ 1024) = true := decide_eq_true (by simp only [Int.ofNat_eq_natCast]; omega)
    rw [decide_eq_true h5, h5']
    cases h6 : IN x.2.2.2.2.2.2.2.1 0 x.2.2.2.2.2.2.1.size
    · simp only [cond_true, Int.ofNat_eq_natCast, h6, cond_false]; exact Ev.now _
    simp only [cond_true, Int.ofNat_eq_natCast, h6]
    by_cases h7 : x.2.2.2.2.2.2.2.2.1.size ≤ 512
    · have h7' : decide ((x.2.2.2.2.2.2.2.2.1.size : Int) ≤ 512) = true := decide_eq_true (by omega)
      rw [decide_eq_true h7, h7']
      cases h8 : IN x.2.2.2.2.2.2.2.2.2.1 0 1000000
      · exact Ev.now _
      cases h9 : IN x.2.2.2.2.2.2.2.2.2.2.1 0 2147483647
      · exact Ev.now _
      exact Ev.bind key (Ev.eq (Ev.now _) (by simp))
    · rw [decide_eq_false h7, decide_eq_false (by omega)]; exact Ev.now _
  · have h5' : decide (Int.ofNat x.2.2.2.2.2.2.1.size ≤ 1024) = false := decide_eq_false (by simp only [Int.ofNat_eq_natCast]; omega)
    rw [decide_eq_false h5, h5']; exact Ev.now _
theorem s_BoxOK_ev (x : BoxT) (hl : x.2.2.2.1.length ≤ 9223372036854775807) (hc : R64 x.2.2.2.2.2.2.2.2.2.2.2.2.1) : Ev (fun n => s_BoxOK n x) (BOK x) := by
  have hs := s_l01Sign_ev x.2.2.2.2.2.2.2.2.2.2.2.2.1 4 (by omega) hc.1 hc.2
  unfold s_BoxOK s_CpuOK s_l06Flags BOK
  simp only [s_l01In_val, Option.bind_some]
  have hfl : (bif decide (x.2.2.1 ≥ 0) then some (ibits BinOp.and IntKind.i64 x.2.2.1 2245 == x.2.2.1) else some false) = some (flOK x.2.2.1) := by
    unfold flOK
    cases decide (x.2.2.1 ≥ 0) <;> rfl
  rw [hfl]
  simp only [Option.bind_some]
  cases h1 : flOK x.2.2.1
  · exact Ev.now _
  refine Ev.f rfl (Ev.bind (s_MemoryOK_ev _ hl) ?_)
  cases h2 : MOK x.2.2.2.1
  · exact Ev.now _
  cases h3 : IN x.2.2.2.2.1 512 3584
  · exact Ev.now _
  cases h4 : IN x.2.2.2.2.2.1 x.2.2.2.2.1 3584
  · exact Ev.now _
  by_cases h5 : x.2.2.2.2.2.2.1.size ≤ 1024
  · have h5' : decide (Int.ofNat x.2.2.2.2.2.2.1.size > 1024) = false := decide_eq_false (by simp only [Int.ofNat_eq_natCast]; omega)
    rw [decide_eq_true h5, h5']
    cases h6 : IN x.2.2.2.2.2.2.2.1 0 x.2.2.2.2.2.2.1.size
    · simp only [cond_true, Int.ofNat_eq_natCast, h6, cond_false, Bool.not_true, Bool.not_false]; exact Ev.now _
    simp only [cond_false, Int.ofNat_eq_natCast, h6, Bool.not_true]
    by_cases h7 : x.2.2.2.2.2.2.2.2.1.size ≤ 512
    · have h7' : decide ((x.2.2.2.2.2.2.2.2.1.size : Int) > 512) = false := decide_eq_false (by omega)
      rw [decide_eq_true h7, h7']
      cases h8 : IN x.2.2.2.2.2.2.2.2.2.1 0 1000000
      · exact Ev.now _
      cases h9 : IN x.2.2.2.2.2.2.2.2.2.2.1 0 2147483647
      · exact Ev.now _
      simp only [cond_false, Bool.not_true]
      generalize hst : x.2.2.2.2.2.2.2.2.2.2.2.1 = st
      generalize hcd : x.2.2.2.2.2.2.2.2.2.2.2.2.1 = cd at *
      generalize hft : x.2.2.2.2.2.2.2.2.2.2.2.2.2.1 = ft
      generalize hwh : x.2.2.2.2.2.2.2.2.2.2.2.2.2.2.1 = wh
      have z4 : sg 0 4 = 0 := by decide
      by_cases c1 : st = 1
      · subst c1
        rw [show IN 1 1 3 = true by decide]
        refine Ev.f rfl (Ev.t (by decide) ?_)
        by_cases d1 : cd = 0
        · subst d1
          refine Ev.f (by decide) (Ev.bind hs (Ev.f (by rw [z4]; decide) (Ev.t (by decide) ?_)))
          by_cases d2 : ft = 0
          · subst d2; exact Ev.t (by decide) (Ev.eq (Ev.now _) (by simp))
          · exact Ev.f (by simpa using d2) (Ev.eq (Ev.now _) (by simp [d2]))
        · exact Ev.t (by simpa using d1) (Ev.eq (Ev.now _) (by simp [d1]))
      · by_cases c2 : st = 2
        · subst c2
          rw [show IN 2 1 3 = true by decide]
          refine Ev.f rfl (Ev.f (by decide) (Ev.bind hs ?_))
          by_cases d1 : sg cd 4 = cd
          · refine Ev.f (by simpa using d1) (Ev.t (by decide) ?_)
            by_cases d2 : ft = 0
            · subst d2; exact Ev.t (by decide) (Ev.eq (Ev.now _) (by simp [d1]))
            · exact Ev.f (by simpa using d2) (Ev.eq (Ev.now _) (by simp [d2]))
          · exact Ev.t (by simpa using d1) (Ev.eq (Ev.now _) (by simp [d1]))
        · by_cases c3 : st = 3
          · subst c3
            rw [show IN 3 1 3 = true by decide]
            refine Ev.f rfl (Ev.t (by decide) ?_)
            by_cases d1 : cd = 0
            · subst d1
              refine Ev.f (by decide) (Ev.bind hs (Ev.f (by rw [z4]; decide) (Ev.f (by decide) ?_)))
              exact Ev.eq (Ev.now _) (by simp)
            · exact Ev.t (by simpa using d1) (Ev.eq (Ev.now _) (by simp [d1]))
          · rw [IN_false.2 (by omega)]
            exact Ev.t rfl (Ev.eq (Ev.now _) (by simp [c1, c2, c3]))
    · rw [decide_eq_false h7, decide_eq_true (by omega)]; exact Ev.now _
  · have h5' : decide (Int.ofNat x.2.2.2.2.2.2.1.size > 1024) = true := decide_eq_true (by simp only [Int.ofNat_eq_natCast]; omega)
    rw [decide_eq_false h5, h5']; exact Ev.now _
theorem FnExactBoxOK_ev (x : BoxT) (h16 : x.1.length = 16) (hf : R64 x.2.2.1) (hl : x.2.2.2.1.length ≤ 9223372036854775807) (hy : ∀ y ∈ x.2.2.2.1, y.f2.size ≤ 9223372036854775807) (h6 : x.2.2.2.2.2.2.1.size ≤ 9223372036854775807) (h8 : x.2.2.2.2.2.2.2.2.1.size ≤ 9223372036854775807)
    (hc : R64 x.2.2.2.2.2.2.2.2.2.2.2.2.1) : Ev (fun n => w_FnExactBoxOK n x) true := by
  obtain ⟨t, h1, h2, h3⟩ := w_szBox_ev x 1048576 (by omega) hl hy h6 h8
  unfold w_FnExactBoxOK
  refine Ev.bind h3 (Ev.dcases (fun _ => Ev.now _) fun c => ?_)
  have hx := w_toBox_ev x h16 (by omega)
  refine Ev.bind hx (Ev.bind (s_BoxOK_ev x hl hc) (Ev.bind hx (Ev.bind (i_BoxOK_ev x hf hl hc) (Ev.f (by simp) (Ev.bind hx (Ev.bind (w_eqBox_refl x hl) (Ev.f rfl (Ev.now _))))))))
end Go.Proofs.Ytigoabhkdipdeaa
