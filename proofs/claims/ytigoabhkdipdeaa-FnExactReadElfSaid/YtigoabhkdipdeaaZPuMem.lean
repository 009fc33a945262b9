/- A part of the plain reading of Go's code: what a function's code comes to, by a plain function. No condition. -/
import Derived.Test.YtigoabhkdipdeaaZPuBase
/- Memory: its pages are right, copied, compared, told. -/
namespace Go.Proofs.Ytigoabhkdipdeaa
open Go Go.Proofs.Ytigoabhkdipdeaa.AM
set_option linter.all false

theorem w_szPage_val (n : Nat) (p : Int × Int × ByteArray × Unit) (s : Int) (hs : 0 ≤ s ∧ s ≤ 1048576) (hp : p.2.2.1.size ≤ 9223372036854775807) :
    w_szPage n p s = some (if s - p.2.2.1.size < 0 then -1 else s - p.2.2.1.size) := by
  unfold w_szPage
  rw [wI (by simp only [Int.ofNat_eq_natCast]; omega) (by simp only [Int.ofNat_eq_natCast]; omega)]
  simp only [Int.ofNat_eq_natCast]
  by_cases h : s - (p.2.2.1.size : Int) < 0
  · simp [h]
  · simp [h]
theorem szPageS_loop (l : List S_Page) (hl : l.length ≤ 9223372036854775807) (hy : ∀ y ∈ l, y.f2.size ≤ 9223372036854775807) : ∀ (d i : Nat) (s : Int), i + d = l.length → 0 ≤ s → s ≤ 1048576 → ∃ t, t ≤ s ∧ Ev (fun n => w_szPageS_ls n l s i) t := by
  intro d
  induction d with
  | zero =>
    intro i s hi h0 h1
    refine ⟨s, Int.le_refl _, Ev.step (g := fun n => w_szPageS_r0 (w_szPageS_ls n) n l s i) (fun n => rfl) ?_⟩
    unfold w_szPageS_r0
    exact Ev.df (by simp only [Int.ofNat_eq_natCast]; omega) (Ev.now _)
  | succ d ih =>
    intro i s hi h0 h1
    have hz := hy _ (rd_mem (d := z_Page) (show i < l.length by omega))
    have hv := fun n => w_szPage_val n ((rd z_Page l i).f0, (rd z_Page l i).f1, (rd z_Page l i).f2, ()) s ⟨h0, h1⟩ hz
    have st : ∀ t, Ev (fun n => bif decide ((if s - (rd z_Page l i).f2.size < 0 then -1 else s - (rd z_Page l i).f2.size) < (0 : Int)) then some (-1) else w_szPageS_ls n l (if s - (rd z_Page l i).f2.size < 0 then -1 else s - (rd z_Page l i).f2.size) ((i + 1 : Nat) : Int)) t → Ev (fun n => w_szPageS_ls n l s i) t := by
      intro t ht
      refine Ev.step (g := fun n => w_szPageS_r0 (w_szPageS_ls n) n l s i) (fun n => rfl) ?_
      unfold w_szPageS_r0
      refine Ev.dt (by simp only [Int.ofNat_eq_natCast]; omega) (Ev.dt (by omega) (Ev.dt (by simp only [Int.ofNat_eq_natCast]; omega) ?_))
      refine Ev.bind (Ev.all hv) ?_
      rw [wI (by omega) (by omega)]
      exact ht
    by_cases c : s - (rd z_Page l i).f2.size < 0
    · refine ⟨-1, by omega, st _ ?_⟩
      simp only [if_pos c]
      exact Ev.dt (by decide) (Ev.now _)
    · obtain ⟨t, ht, hn⟩ := ih (i + 1) (s - (rd z_Page l i).f2.size) (by omega) (by omega) (by omega)
      refine ⟨t, by omega, st _ ?_⟩
      simp only [if_neg c]
      exact Ev.df c hn
/-- How much a memory holds: too much is told by a number below zero. -/
theorem w_szMemory_ev (l : List S_Page) (s : Int) (hs : 0 ≤ s ∧ s ≤ 1048576) (hl : l.length ≤ 9223372036854775807) (hy : ∀ y ∈ l, y.f2.size ≤ 9223372036854775807) : ∃ t, t ≤ s ∧ (0 ≤ t → l.length ≤ s) ∧ Ev (fun n => w_szMemory n (l, ()) s) t := by
  have hw : IntKind.i64.wrap (s - Int.ofNat l.length) = s - l.length := by rw [wI (by simp only [Int.ofNat_eq_natCast]; omega) (by simp only [Int.ofNat_eq_natCast]; omega)]; rfl
  have h1 : ∃ t, t ≤ s ∧ (0 ≤ t → l.length ≤ s) ∧ Ev (fun n => w_szPageS n l s) t := by
    unfold w_szPageS w_szPageS_m
    rw [hw]
    by_cases c : s - (l.length : Int) < 0
    · exact ⟨-1, by omega, by omega, Ev.dt c (Ev.now _)⟩
    · obtain ⟨t, ht, hn⟩ := szPageS_loop l hl hy l.length 0 (s - l.length) (by omega) (by omega) (by omega)
      exact ⟨t, by omega, by omega, Ev.df c hn⟩
  obtain ⟨t, ht, hl', hn⟩ := h1
  by_cases c : t < 0
  · refine ⟨-1, by omega, by omega, ?_⟩
    unfold w_szMemory
    exact Ev.bind hn (Ev.dt c (Ev.now _))
  · refine ⟨t, ht, hl', ?_⟩
    unfold w_szMemory
    exact Ev.bind hn (Ev.df c (Ev.now _))

theorem toPageS_loop (l : List S_Page) (hl : l.length ≤ 9223372036854775807) : ∀ (d i : Nat) (b : List S_Page), i + d = l.length → b.length = l.length → (∀ j, j < i → rd z_Page b j = rd z_Page l j) → Ev (fun n => w_toPageS_ls n l (i : Int) b) l := by
  intro d
  induction d with
  | zero =>
    intro i b hi hb hj
    have e : b = l := rd_ext (d := z_Page) hb fun j h => hj j (by omega)
    subst e
    refine Ev.step (g := fun n => w_toPageS_r0 (w_toPageS_ls n) n b i b) (fun n => rfl) ?_
    unfold w_toPageS_r0
    exact Ev.df (by simp only [Int.ofNat_eq_natCast]; omega) (Ev.now _)
  | succ d ih =>
    intro i b hi hb hj
    refine Ev.step (g := fun n => w_toPageS_r0 (w_toPageS_ls n) n l i b) (fun n => rfl) ?_
    unfold w_toPageS_r0
    refine Ev.dt (by simp only [Int.ofNat_eq_natCast]; omega) (Ev.dt (by omega) (Ev.dt (by simp only [Int.ofNat_eq_natCast]; omega) ?_))
    refine Ev.bind (Ev.all fun n => by unfold w_toPage; rfl) (Ev.dt (by omega) (Ev.dt (by simp only [Int.ofNat_eq_natCast]; omega) ?_))
    rw [wI (by omega) (by omega)]
    exact ih (i + 1) _ (by omega) (by simp [hb]) (set_prefix (by omega) hb hj)
theorem w_toPageS_ev (l : List S_Page) (hl : l.length ≤ 1048576) : Ev (fun n => w_toPageS n l) l := by
  unfold w_toPageS w_toPageS_m
  refine Ev.dt (Int.le_refl _) (Ev.dt (by simp only [Int.ofNat_eq_natCast]; omega) ?_)
  exact toPageS_loop l (by omega) l.length 0 _ (by omega) (by simp) (fun j hj => by omega)
theorem w_toMemory_ev (l : List S_Page) (hl : l.length ≤ 1048576) : Ev (fun n => w_toMemory n (l, ())) (l, ()) := by
  unfold w_toMemory
  exact Ev.bind (w_toPageS_ev l hl) (Ev.now _)

theorem w_eqPage_refl (n : Nat) (x : Int × Int × ByteArray × Unit) : w_eqPage n x x = some true := by
  unfold w_eqPage
  simp
theorem eqPageS_loop (l : List S_Page) (hl : l.length ≤ 9223372036854775807) : ∀ (d i : Nat), i + d = l.length → Ev (fun n => w_eqPageS_ls n l l (i : Int)) true := by
  intro d
  induction d with
  | zero =>
    intro i hi
    refine Ev.step (g := fun n => w_eqPageS_r0 (w_eqPageS_ls n) n l l i) (fun n => rfl) ?_
    unfold w_eqPageS_r0
    exact Ev.df (by simp only [Int.ofNat_eq_natCast]; omega) (Ev.now _)
  | succ d ih =>
    intro i hi
    have c : (i : Int) < Int.ofNat l.length := by simp only [Int.ofNat_eq_natCast]; omega
    refine Ev.step (g := fun n => w_eqPageS_r0 (w_eqPageS_ls n) n l l i) (fun n => rfl) ?_
    unfold w_eqPageS_r0
    refine Ev.dt c (Ev.dt (by omega) (Ev.dt c (Ev.dt (by omega) (Ev.dt c ?_))))
    refine Ev.bind (Ev.all fun n => w_eqPage_refl n _) (Ev.f rfl ?_)
    rw [wI (by omega) (by omega)]
    exact ih (i + 1) (by omega)
theorem w_eqMemory_refl (l : List S_Page) (hl : l.length ≤ 9223372036854775807) : Ev (fun n => w_eqMemory n (l, ()) (l, ())) true := by
  unfold w_eqMemory w_eqPageS w_eqPageS_m
  refine Ev.bind (a := true) ?_ (Ev.f rfl (Ev.now _))
  exact Ev.f (by simp) (eqPageS_loop l hl l.length 0 (by omega))

/-! what is right -/
theorem s_l02Base_val (n : Nat) (a : Int) : s_l02Base n a = some (decide (0 ≤ a ∧ a ≤ 65535 ∧ a % 256 = 0)) := by
  unfold s_l02Base
  rw [s_l01In_val, Option.bind_some]
  by_cases h : 0 ≤ a ∧ a ≤ 65535
  · rw [IN_true.2 h, cond_true, Int.tmod_eq_emod_of_nonneg h.1]
    congr 1
    rw [Bool.eq_iff_iff]; simp [h.1, h.2]
  · rw [IN_false.2 h, cond_false, decide_eq_false (by omega)]
theorem i_isBase_val (n : Nat) (a : Int) : i_isBase n a = some (decide (0 ≤ a ∧ a ≤ 65535 ∧ a % 256 = 0)) := by
  unfold i_isBase
  rw [i_within_val, Option.bind_some]
  by_cases h : 0 ≤ a ∧ a ≤ 65535
  · rw [IN_true.2 h, cond_true, Int.tmod_eq_emod_of_nonneg h.1]
    congr 1
    rw [Bool.eq_iff_iff]; simp [h.1, h.2]
  · rw [IN_false.2 h, cond_false, decide_eq_false (by omega)]
theorem s_l02Perm_val (n : Nat) (a : Int) : s_l02Perm n a = some (IN a 0 7) := by unfold s_l02Perm; rw [s_l01In_val]; rfl
theorem i_isPerm_val (n : Nat) (a : Int) : i_isPerm n a = some (IN a 0 7) := by unfold i_isPerm; rw [i_within_val]; rfl
/-- What is asked of page i. -/
def PgOK (l : List S_Page) (i : Nat) : Bool := decide (0 ≤ (rd z_Page l i).f0 ∧ (rd z_Page l i).f0 ≤ 65535 ∧ (rd z_Page l i).f0 % 256 = 0) && IN (rd z_Page l i).f1 0 7 && decide ((rd z_Page l i).f2.size = 256) && (decide (i = 0) || decide ((rd z_Page l (i - 1)).f0 < (rd z_Page l i).f0))
def PgsOK (l : List S_Page) : Nat → Nat → Bool
  | 0, _ => true
  | d + 1, i => PgOK l i && PgsOK l d (i + 1)
def MOK (l : List S_Page) : Bool := decide (l.length ≤ 32) && PgsOK l l.length 0
theorem memS_loop (l : List S_Page) (hl : l.length ≤ 9223372036854775807) : ∀ (d i : Nat), i + d = l.length → Ev (fun n => s_MemoryOK_ls n (i : Int) l) (PgsOK l d i) := by
  intro d
  induction d with
  | zero =>
    intro i hi
    refine Ev.step (g := fun n => s_MemoryOK_r0 (s_MemoryOK_ls n) n i l) (fun n => rfl) ?_
    unfold s_MemoryOK_r0
    exact Ev.df (by simp only [Int.ofNat_eq_natCast]; omega) (Ev.now _)
  | succ d ih =>
    intro i hi
    have c : (i : Int) < Int.ofNat l.length := by simp only [Int.ofNat_eq_natCast]; omega
    refine Ev.step (g := fun n => s_MemoryOK_r0 (s_MemoryOK_ls n) n i l) (fun n => rfl) ?_
    unfold s_MemoryOK_r0
    rw [show PgsOK l (d + 1) i = (PgOK l i && PgsOK l d (i + 1)) from rfl]
    unfold PgOK
    refine Ev.dt c (Ev.dt (by omega) (Ev.dt c ?_))
    rw [wI (n := (i : Int) + 1) (by omega) (by omega)]
    simp only [Int.toNat_natCast, s_l02Base_val, s_l02Perm_val, Option.bind_some]
    refine Ev.cases (fun h => ?_) (fun h => ?_)
    · rw [Bool.not_eq_true'] at h; rw [h]; exact Ev.now _
    rw [Bool.not_eq_false'] at h; rw [h]
    refine Ev.cases (fun h => ?_) (fun h => ?_)
    · rw [Bool.not_eq_true'] at h; rw [h]; exact Ev.now _
    rw [Bool.not_eq_false'] at h; rw [h]
    refine Ev.cases (fun h => ?_) (fun h => ?_)
    · rw [decide_eq_false (p := (rd z_Page l i).f2.size = 256) (by intro e; rw [e] at h; exact absurd h (by decide))]; exact Ev.now _
    have hz : (rd z_Page l i).f2.size = 256 := by simp only [bne_eq_false_iff_eq, Int.ofNat_eq_natCast] at h; omega
    rw [decide_eq_true hz]
    refine Ev.dcases (fun h => ?_) (fun h => ?_)
    · rw [wI (by omega) (by omega), show (i : Int) - 1 = ((i - 1 : Nat) : Int) by omega, Int.toNat_natCast]
      refine Ev.dt (by omega) (Ev.dt (by simp only [Int.ofNat_eq_natCast]; omega) (Ev.dcases (fun h' => ?_) (fun h' => ?_)))
      · rw [decide_eq_false (p := i = 0) (by omega), decide_eq_false (by omega)]; exact Ev.now _
      · rw [decide_eq_true (show (rd z_Page l (i - 1)).f0 < (rd z_Page l i).f0 by omega), Bool.or_true]
        exact Ev.eq (ih (i + 1) (by omega)) (by simp)
    · rw [decide_eq_true (show i = 0 by omega), Bool.true_or]
      exact Ev.eq (ih (i + 1) (by omega)) (by simp)
theorem s_MemoryOK_ev (l : List S_Page) (hl : l.length ≤ 9223372036854775807) : Ev (fun n => s_MemoryOK n (l, ())) (MOK l) := by
  unfold s_MemoryOK s_MemoryOK_m MOK
  refine Ev.dcases (fun h => ?_) (fun h => ?_)
  · rw [decide_eq_false (by simp only [Int.ofNat_eq_natCast] at h; omega)]; exact Ev.now _
  · rw [decide_eq_true (by simp only [Int.ofNat_eq_natCast] at h; omega)]; exact memS_loop l hl l.length 0 (by omega)
theorem memI_loop (l : List S_Page) (hl : l.length ≤ 9223372036854775807) : ∀ (d i : Nat), i + d = l.length → Ev (fun n => i_MemoryOK_ls n l l.length (i : Int) l) (PgsOK l d i && decide (l.length ≤ 32)) := by
  intro d
  induction d with
  | zero =>
    intro i hi
    refine Ev.step (g := fun n => i_MemoryOK_r0 (i_MemoryOK_ls n) n l l.length i l) (fun n => rfl) ?_
    unfold i_MemoryOK_r0
    refine Ev.df (by omega) (Ev.eq (Ev.now _) ?_)
    simp only [PgsOK, Bool.true_and, Int.ofNat_eq_natCast]
    rw [Bool.eq_iff_iff]; simp only [decide_eq_true_eq]; omega
  | succ d ih =>
    intro i hi
    have c : (i : Int) < Int.ofNat l.length := by simp only [Int.ofNat_eq_natCast]; omega
    refine Ev.step (g := fun n => i_MemoryOK_r0 (i_MemoryOK_ls n) n l l.length i l) (fun n => rfl) ?_
    unfold i_MemoryOK_r0
    rw [show PgsOK l (d + 1) i = (PgOK l i && PgsOK l d (i + 1)) from rfl]
    unfold PgOK
    refine Ev.dt (by omega) (Ev.dt (by omega) (Ev.dt c ?_))
    rw [wI (n := (i : Int) + 1) (by omega) (by omega)]
    simp only [Int.toNat_natCast, i_isBase_val, i_isPerm_val, Option.bind_some]
    refine Ev.cases (fun h => ?_) (fun h => ?_)
    · rw [Bool.not_eq_true'] at h; rw [h]; exact Ev.now _
    rw [Bool.not_eq_false'] at h; rw [h]
    refine Ev.cases (fun h => ?_) (fun h => ?_)
    · rw [Bool.not_eq_true'] at h; rw [h]; exact Ev.now _
    rw [Bool.not_eq_false'] at h; rw [h]
    refine Ev.cases (fun h => ?_) (fun h => ?_)
    · rw [decide_eq_false (p := (rd z_Page l i).f2.size = 256) (by intro e; rw [e] at h; exact absurd h (by decide))]; exact Ev.now _
    have hz : (rd z_Page l i).f2.size = 256 := by simp only [bne_eq_false_iff_eq, Int.ofNat_eq_natCast] at h; omega
    rw [decide_eq_true hz]
    refine Ev.dcases (fun h => ?_) (fun h => ?_)
    · rw [wI (by omega) (by omega), show (i : Int) - 1 = ((i - 1 : Nat) : Int) by omega, Int.toNat_natCast]
      refine Ev.dt (by omega) (Ev.dt (by simp only [Int.ofNat_eq_natCast]; omega) (Ev.dcases (fun h' => ?_) (fun h' => ?_)))
      · rw [decide_eq_false (p := i = 0) (by omega), decide_eq_false (by omega)]; exact Ev.now _
      · rw [decide_eq_true (show (rd z_Page l (i - 1)).f0 < (rd z_Page l i).f0 by omega), Bool.or_true]
        exact Ev.eq (ih (i + 1) (by omega)) (by simp)
    · rw [decide_eq_true (show i = 0 by omega), Bool.true_or]
      exact Ev.eq (ih (i + 1) (by omega)) (by simp)
theorem i_MemoryOK_ev (l : List S_Page) (hl : l.length ≤ 9223372036854775807) : Ev (fun n => i_MemoryOK n (l, ())) (MOK l) := by
  unfold i_MemoryOK i_MemoryOK_m MOK
  exact Ev.eq (memI_loop l hl l.length 0 (by omega)) (Bool.and_comm _ _)
end Go.Proofs.Ytigoabhkdipdeaa
