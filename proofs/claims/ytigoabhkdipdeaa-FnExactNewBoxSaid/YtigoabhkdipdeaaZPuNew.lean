/- A part of the plain reading of Go's code: what a function's code comes to, by a plain function. No condition. -/
import Derived.Test.YtigoabhkdipdeaaZPuMark
/- NewBox. -/
namespace Go.Proofs.Ytigoabhkdipdeaa
open Go Go.Proofs.Ytigoabhkdipdeaa.AM
set_option linter.all false
abbrev RepT : Type := List Int × List Int × List Int × Int × Unit
abbrev LdT : Type := List S_Page × Int × Int × Int × Int × List Int × List Int × List Int × Int × Unit

theorem szIntS_ex (l : List Int) (s : Int) (hs : 0 ≤ s ∧ s ≤ 1048576) (hl : l.length ≤ 9223372036854775807) : ∃ t, t ≤ s ∧ (0 ≤ t → l.length ≤ s) ∧ Ev (fun n => w_szIntS n l s) t := by
  have hw : IntKind.i64.wrap (s - Int.ofNat l.length) = s - l.length := by rw [wI (by simp only [Int.ofNat_eq_natCast]; omega) (by simp only [Int.ofNat_eq_natCast]; omega)]; rfl
  unfold w_szIntS
  rw [hw]
  by_cases c : s - (l.length : Int) < 0
  · exact ⟨-1, by omega, by omega, Ev.dt c (Ev.now _)⟩
  · exact ⟨s - l.length, by omega, by omega, Ev.df c (Ev.now _)⟩
structure RepD (y : RepT) : Prop where
  a : y.1.length ≤ 9223372036854775807
  b : y.2.1.length ≤ 9223372036854775807
  c : y.2.2.1.length ≤ 9223372036854775807
theorem w_szReport_ev (y : RepT) (hy : RepD y) (s : Int) (hs : 0 ≤ s ∧ s ≤ 1048576) : ∃ t, t ≤ s ∧ (0 ≤ t → y.1.length ≤ s ∧ y.2.1.length ≤ s ∧ y.2.2.1.length ≤ s) ∧ Ev (fun n => w_szReport n y s) t := by
  obtain ⟨t1, h1, h2, h3⟩ := szIntS_ex y.1 s hs hy.a
  unfold w_szReport
  by_cases c : t1 < 0
  · exact ⟨-1, by omega, by omega, Ev.bind h3 (Ev.dt c (Ev.now _))⟩
  · obtain ⟨t2, h4, h5, h6⟩ := szIntS_ex y.2.1 t1 (by omega) hy.b
    by_cases c2 : t2 < 0
    · exact ⟨-1, by omega, by omega, Ev.bind h3 (Ev.df c (Ev.bind h6 (Ev.dt c2 (Ev.now _))))⟩
    · obtain ⟨t3, h7, h8, h9⟩ := szIntS_ex y.2.2.1 t2 (by omega) hy.c
      by_cases c3 : t3 < 0
      · exact ⟨-1, by omega, by omega, Ev.bind h3 (Ev.df c (Ev.bind h6 (Ev.df c2 (Ev.bind h9 (Ev.dt c3 (Ev.now _))))))⟩
      · exact ⟨t3, by omega, by omega, Ev.bind h3 (Ev.df c (Ev.bind h6 (Ev.df c2 (Ev.bind h9 (Ev.df c3 (Ev.now _))))))⟩
theorem toIntS_loop (l : List Int) (hl : l.length ≤ 9223372036854775807) : ∀ (d i : Nat) (b : List Int), i + d = l.length → b.length = l.length → (∀ j, j < i → rd 0 b j = rd 0 l j) → Ev (fun n => w_toIntS_ls n l (i : Int) b) l := by
  intro d
  induction d with
  | zero =>
    intro i b hi hb hj
    have e : b = l := rd_ext (d := 0) hb fun j h => hj j (by omega)
    subst e
    refine Ev.step (g := fun n => w_toIntS_r0 (w_toIntS_ls n) n b i b) (fun n => rfl) ?_
    unfold w_toIntS_r0
    exact Ev.df (by simp only [Int.ofNat_eq_natCast]; omega) (Ev.now _)
  | succ d ih =>
    intro i b hi hb hj
    refine Ev.step (g := fun n => w_toIntS_r0 (w_toIntS_ls n) n l i b) (fun n => rfl) ?_
    unfold w_toIntS_r0
    refine Ev.dt (by simp only [Int.ofNat_eq_natCast]; omega) (Ev.dt (by omega) (Ev.dt (by simp only [Int.ofNat_eq_natCast]; omega) (Ev.dt (by omega) (Ev.dt (by simp only [Int.ofNat_eq_natCast]; omega) ?_))))
    rw [wI (by omega) (by omega)]
    exact ih (i + 1) _ (by omega) (by simp [hb]) (set_prefix (by omega) hb hj)
theorem w_toIntS_ev (l : List Int) (hl : l.length ≤ 1048576) : Ev (fun n => w_toIntS n l) l := by
  unfold w_toIntS w_toIntS_m
  refine Ev.dt (Int.le_refl _) (Ev.dt (by simp only [Int.ofNat_eq_natCast]; omega) ?_)
  exact toIntS_loop l (by omega) l.length 0 _ (by omega) (by simp) (fun j hj => by omega)
theorem eqIntS_loop (l : List Int) (hl : l.length ≤ 9223372036854775807) : ∀ (d i : Nat), i + d = l.length → Ev (fun n => w_eqIntS_ls n l l (i : Int)) true := by
  intro d
  induction d with
  | zero =>
    intro i hi
    refine Ev.step (g := fun n => w_eqIntS_r0 (w_eqIntS_ls n) n l l i) (fun n => rfl) ?_
    unfold w_eqIntS_r0
    exact Ev.df (by simp only [Int.ofNat_eq_natCast]; omega) (Ev.now _)
  | succ d ih =>
    intro i hi
    refine Ev.step (g := fun n => w_eqIntS_r0 (w_eqIntS_ls n) n l l i) (fun n => rfl) ?_
    unfold w_eqIntS_r0
    have h1 : (i : Int) < Int.ofNat l.length := by simp only [Int.ofNat_eq_natCast]; omega
    refine Ev.dt h1 (Ev.dt (by omega) (Ev.dt h1 (Ev.dt (by omega) (Ev.dt h1 (Ev.f (by simp) ?_)))))
    rw [wI (by omega) (by omega)]
    exact ih (i + 1) (by omega)
theorem w_eqIntS_refl (l : List Int) (hl : l.length ≤ 9223372036854775807) : Ev (fun n => w_eqIntS n l l) true := by
  unfold w_eqIntS w_eqIntS_m
  exact Ev.f (by simp) (eqIntS_loop l hl l.length 0 (by omega))
theorem w_toReport_ev (y : RepT) (h1 : y.1.length ≤ 1048576) (h2 : y.2.1.length ≤ 1048576) (h3 : y.2.2.1.length ≤ 1048576) : Ev (fun n => w_toReport n y) y := by
  unfold w_toReport
  exact Ev.bind (w_toIntS_ev _ h1) (Ev.bind (w_toIntS_ev _ h2) (Ev.bind (w_toIntS_ev _ h3) (Ev.now _)))
theorem w_eqReport_refl (y : RepT) (hy : RepD y) : Ev (fun n => w_eqReport n y y) true := by
  unfold w_eqReport
  exact Ev.bind (w_eqIntS_refl _ hy.a) (Ev.f rfl (Ev.bind (w_eqIntS_refl _ hy.b) (Ev.f rfl (Ev.bind (w_eqIntS_refl _ hy.c) (Ev.f rfl (Ev.f (by simp) (Ev.now _)))))))
structure LdD (x : LdT) : Prop where
  pages : x.1.length ≤ 9223372036854775807
  data : ∀ y ∈ x.1, y.f2.size ≤ 9223372036854775807
  rep : RepD x.2.2.2.2.2
theorem w_szLoaded_ev (x : LdT) (hx : LdD x) (s : Int) (hs : 0 ≤ s ∧ s ≤ 1048576) : ∃ t, t ≤ s ∧ (0 ≤ t → x.1.length ≤ s ∧ x.2.2.2.2.2.1.length ≤ s ∧ x.2.2.2.2.2.2.1.length ≤ s ∧ x.2.2.2.2.2.2.2.1.length ≤ s) ∧ Ev (fun n => w_szLoaded n x s) t := by
  obtain ⟨t1, h1, h2, h3⟩ := w_szMemory_ev x.1 s hs hx.pages hx.data
  unfold w_szLoaded
  by_cases c : t1 < 0
  · exact ⟨-1, by omega, by omega, Ev.bind h3 (Ev.dt c (Ev.now _))⟩
  · obtain ⟨t2, h4, h5, h6⟩ := w_szReport_ev x.2.2.2.2.2 hx.rep t1 (by omega)
    by_cases c2 : t2 < 0
    · exact ⟨-1, by omega, by omega, Ev.bind h3 (Ev.df c (Ev.bind h6 (Ev.dt c2 (Ev.now _))))⟩
    · exact ⟨t2, by omega, fun h => by have := h5 h; omega, Ev.bind h3 (Ev.df c (Ev.bind h6 (Ev.df c2 (Ev.now _))))⟩
theorem w_toLoaded_ev (x : LdT) (h0 : x.1.length ≤ 1048576) (h1 : x.2.2.2.2.2.1.length ≤ 1048576) (h2 : x.2.2.2.2.2.2.1.length ≤ 1048576) (h3 : x.2.2.2.2.2.2.2.1.length ≤ 1048576) : Ev (fun n => w_toLoaded n x) x := by
  unfold w_toLoaded
  exact Ev.bind (w_toMemory_ev x.1 h0) (Ev.bind (w_toReport_ev x.2.2.2.2.2 h1 h2 h3) (Ev.now _))
theorem w_eqLoaded_refl (x : LdT) (hx : LdD x) : Ev (fun n => w_eqLoaded n x x) true := by
  unfold w_eqLoaded
  exact Ev.bind (w_eqMemory_refl x.1 hx.pages) (Ev.f rfl (Ev.f (by simp) (Ev.f (by simp) (Ev.f (by simp) (Ev.f (by simp) (Ev.bind (w_eqReport_refl _ hx.rep) (Ev.f rfl (Ev.now _))))))))
theorem w_markLoaded_ex (x : LdT) (h0 : x.1.length ≤ 1048576) (h1 : x.2.2.2.2.2.1.length ≤ 1048576) (h2 : x.2.2.2.2.2.2.1.length ≤ 1048576) (h3 : x.2.2.2.2.2.2.2.1.length ≤ 1048576) : ∃ t, 0 ≤ t.1 ∧ Ev (fun n => w_markLoaded n x 1) t := by
  obtain ⟨m1, e1⟩ := w_markIntS_ev x.2.2.2.2.2.1 (1 + 3 * (x.1.length : Int)) (by omega) (by omega)
  obtain ⟨m2, e2⟩ := w_markIntS_ev x.2.2.2.2.2.2.1 (1 + 3 * (x.1.length : Int) + x.2.2.2.2.2.1.length) (by omega) (by omega)
  obtain ⟨m3, e3⟩ := w_markIntS_ev x.2.2.2.2.2.2.2.1 (1 + 3 * (x.1.length : Int) + x.2.2.2.2.2.1.length + x.2.2.2.2.2.2.1.length) (by omega) (by omega)
  unfold w_markLoaded w_markMemory w_markReport
  refine ⟨_, ?_, Ev.bind (Ev.bind (w_markPageS_ev x.1 1 (by omega) (by omega)) (Ev.now _)) (Ev.bind (Ev.bind e1 (Ev.bind e2 (Ev.bind e3 (Ev.now _)))) (Ev.now _))⟩
  simp only
  omega

def zB : BoxT := (List.replicate 16 0, 0, 0, [], 0, 0, ByteArray.mk #[], 0, ByteArray.mk #[], 0, 0, 0, 0, 0, 0, ())
def nB (x : LdT) (s : ByteArray) (k : Int) : BoxT := ([0, 0, 0, 0, 20480, 20480, 0, 0, 0, 0, 0, 0, 0, 0, 0, 16384], x.2.1, 0, x.1, x.2.2.1, x.2.2.1, s, 0, ByteArray.mk #[], 0, k, 1, 0, 0, 0, ())
theorem NewBox_ex (x : LdT) (s : ByteArray) (k : Int) (hl : x.1.length ≤ 9223372036854775807) : ∃ r : BoxT × Int, r.1.2.2.2.1.length ≤ 32 ∧ Ev (fun n => s_NewBox n x s k) r ∧ Ev (fun n => i_NewBox n x s k) r := by
  have hL : Ev (fun n => s_l12Loaded n x) (MOK x.1 && IN x.2.2.1 512 3584) := by
    unfold s_l12Loaded
    refine Ev.bind (s_MemoryOK_ev x.1 hl) ?_
    cases MOK x.1 with
    | false => exact Ev.f rfl (Ev.now _)
    | true => exact Ev.t rfl (Ev.bind (Ev.all fun n => s_l01In_val n _ _ _) (Ev.now _))
  have hH : Ev (fun n => i_isHeap n x.2.2.1) (IN x.2.2.1 512 3584) := by
    unfold i_isHeap
    exact Ev.bind (Ev.all fun n => i_within_val n _ _ _) (Ev.now _)
  have hS : Ev (fun n => i_isSeed n k) (IN k 0 2147483647) := by
    unfold i_isSeed
    exact Ev.bind (Ev.all fun n => i_within_val n _ _ _) (Ev.now _)
  have hM := i_MemoryOK_ev x.1 hl
  unfold s_NewBox i_NewBox
  by_cases c1 : Int.ofNat s.size > 65536
  · exact ⟨(zB, 2), by decide, Ev.dt c1 (Ev.now _), Ev.dt c1 (Ev.now _)⟩
  · cases hm : MOK x.1 with
    | false =>
      rw [hm] at hL hM
      exact ⟨(zB, 1), by decide, Ev.df c1 (Ev.bind hL (Ev.t rfl (Ev.now _))), Ev.df c1 (Ev.bind hM (Ev.t rfl (Ev.now _)))⟩
    | true =>
      rw [hm] at hL hM
      have h32 : x.1.length ≤ 32 := by
        unfold MOK at hm
        simp only [Bool.and_eq_true, decide_eq_true_eq] at hm
        exact hm.1
      cases hi : IN x.2.2.1 512 3584 with
      | false =>
        rw [hi] at hL hH
        exact ⟨(zB, 1), by decide, Ev.df c1 (Ev.bind hL (Ev.t rfl (Ev.now _))), Ev.df c1 (Ev.bind hM (Ev.f rfl (Ev.bind hH (Ev.t rfl (Ev.now _)))))⟩
      | true =>
        rw [hi] at hL hH
        by_cases c2 : Int.ofNat s.size > 1024
        · exact ⟨(zB, 8), by decide, Ev.df c1 (Ev.bind hL (Ev.f rfl (Ev.dt c2 (Ev.now _)))), Ev.df c1 (Ev.bind hM (Ev.f rfl (Ev.bind hH (Ev.f rfl (Ev.dt c2 (Ev.now _))))))⟩
        · cases hk : IN k 0 2147483647 with
          | false =>
            rw [hk] at hS
            exact ⟨(zB, 4), by decide, Ev.df c1 (Ev.bind hL (Ev.f rfl (Ev.df c2 (Ev.bind (Ev.all fun n => s_l01In_val n _ _ _) (Ev.t (by rw [hk]; rfl) (Ev.now _)))))), Ev.df c1 (Ev.bind hM (Ev.f rfl (Ev.bind hH (Ev.f rfl (Ev.df c2 (Ev.bind hS (Ev.t rfl (Ev.now _))))))))⟩
          | true =>
            rw [hk] at hS
            refine ⟨(nB x s k, 0), h32, ?_, ?_⟩
            · refine Ev.df c1 (Ev.bind hL (Ev.f rfl (Ev.df c2 (Ev.bind (Ev.all fun n => s_l01In_val n _ _ _) (Ev.f (by rw [hk]; rfl) ?_)))))
              refine Ev.bind (a := nB x s k) (Ev.all fun n => rfl) (Ev.bind (a := (x.1, ())) ?_ (Ev.now _))
              unfold s_l02Own
              exact Ev.dt (by show (0 + x.1.length) * 32 ≤ _; omega) (Ev.now _)
            · refine Ev.df c1 (Ev.bind hM (Ev.f rfl (Ev.bind hH (Ev.f rfl (Ev.df c2 (Ev.bind hS (Ev.f rfl ?_)))))))
              refine Ev.bind (a := nB x s k) ?_ (Ev.now _)
              unfold x108 x168 x230
              exact Ev.bind (Ev.bind (Ev.dt (by show (0 + x.1.length) * 32 ≤ _; omega) (Ev.now _)) (Ev.now _)) (Ev.now _)
theorem w_markBox_ev (x : BoxT) (h : x.2.2.2.1.length ≤ 1048576) : Ev (fun n => w_markBox n x 1) (1 + 3 * (x.2.2.2.1.length : Int), mkPs 1 x.2.2.2.1.length) := by
  unfold w_markBox w_markMemory
  exact Ev.bind (Ev.bind (w_markPageS_ev x.2.2.2.1 1 (by omega) (by omega)) (Ev.now _)) (Ev.now _)
theorem w_heldBox_ev (x : BoxT) (L : Nat) (h : L ≤ 1048576) : Ev (fun n => w_heldBox n (x.1, x.2.1, x.2.2.1, mkPs 1 L, x.2.2.2.2) 1) (1 + 3 * (L : Int)) := by
  unfold w_heldBox w_heldMemory
  refine Ev.bind (Ev.bind (w_heldPageS_ev L 1 (by omega) (by omega)) (Ev.df (by omega) (Ev.now _))) (Ev.df (by omega) (Ev.now _))
theorem FnExactNewBox_ev (x : LdT) (s : ByteArray) (k : Int) (hx : LdD x) : Ev (fun n => w_FnExactNewBox n x s k) true := by
  obtain ⟨t, h1, h2, h3⟩ := w_szLoaded_ev x hx 1048576 (by omega)
  obtain ⟨r, hr, hs, hi⟩ := NewBox_ex x s k hx.pages
  unfold w_FnExactNewBox
  refine Ev.dcases (fun _ => Ev.now _) fun _ => Ev.bind h3 (Ev.dcases (fun _ => Ev.now _) fun c => ?_)
  have h2' := h2 (by omega)
  have ex := w_toLoaded_ev x (by omega) (by omega) (by omega) (by omega)
  obtain ⟨m, hm0, hm⟩ := w_markLoaded_ex x (by omega) (by omega) (by omega) (by omega)
  have eq := w_eqBox_refl r.1 (by omega)
  have mk := w_markBox_ev r.1 (by omega)
  have hd := w_heldBox_ev r.1 r.1.2.2.2.1.length (by omega)
  refine Ev.bind ex (Ev.bind hs (Ev.bind ex (Ev.bind hi (Ev.bind eq (Ev.f rfl (Ev.f (by simp) ?_))))))
  refine Ev.bind ex (Ev.bind (w_eqLoaded_refl x hx) (Ev.f rfl (Ev.bind hm (Ev.df (by omega) (Ev.bind eq (Ev.f rfl (Ev.f (by simp) ?_)))))))
  refine Ev.bind mk (Ev.bind hd (Ev.df (by omega) (Ev.f (by simp) (Ev.bind ex (Ev.bind hi (Ev.bind eq (Ev.f rfl (Ev.f (by simp) ?_))))))))
  exact Ev.bind hd (Ev.df (by omega) (Ev.f (by simp) (Ev.now _)))
end Go.Proofs.Ytigoabhkdipdeaa
