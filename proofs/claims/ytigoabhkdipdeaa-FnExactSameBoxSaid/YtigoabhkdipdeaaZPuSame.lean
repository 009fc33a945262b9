/- A part of the plain reading of Go's code: what a function's code comes to, by a plain function. No condition. -/
import Derived.Test.YtigoabhkdipdeaaZPuBox
/- Two boxes are alike. -/
namespace Go.Proofs.Ytigoabhkdipdeaa
open Go Go.Proofs.Ytigoabhkdipdeaa.AM
set_option linter.all false

def eqP (x y : S_Page) : Bool := x.f0 == y.f0 && (x.f1 == y.f1 && (x.f2.toList == y.f2.toList && true))
def eqPs (l m : List S_Page) : Nat → Nat → Bool
  | 0, _ => true
  | d + 1, i => eqP (rd z_Page l i) (rd z_Page m i) && eqPs l m d (i + 1)
def sameP (l m : List S_Page) : Bool := (Int.ofNat l.length == Int.ofNat m.length) && eqPs l m l.length 0
theorem s_l02Same_loop (l m : List S_Page) (hl : l.length ≤ 9223372036854775807) (hm : l.length = m.length) : ∀ (d i : Nat), i + d = l.length → Ev (fun n => s_l02Same_ls n (i : Int) l m) (eqPs l m d i) := by
  intro d
  induction d with
  | zero =>
    intro i hi
    refine Ev.step (g := fun n => s_l02Same_r0 (s_l02Same_ls n) n i l m) (fun n => rfl) ?_
    unfold s_l02Same_r0
    exact Ev.df (by simp only [Int.ofNat_eq_natCast]; omega) (Ev.now _)
  | succ d ih =>
    intro i hi
    have c : (i : Int) < Int.ofNat l.length := by simp only [Int.ofNat_eq_natCast]; omega
    have c' : (i : Int) < Int.ofNat m.length := by simp only [Int.ofNat_eq_natCast]; omega
    refine Ev.step (g := fun n => s_l02Same_r0 (s_l02Same_ls n) n i l m) (fun n => rfl) ?_
    unfold s_l02Same_r0
    refine Ev.dt c (Ev.dt (by omega) (Ev.dt c (Ev.dt (by omega) (Ev.dt c' ?_))))
    rw [wI (by omega) (by omega)]
    show Ev (fun n => bif !(eqP (rd z_Page l i) (rd z_Page m i)) then some false else s_l02Same_ls n ((i + 1 : Nat) : Int) l m) (eqP (rd z_Page l i) (rd z_Page m i) && eqPs l m d (i + 1))
    cases eqP (rd z_Page l i) (rd z_Page m i)
    · exact Ev.now _
    · exact ih (i + 1) (by omega)
theorem s_l02Same_ev (l m : List S_Page) (hl : l.length ≤ 9223372036854775807) : Ev (fun n => s_l02Same n (l, ()) (m, ())) (sameP l m) := by
  unfold s_l02Same s_l02Same_m sameP
  by_cases h : l.length = m.length
  · simp only [h, bne_self_eq_false, cond_false, beq_self_eq_true, Bool.true_and]
    rw [← h]
    exact s_l02Same_loop l m hl h l.length 0 (by omega)
  · have : (Int.ofNat l.length == Int.ofNat m.length) = false := by simp only [beq_eq_false_iff_ne, ne_eq, Int.ofNat_eq_natCast]; omega
    simp only [bne, this, Bool.not_false, cond_true, Bool.false_and]
    exact Ev.now _
theorem Equal_loop (l m : List S_Page) (hl : l.length ≤ 9223372036854775807) (hm : l.length = m.length) : ∀ (d i : Nat), i + d = l.length → Ev (fun n => slices_Equal_i_Page_i_Page_ls n l m l.length (i : Int)) (eqPs l m d i) := by
  intro d
  induction d with
  | zero =>
    intro i hi
    refine Ev.step (g := fun n => slices_Equal_i_Page_i_Page_r0 (slices_Equal_i_Page_i_Page_ls n) n l m l.length i) (fun n => rfl) ?_
    unfold slices_Equal_i_Page_i_Page_r0
    exact Ev.df (by omega) (Ev.now _)
  | succ d ih =>
    intro i hi
    have c : (i : Int) < Int.ofNat l.length := by simp only [Int.ofNat_eq_natCast]; omega
    have c' : (i : Int) < Int.ofNat m.length := by simp only [Int.ofNat_eq_natCast]; omega
    refine Ev.step (g := fun n => slices_Equal_i_Page_i_Page_r0 (slices_Equal_i_Page_i_Page_ls n) n l m l.length i) (fun n => rfl) ?_
    unfold slices_Equal_i_Page_i_Page_r0
    refine Ev.dt (by omega) (Ev.dt (by omega) (Ev.dt c (Ev.dt (by omega) (Ev.dt c' ?_))))
    rw [wI (by omega) (by omega)]
    show Ev (fun n => bif !(eqP (rd z_Page l i) (rd z_Page m i)) then some false else slices_Equal_i_Page_i_Page_ls n l m l.length ((i + 1 : Nat) : Int)) (eqP (rd z_Page l i) (rd z_Page m i) && eqPs l m d (i + 1))
    cases eqP (rd z_Page l i) (rd z_Page m i)
    · exact Ev.now _
    · exact ih (i + 1) (by omega)
theorem Equal_ev (l m : List S_Page) (hl : l.length ≤ 9223372036854775807) : Ev (fun n => slices_Equal_i_Page_i_Page n l m) (sameP l m) := by
  unfold slices_Equal_i_Page_i_Page slices_Equal_i_Page_i_Page_m sameP
  by_cases h : l.length = m.length
  · simp only [h, bne_self_eq_false, cond_false, beq_self_eq_true, Bool.true_and]
    have := Equal_loop l m hl h l.length 0 (by omega)
    rw [h] at this
    exact this
  · have : (Int.ofNat l.length == Int.ofNat m.length) = false := by simp only [beq_eq_false_iff_ne, ne_eq, Int.ofNat_eq_natCast]; omega
    simp only [bne, this, Bool.not_false, cond_true, Bool.false_and]
    exact Ev.now _
/-- The rest of two boxes. -/
def restB (x y : BoxT) : Bool :=
  x.2.2.2.2.1 == y.2.2.2.2.1 && x.2.2.2.2.2.1 == y.2.2.2.2.2.1 && x.2.2.2.2.2.2.1.toList == y.2.2.2.2.2.2.1.toList && x.2.2.2.2.2.2.2.1 == y.2.2.2.2.2.2.2.1 && x.2.2.2.2.2.2.2.2.1.toList == y.2.2.2.2.2.2.2.2.1.toList &&
  x.2.2.2.2.2.2.2.2.2.1 == y.2.2.2.2.2.2.2.2.2.1 && x.2.2.2.2.2.2.2.2.2.2.1 == y.2.2.2.2.2.2.2.2.2.2.1 && x.2.2.2.2.2.2.2.2.2.2.2.1 == y.2.2.2.2.2.2.2.2.2.2.2.1 && x.2.2.2.2.2.2.2.2.2.2.2.2.1 == y.2.2.2.2.2.2.2.2.2.2.2.2.1 &&
  x.2.2.2.2.2.2.2.2.2.2.2.2.2.1 == y.2.2.2.2.2.2.2.2.2.2.2.2.2.1 && x.2.2.2.2.2.2.2.2.2.2.2.2.2.2.1 == y.2.2.2.2.2.2.2.2.2.2.2.2.2.2.1
def cpuB (x y : BoxT) : Bool := arrEq UU 3 x.1 y.1 && (x.2.1 == y.2.1 && (x.2.2.1 == y.2.2.1 && true))
theorem MOK_of {x : BoxT} (h : BOK x = true) : MOK x.2.2.2.1 = true := by
  unfold BOK at h
  simp only [Bool.and_eq_true] at h
  exact h.1.1.1.1.1.1.1.1.2
theorem i_sameRest_val (n : Nat) (x y : BoxT) : i_sameRest n x y = some (cpuB x y && restB x y) := by
  unfold i_sameRest restB
  show (bif cpuB x y then _ else _) = _
  cases cpuB x y
  · rfl
  cases x.2.2.2.2.1 == y.2.2.2.2.1
  · rfl
  cases x.2.2.2.2.2.1 == y.2.2.2.2.2.1
  · rfl
  cases x.2.2.2.2.2.2.1.toList == y.2.2.2.2.2.2.1.toList
  · rfl
  cases x.2.2.2.2.2.2.2.1 == y.2.2.2.2.2.2.2.1
  · rfl
  cases x.2.2.2.2.2.2.2.2.1.toList == y.2.2.2.2.2.2.2.2.1.toList
  · rfl
  cases x.2.2.2.2.2.2.2.2.2.1 == y.2.2.2.2.2.2.2.2.2.1
  · rfl
  cases x.2.2.2.2.2.2.2.2.2.2.1 == y.2.2.2.2.2.2.2.2.2.2.1
  · rfl
  cases x.2.2.2.2.2.2.2.2.2.2.2.1 == y.2.2.2.2.2.2.2.2.2.2.2.1
  · rfl
  cases x.2.2.2.2.2.2.2.2.2.2.2.2.1 == y.2.2.2.2.2.2.2.2.2.2.2.2.1
  · rfl
  cases x.2.2.2.2.2.2.2.2.2.2.2.2.2.1 == y.2.2.2.2.2.2.2.2.2.2.2.2.2.1 <;> rfl
theorem s_l12Same_ev (x y : BoxT) (hl : x.2.2.2.1.length ≤ 9223372036854775807) : Ev (fun n => s_l12Same n x y) (cpuB x y && sameP x.2.2.2.1 y.2.2.2.1 && restB x y) := by
  unfold s_l12Same restB
  show Ev (fun n => bif cpuB x y then _ else _) _
  cases cpuB x y
  · exact Ev.now _
  refine Ev.t rfl (Ev.bind (s_l02Same_ev _ _ hl) ?_)
  cases sameP x.2.2.2.1 y.2.2.2.1
  · exact Ev.now _
  refine Ev.t rfl (Ev.all fun n => ?_)
  cases x.2.2.2.2.1 == y.2.2.2.2.1
  · rfl
  cases x.2.2.2.2.2.1 == y.2.2.2.2.2.1
  · rfl
  cases x.2.2.2.2.2.2.1.toList == y.2.2.2.2.2.2.1.toList
  · rfl
  cases x.2.2.2.2.2.2.2.1 == y.2.2.2.2.2.2.2.1
  · rfl
  cases x.2.2.2.2.2.2.2.2.1.toList == y.2.2.2.2.2.2.2.2.1.toList
  · rfl
  cases x.2.2.2.2.2.2.2.2.2.1 == y.2.2.2.2.2.2.2.2.2.1
  · rfl
  cases x.2.2.2.2.2.2.2.2.2.2.1 == y.2.2.2.2.2.2.2.2.2.2.1
  · rfl
  cases x.2.2.2.2.2.2.2.2.2.2.2.1 == y.2.2.2.2.2.2.2.2.2.2.2.1
  · rfl
  cases x.2.2.2.2.2.2.2.2.2.2.2.2.1 == y.2.2.2.2.2.2.2.2.2.2.2.2.1
  · rfl
  cases x.2.2.2.2.2.2.2.2.2.2.2.2.2.1 == y.2.2.2.2.2.2.2.2.2.2.2.2.2.1 <;> rfl
/-- What a law asks of a box's data. -/
structure BoxD (x : BoxT) : Prop where
  regs : x.1.length = 16
  flags : R64 x.2.2.1
  pages : x.2.2.2.1.length ≤ 9223372036854775807
  data : ∀ y ∈ x.2.2.2.1, y.f2.size ≤ 9223372036854775807
  input : x.2.2.2.2.2.2.1.size ≤ 9223372036854775807
  output : x.2.2.2.2.2.2.2.2.1.size ≤ 9223372036854775807
  code : R64 x.2.2.2.2.2.2.2.2.2.2.2.2.1
def SB (x y : BoxT) : Bool := BOK x && (BOK y && (cpuB x y && sameP x.2.2.2.1 y.2.2.2.1 && restB x y))
theorem s_SameBox_ev (x y : BoxT) (hx : BoxD x) (hy : BoxD y) : Ev (fun n => s_SameBox n x y) (SB x y) := by
  unfold s_SameBox SB
  refine Ev.bind (s_BoxOK_ev x hx.pages hx.code) ?_
  cases BOK x
  · exact Ev.now _
  refine Ev.t rfl (Ev.bind (s_BoxOK_ev y hy.pages hy.code) ?_)
  cases BOK y
  · exact Ev.now _
  exact Ev.t rfl (Ev.bind (s_l12Same_ev x y hx.pages) (Ev.now _))
theorem i_SameBox_ev (x y : BoxT) (hx : BoxD x) (hy : BoxD y) : Ev (fun n => i_SameBox n x y) (SB x y) := by
  unfold i_SameBox SB
  refine Ev.bind (i_BoxOK_ev x hx.flags hx.pages hx.code) ?_
  cases h1 : BOK x
  · exact Ev.now _
  refine Ev.t rfl (Ev.bind (i_BoxOK_ev y hy.flags hy.pages hy.code) ?_)
  cases h2 : BOK y
  · exact Ev.now _
  have hs : Ev (fun n => i_SameMemory n (x.2.2.2.1, ()) (y.2.2.2.1, ())) (sameP x.2.2.2.1 y.2.2.2.1) := by
    unfold i_SameMemory
    refine Ev.bind (i_MemoryOK_ev _ hx.pages) (Ev.t (MOK_of h1) (Ev.bind (i_MemoryOK_ev _ hy.pages) (Ev.t (MOK_of h2) (Ev.bind (Equal_ev _ _ hx.pages) (Ev.now _)))))
  refine Ev.t rfl (Ev.bind hs ?_)
  cases sameP x.2.2.2.1 y.2.2.2.1
  · exact Ev.eq (Ev.now _) (by simp)
  · refine Ev.t rfl (Ev.bind (Ev.all fun n => i_sameRest_val n x y) (Ev.eq (Ev.now _) (by simp)))
theorem FnExactSameBox_ev (x y : BoxT) (hx : BoxD x) (hy : BoxD y) : Ev (fun n => w_FnExactSameBox n x y) true := by
  obtain ⟨t, h1, h2, h3⟩ := w_szBox_ev x 1048576 (by omega) hx.pages hx.data hx.input hx.output
  unfold w_FnExactSameBox
  refine Ev.bind h3 (Ev.dcases (fun _ => Ev.now _) fun c => ?_)
  obtain ⟨t', h1', h2', h3'⟩ := w_szBox_ev y t (by omega) hy.pages hy.data hy.input hy.output
  refine Ev.bind h3' (Ev.dcases (fun _ => Ev.now _) fun c' => ?_)
  have ex := w_toBox_ev x hx.regs (by omega)
  have ey := w_toBox_ev y hy.regs (by omega)
  refine Ev.bind ex (Ev.bind ey (Ev.bind (s_SameBox_ev x y hx hy) (Ev.bind ex (Ev.bind ey (Ev.bind (i_SameBox_ev x y hx hy) (Ev.f (by simp) ?_))))))
  exact Ev.bind ex (Ev.bind (w_eqBox_refl x hx.pages) (Ev.f rfl (Ev.bind ey (Ev.bind (w_eqBox_refl y hy.pages) (Ev.f rfl (Ev.now _))))))
end Go.Proofs.Ytigoabhkdipdeaa
