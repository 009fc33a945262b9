/- Laid by a program of this session (patch_print.py) out of the translation: plain functions and what the calls do. No condition. -/
import Derived.Test.YtigoabhkdipdeaaPFnExactStoreAtx0
import Derived.Test.YtigoabhkdipdeaaPFnExactStoreAtx4
import Derived.Lib.SliceRun
import Derived.Deep.QuietTactic
import Derived.BigQuiet
import Derived.StillTailTactics
namespace Go.Proofs.Ytigoabhkdipdeaa.PFnExactStoreAt
open Go.RowKit Go.Proofs.YtigoabhkdipdeaaW.PrintWords Go.Proofs.YtigoabhkdipdeaaW.PrintLast Go.Proofs.YtigoabhkdipdeaaW.PrintMore
attribute [local go_sem] max2_int min2_int max_two min_two max_three min_three max_four min_four   -- for this text's walks alone
set_option linter.unusedVariables false
set_option linter.unusedSimpArgs false

/-! ### impl_isSize: function 96 -/
def impl_isSize.f (a0 : Int) : Option (Bool) := if a0 = 1 then (some true) else (if a0 = 2 then (some true) else (if a0 = 4 then (some true) else (some (a0 == 8))))
set_option maxHeartbeats 8000000 in
set_option maxRecDepth 100000 in
theorem impl_isSize.calls (a0 : Int) (r : Bool) (w : World) (h : impl_isSize.f a0 = some r) :
  Calls Try.prog 96 #[.int .i64 a0] w fun e w' => e = .returned (.bool r) ∧ Drawn0 w w' := by
 have H : (if a0 = 1 then (some true) else (if a0 = 2 then (some true) else (if a0 = 4 then (some true) else (some (a0 == 8))))) = some r := h
 clear h
 by_cases c2 : a0 = 1
 ·rw [if_pos c2] at H
  have c2b0 : (a0 == 1) = true := beq_iff_eq.mpr c2
  have c2b1 : (a0 != 1) = false := bne_eq_false_iff_eq.mpr c2
  clear c2
  obtain rfl := Option.some.inj H
  go_enter Try.func96, Try.ntmps96
  go_wp2
  go_ret
  exact ⟨by first | rfl | (simp; done) | (simp [*]; done), by repeat (first | exact Drawn0.refl _ | apply Drawn0.step)⟩
 ·rw [if_neg c2] at H
  have c2b0 : (a0 == 1) = false := beq_eq_false_iff_ne.mpr c2
  have c2b1 : (a0 != 1) = true := bne_iff_ne.mpr c2
  by_cases c3 : a0 = 2
  ·rw [if_pos c3] at H
   have c3b0 : (a0 == 2) = true := beq_iff_eq.mpr c3
   have c3b1 : (a0 != 2) = false := bne_eq_false_iff_eq.mpr c3
   clear c3
   obtain rfl := Option.some.inj H
   go_enter Try.func96, Try.ntmps96
   go_wp2
   go_ret
   exact ⟨by first | rfl | (simp; done) | (simp [*]; done), by repeat (first | exact Drawn0.refl _ | apply Drawn0.step)⟩
  ·rw [if_neg c3] at H
   have c3b0 : (a0 == 2) = false := beq_eq_false_iff_ne.mpr c3
   have c3b1 : (a0 != 2) = true := bne_iff_ne.mpr c3
   by_cases c4 : a0 = 4
   ·rw [if_pos c4] at H
    have c4b0 : (a0 == 4) = true := beq_iff_eq.mpr c4
    have c4b1 : (a0 != 4) = false := bne_eq_false_iff_eq.mpr c4
    clear c4
    obtain rfl := Option.some.inj H
    go_enter Try.func96, Try.ntmps96
    go_wp2
    go_ret
    exact ⟨by first | rfl | (simp; done) | (simp [*]; done), by repeat (first | exact Drawn0.refl _ | apply Drawn0.step)⟩
   ·rw [if_neg c4] at H
    have c4b0 : (a0 == 4) = false := beq_eq_false_iff_ne.mpr c4
    have c4b1 : (a0 != 4) = true := bne_iff_ne.mpr c4
    obtain rfl := Option.some.inj H
    go_enter Try.func96, Try.ntmps96
    go_wp2
    go_ret
    exact ⟨by first | rfl | (simp; done) | (simp [*]; done), by repeat (first | exact Drawn0.refl _ | apply Drawn0.step)⟩

/-! ### impl_little: function 124 -/
def impl_little.l0 : Nat → Int → List Int → Int → Int → Option (ByteArray)
 | 0, _, _, _, _ => none
 | k + 1, x0, x5, x10, x11 => if x11 < x10 then (if 0 ≤ (wrap64 (8 * x11)) then (if 0 ≤ x11 then (if x11 < (x5.length : Int) then (impl_little.l0 k x0 (x5.set (x11 : Int).toNat ((shr .i64 x0 (wrap64 (8 * x11))) % 256)) x10 (wrap64 (x11 + 1))) else (none)) else (none)) else (none)) else (some (strOfNums x5))
def impl_little.f (k : Nat) (a0 : Int) (a1 : Int) : Option (ByteArray) := if 0 ≤ a1 then (if (a1 : Int).toNat ≤ 281474976710656 then ((some (List.replicate (a1 : Int).toNat 0 : List Int)).bind fun y179 => (impl_little.l0 k a0 y179 (y179.length : Int) 0)) else (none)) else (none)
theorem impl_little.mono_l : ∀ k, (∀ y0 y1 y2 y3, LeO (impl_little.l0 k y0 y1 y2 y3) (impl_little.l0 (k + 1) y0 y1 y2 y3))
 | 0 => fun _ _ _ _ r h => by simp [impl_little.l0] at h
 | k + 1 => by
  have ih0 := impl_little.mono_l k
  ·intro y0 y1 y2 y3
   unfold impl_little.l0
   repeat' first
   | (with_reducible exact ih0 _ _ _ _)
   | (with_reducible exact LeO.refl _)
   | (with_reducible exact LeO.none _)
   | (with_reducible refine LeO.ite ?_ ?_)
   | (with_reducible refine LeO.bind ?_ (fun _ => ?_))
   | refine LeO.ite ?_ ?_
   | refine LeO.bind ?_ (fun _ => ?_)
theorem impl_little.mono : ∀ a0 a1 k, LeO (impl_little.f k a0 a1) (impl_little.f (k + 1) a0 a1) := by
 intro a0 a1 k
 have ih0 := impl_little.mono_l k
 unfold impl_little.f
 repeat' first
   | (with_reducible exact ih0 _ _ _ _)
   | (with_reducible exact LeO.refl _)
   | (with_reducible exact LeO.none _)
   | (with_reducible refine LeO.ite ?_ ?_)
   | (with_reducible refine LeO.bind ?_ (fun _ => ?_))
   | refine LeO.ite ?_ ?_
   | refine LeO.bind ?_ (fun _ => ?_)
set_option maxHeartbeats 8000000 in
set_option maxRecDepth 100000 in
theorem impl_little.calls (k : Nat) (a0 : Int) (a1 : Int) (r : ByteArray) (w : World) (h : impl_little.f k a0 a1 = some r) :
  Calls Try.prog 124 #[.int .i64 a0, .int .i64 a1] w fun e w' => e = .returned (.string r) ∧ Below w.heap.size w w' := by
 have HB := Aside0.mk (Below.refl w.heap.size w)
 have H : (if 0 ≤ a1 then (if (a1 : Int).toNat ≤ 281474976710656 then ((some (List.replicate (a1 : Int).toNat 0 : List Int)).bind fun y179 => (impl_little.l0 k a0 y179 (y179.length : Int) 0)) else (none)) else (none)) = some r := h
 clear h
 by_cases c3 : 0 ≤ a1
 ·rw [if_pos c3] at H
  have c3b0 := eq_true c3
  have c3b1 : decide (0 ≤ a1) = true := decide_eq_true c3
  clear c3
  by_cases c4 : (a1 : Int).toNat ≤ 281474976710656
  ·rw [if_pos c4] at H
   have c4b0 := eq_true c4
   have c4b1 : decide ((a1 : Int).toNat ≤ 281474976710656) = true := decide_eq_true c4
   clear c4
   obtain ⟨y179, hy179⟩ : ∃ y_ : List Int, y_ = (List.replicate (a1 : Int).toNat 0) := ⟨_, rfl⟩
   replace H : (impl_little.l0 k a0 y179 (y179.length : Int) 0) = some r := by first | (rw [hy179]; with_reducible exact H) | (have H2_ := (Option.bind_some _ _).symm.trans H; rw [hy179]; with_reducible exact H2_) | (have H2_ := (Option.bind_some _ _).symm.trans H; with_reducible exact H2_) | with_reducible exact H | (rw [hy179]; exact H) | exact H
   have Ny179 := Aside0.mk hy179
   clear hy179
   have H' := Aside0.mk H
   clear H
   go_enter Try.func124, Try.ntmps124
   go_wp2_with (first | ((with_reducible refine gate_dst (N := 8) rfl ?_); refine Kd.R_make (Kd.int .u8) _ 5 rfl (N := 8) rfl 87 _ _ rfl a1 rfl rfl Try.underlying87 (.int .u8 0) 1 info5 rfl (by decide) (by omega) 0 (ok := fun _ => True) (okp := fun _ => True) rfl (fun _ hk => hk) trivial (of_decide_eq_true by4) (Nat.le_trans (Nat.mul_le_mul_right _ (of_decide_eq_true by4 : a1.toNat ≤ 281474976710656)) (by omega)) (Below.refl _ _) (Nat.le_refl _) ?_; intro v180 w5 ho6 hb hg_ hnew_; clear hg_ hnew_; (first | rw [← Ny179.out] at ho6 | (simp only [Int.reduceToNat] at ho6; rw [← Ny179.out] at ho6)); have n0_ := Aside0.mk (Kd.R_lower ho6 (below_size by3)); have n1_ := Aside0.mk (below_step by3 hb); clear HB; have HO181 := n0_; have HB := n1_; clear n0_ n1_; clear hb ho6; obtain ⟨Ao7, co7, eo7⟩ := Kd.R_slice HO181.out; subst eo7))
   go_loopg [11] k (fun kq v11 w' => ∃ (x5_1 : List Int) (x11_1 : Int), v11 = .int .i64 x11_1 ∧ Aside0 (impl_little.l0 kq a0 x5_1 (y179.length : Int) x11_1 = some r) ∧ Aside0 (kq ≤ k) ∧ Aside0 (Kd.R (Kd.int .u8) 5 w' w.heap.size (fun _ => True) (.slice Ao7 y179.length co7) x5_1) ∧ Aside0 (Below w.heap.size w w'))
   case atStart => exact ⟨(y179), (0), by7, H', ⟨Nat.le_refl _⟩, ⟨by (with_reducible repeat (first | apply Kd.R_alloc | apply Kd.R_drewN | apply Kd.R_drew)); exact HO181.out⟩, ⟨by repeat (first | (with_reducible first | exact HB.out | apply below_alloc | apply pw_below_drewN | apply below_drew1) | exact HB.out)⟩⟩
   case round =>
    clear H'
    (try clear c3); (try clear c3b0); (try clear c3b1); (try clear c4); (try clear c4b0); (try clear c4b1)
    obtain ⟨x5_1, x11_1, rfl, HA, HK1, HO_5, HB⟩ := hrel
    have hl5_1 := (Kd.R_reads' HO_5.out).1
    rw [hl5_1] at HO_5
    (try simp only [hl5_1])
    cases gk with
    | zero => exact absurd HA.out (by simp [impl_little.l0])
    | succ k1 =>
     have H := HA.out
     clear HA
     simp only [impl_little.l0] at H
     by_cases c8 : x11_1 < (y179.length : Int)
     ·rw [if_pos c8] at H
      have c8b0 : decide (x11_1 < (y179.length : Int)) = true := decide_eq_true c8
      (try (have c8b0_hl5_1 := c8b0; rw [hl5_1] at c8b0_hl5_1))
      clear c8
      obtain ⟨ji9, hji9⟩ : ∃ j_ : Int, (wrap64 (8 * x11_1)) = j_ := ⟨_, rfl⟩
      replace H : (if 0 ≤ (ji9) then (if 0 ≤ x11_1 then (if x11_1 < (x5_1.length : Int) then (impl_little.l0 k1 a0 (x5_1.set (x11_1 : Int).toNat ((shr .i64 a0 (ji9)) % 256)) (y179.length : Int) (wrap64 (x11_1 + 1))) else (none)) else (none)) else (none)) = some r := by first | (rw [hji9] at H; exact H) | (simp only [hji9] at H ⊢; exact H)
      have hji9w : (IntKind.i64.wrap (8 * x11_1)) = ji9 := (i64_w _).trans hji9
      by_cases c10 : 0 ≤ (ji9)
      ·rw [if_pos c10] at H
       have c10b0 := eq_true c10
       have c10b1 : decide (0 ≤ (ji9)) = true := decide_eq_true c10
       clear c10
       obtain ⟨ji11, hji11⟩ : ∃ j_ : Int, (shr .i64 a0 (ji9)) = j_ := ⟨_, rfl⟩
       replace H : (if 0 ≤ x11_1 then (if x11_1 < (x5_1.length : Int) then (impl_little.l0 k1 a0 (x5_1.set (x11_1 : Int).toNat ((ji11) % 256)) (y179.length : Int) (wrap64 (x11_1 + 1))) else (none)) else (none)) = some r := by first | (rw [hji11] at H; exact H) | (simp only [hji11] at H ⊢; exact H)
       have hji11_ : (a0 / 2 ^ min (ji9).toNat 64) = ji11 := hji11
       have hji11z : (ji9) ≤ 64 → (a0 / 2 ^ (ji9).toNat) = ji11 := shr_small hji11
       by_cases c12 : 0 ≤ x11_1
       ·rw [if_pos c12] at H
        have c12b0 : decide (0 ≤ x11_1) = true := decide_eq_true c12
        clear c12
        by_cases c13 : x11_1 < (x5_1.length : Int)
        ·rw [if_pos c13] at H
         have c13b0 : decide (x11_1 < (x5_1.length : Int)) = true := decide_eq_true c13
         (try (have c13b0_hl5_1 := c13b0; rw [hl5_1] at c13b0_hl5_1))
         clear c13
         obtain ⟨y182, hy182⟩ : ∃ y_ : List Int, y_ = (x5_1.set (x11_1 : Int).toNat ((ji11) % 256)) := ⟨_, rfl⟩
         replace H : (impl_little.l0 k1 a0 y182 (y179.length : Int) (wrap64 (x11_1 + 1))) = some r := by first | (rw [hy182]; with_reducible exact H) | (have H2_ := (Option.bind_some _ _).symm.trans H; rw [hy182]; with_reducible exact H2_) | (have H2_ := (Option.bind_some _ _).symm.trans H; with_reducible exact H2_) | with_reducible exact H | (rw [hy182]; exact H) | exact H
         have Ny182 := Aside0.mk hy182
         clear hy182
         have H' := Aside0.mk H
         clear H
         have p14 : 0 ≤ (x11_1 : Int) := of_decide_eq_true by4
         have q14 : (x11_1 : Int) < ((x5_1.length : Int) : Int) := of_decide_eq_true by4
         obtain ⟨go14, co14, eo14, gb14, gl14, cl14, HG14⟩ := Kd.R_form HO_5.out (by omega)
         (first | cases eo14 | (injection eo14 with ea_ en_ ec_; (first | subst ea_ | (injection ea_ with ea_; subst ea_)); subst ec_; clear en_))
         have GB14 := Aside0.mk gb14
         have GG14 := Aside0.mk HG14
         clear gb14 gl14 HG14
         obtain ⟨hx14_0, hf14_0⟩ := Kd.R_celln 0 HO_5.out (x11_1 : Int) p14 q14
         replace p14 := eq_true p14
         replace q14 := eq_true q14
         have HP15 := Kd.R_putg HO_5.out (x11_1 : Int) ((ji11) % 256)
         go_wp2_with (first | ((with_reducible refine gate_store (t := 5) (p := 21) rfl ?_); refine store_event (t := 5) (p := 21) (v := ?vo_w16) (w1 := (wr.setCell ⟨go14, (x11_1 : Int).toNat, none⟩ (.int .u8 ((ji11) % 256)))) ?hg ?ho ?hn ?hr ?_; (case ho => rfl); (case hg => rfl); (case hn => rfl); (case hr => first | (go_simp; done) | (go_simp; rfl)); intro w16 hw; have hg : wr.grownBy w16 (some go14) := (by rw [hw]; exact HP15.2); have hp_ : Kd.R (Kd.int .u8) 5 w16 w.heap.size (fun _ => True) (.slice (some ⟨go14, 0, none⟩) x5_1.length co7) y182 := (by rw [hw, Ny182.out]; exact HP15.1); clear HP15; have n0_ := Aside0.mk (hp_); have n1_ := Aside0.mk ((by rw [hw]; exact below_set (HB.out) GB14.out : Below w.heap.size w w16)); clear HO_5; clear HB; have HO_5 := n0_; have HB := n1_; clear n0_ n1_; clear hg hw hp_))
         (try simp only [← hl5_1])
         go_roundg k1
         case measure => have := HK1.out; omega
         case rel => exact ⟨(y182), (wrap64 (x11_1 + 1)), by7, H', ⟨by have := HK1.out; omega⟩, ⟨by (try simp only [hl5_1]); (with_reducible repeat (first | apply Kd.R_alloc | apply Kd.R_drewN | apply Kd.R_drew)); exact HO_5.out⟩, ⟨by repeat (first | (with_reducible first | exact HB.out | apply below_alloc | apply pw_below_drewN | apply below_drew1) | exact HB.out)⟩⟩
        ·rw [if_neg c13] at H
         exact absurd H (by simp)
       ·rw [if_neg c12] at H
        exact absurd H (by simp)
      ·rw [if_neg c10] at H
       exact absurd H (by simp)
     ·rw [if_neg c8] at H
      have c8b0 : decide (x11_1 < (y179.length : Int)) = false := decide_eq_false c8
      (try (have c8b0_hl5_1 := c8b0; rw [hl5_1] at c8b0_hl5_1))
      clear c8
      obtain rfl := Option.some.inj H
      have hcv17 := own_string (P := Try.prog) Try.underlying87 Try.underlying5 Try.underlying9 (Kd.own_of_R HO_5.out)
      go_wp2
      go_ret
      exact ⟨by first | rfl | (simp [errW_none, errW_some] <;> rfl) | (simp [*, errW_none, errW_some] <;> rfl), by repeat (first | (with_reducible first | exact HB.out | apply below_alloc | apply pw_below_drewN | apply below_drew1) | exact HB.out)⟩
  ·rw [if_neg c4] at H
   exact absurd H (by simp)
 ·rw [if_neg c3] at H
  exact absurd H (by simp)

-- NOT PRINTED: function 256 (impl_Page_256)

/-! ### impl_Memory_pageOf: function 229 -/
/-- A call of a function that has a body enters it. -/
theorem enters_body {P : Program} {f : FuncId} {fn : Func} {c : Code} (hf : P.funcs[f]? = some fn) (hname : (fn.name == "runtime.NumGoroutine") = false) (hb : fn.body = some c) (args : Array Value) (w : World) : (callFunc f args).run P w = .ok (.enter f args) w := by
 have h1 : fn.name ≠ "runtime.NumGoroutine" := by simpa using hname
 simp [callFunc, hf, h1, hb, mark]
/-- Where in a list something first holds; -1 where it never does. -/
def firstAt {α : Type} (p : α → Bool) (l : List α) : Int := match l.findIdx? p with
 | some i => (i : Int)
 | none => -1
theorem firstAt_hit {α : Type} {p : α → Bool} {l : List α} {d : α} {i : Nat} (h : i < l.length) (hp : p (l.getD i d) = true) (hno : ∀ j, j < i → p (l.getD j d) = false) : firstAt p l = i := by
 have key : l.findIdx? p = some i := by
  rw [List.findIdx?_eq_some_iff_getElem]
  refine ⟨h, ?_, fun j hj => ?_⟩
  ·rw [← hp, List.getD_eq_getElem?_getD, List.getElem?_eq_getElem h]; rfl
  ·have := hno j hj
   rw [List.getD_eq_getElem?_getD, List.getElem?_eq_getElem (by omega)] at this
   rw [show p l[j] = false from this]; decide
 unfold firstAt
 rw [key]
theorem firstAt_miss {α : Type} {p : α → Bool} {l : List α} {d : α} (hno : ∀ j, j < l.length → p (l.getD j d) = false) : firstAt p l = -1 := by
 have key : l.findIdx? p = none := by
  rw [List.findIdx?_eq_none_iff]
  intro x hx
  obtain ⟨j, hj, rfl⟩ := List.getElem_of_mem hx
  have := hno j hj
  rwa [List.getD_eq_getElem?_getD, List.getElem?_eq_getElem hj] at this
 unfold firstAt
 rw [key]
theorem firstAt_ge {α : Type} (p : α → Bool) (l : List α) : -1 ≤ firstAt p l ∧ firstAt p l < l.length := by
 unfold firstAt
 cases h : l.findIdx? p with
 | none => exact ⟨by simp, by simp; omega⟩
 | some i =>
  obtain ⟨h1, _⟩ := List.findIdx?_eq_some_iff_getElem.1 h
  exact ⟨(by have := Int.natCast_nonneg i; omega : (-1 : Int) ≤ (i : Int)), by simpa using h1⟩
theorem within_at (a b c : Int) : impl_within.f a b c = some (decide (b ≤ a) && decide (a ≤ c)) := by
 unfold impl_within.f
 by_cases h : a ≥ b
 ·rw [if_pos h]; simp [show b ≤ a from h]
 ·rw [if_neg h]; simp [show ¬ b ≤ a from h]
set_option maxHeartbeats 8000000 in
set_option maxRecDepth 100000 in
/-- slices.IndexFunc at this type, whatever is asked of an element. -/
theorem indexFunc153.gives (p : S153 → Bool) (g : Nat) (lb : Array Value) (eg : ∀ args w, (callFunc g args).run Try.prog w = .ok (.enter g args) w) (A : Option Addr) (c : Nat) (l : List S153) (w : World) (hr : Kd.C k153 w A l.length l)
  (hp : ∀ (W : World) (x : S153), Below w.heap.size w W → Calls Try.prog g (#[.agg #[.int .i64 x.f0, .int .i64 x.f1, .string x.f2]] ++ lb) W fun e w' => e = .returned (.bool (p x)) ∧ Below W.heap.size W w') :
  Calls Try.prog 256 #[.slice A l.length c, .func (.func g) #[] lb] w fun e w' => e = .returned (.int .i64 (firstAt p l)) ∧ Below w.heap.size w w' := by
 have hll := Aside0.mk hr.2.1
 have HP := Aside0.mk hp
 have HR := Aside0.mk hr
 clear hp hr
 go_enter Try.func256, Try.ntmps256
 go_wp2
 go_loopg [5, 8] l.length (fun gg _ s8 wr => ∃ x : Int, s8 = .int .i64 x ∧ Aside0 (0 ≤ x ∧ x ≤ l.length) ∧ Aside0 ((l.length : Int) - x ≤ gg) ∧ Aside0 (Below w.heap.size w wr) ∧ Aside0 (∀ j : Nat, (j : Int) < x → p (rd_T153 l j) = false))
 case atStart => exact ⟨0, rfl, ⟨by omega⟩, ⟨by omega⟩, ⟨Below.refl _ _⟩, ⟨fun j hj => absurd hj (by omega)⟩⟩
 case round =>
  obtain ⟨x, rfl, hx, hg, HB, AL⟩ := hrel
  by_cases hlt : x < (l.length : Int)
  ·have hx0 := hx.out.1
   obtain ⟨ad, e1, h0, h1, h2⟩ := at_T153 HR.out x hx0 hlt
   cases e1
   replace h0 := (HB.out.cell (World.block_lt_of_cell? w _ h0)).trans h0
   replace h1 := (HB.out.cell (World.block_lt_of_cell? w _ h1)).trans h1
   replace h2 := (HB.out.cell (World.block_lt_of_cell? w _ h2)).trans h2
   have hcall := HP.out wr (rd_T153 l x) HB.out
   have HX := Aside0.mk (And.intro hx0 hlt)
   have hw : wrap64 (x + 1) = x + 1 := by have := hll.out; unfold wrap64; omega
   have HW := Aside0.mk hw
   clear hw hx
   have c0 := decide_eq_true hlt
   have p0 := eq_true hx0
   have q0 := eq_true hlt
   clear hx0 hlt
   cases hq : p (rd_T153 l x) with
   | true =>
    rw [hq] at hcall
    have HQ := Aside0.mk hq
    have HC := Aside0.mk hcall
    clear hcall hq
    go_wp2_with ((with_reducible show Calls Try.prog g _ _ _); refine HC.out.mono ?_; rintro e w' ⟨rfl, hb'⟩)
    go_ret
    refine ⟨?_, below_then HB.out HB.out.size hb'⟩
    rw [firstAt_hit (d := z153) (i := x.toNat) (by have := HX.out; omega) (by have := HQ.out; exact this) (fun j hj => AL.out j (by omega))]
    rw [Int.toNat_of_nonneg HX.out.1]; first | done | rfl
   | false =>
    rw [hq] at hcall
    have HQ := Aside0.mk hq
    have HC := Aside0.mk hcall
    clear hcall hq
    go_wp2_with ((with_reducible show Calls Try.prog g _ _ _); refine HC.out.mono ?_; rintro e w' ⟨rfl, hb'⟩; have HB' := Aside0.mk hb'; clear hb')
    go_roundg (l.length - (x + 1)).toNat
    case measure => have := hg.out; have := HX.out; omega
    case rel =>
     refine ⟨x + 1, by first | rfl | rw [HW.out], ⟨by have := HX.out; omega⟩, ⟨by have := HX.out; omega⟩, ⟨below_then HB.out HB.out.size HB'.out⟩, ⟨fun j hj => ?_⟩⟩
     by_cases e : (j : Int) = x
     ·have := HQ.out; rw [← e] at this; exact this
     ·exact AL.out j (by omega)
  ·have c0 := decide_eq_false hlt
   have HX := Aside0.mk (show x = l.length by have := hx.out; omega)
   clear hlt hx
   go_wp2
   go_ret
   exact ⟨by rw [firstAt_miss (d := z153) (fun j hj => AL.out j (by rw [HX.out]; exact_mod_cast hj))]; first | done | rfl, HB.out⟩
/-- The literal in pageOf. -/
theorem impl_Memory_pageOf_1.gives (x : S153) (a : Int) (B : Nat) (w : World) (hB : B < w.heap.size) (hc : w.cell? ⟨B, 0, none⟩ = some (.int .i64 a)) :
  Calls Try.prog 257 #[.agg #[.int .i64 x.f0, .int .i64 x.f1, .string x.f2], .pointer (some ⟨B, 0, none⟩)] w fun e w' => e = .returned (.bool (x.f0 == wrap64 (a - Int.tmod a 256))) ∧ Below w.heap.size w w' := by
 have hne : ¬ (B = w.heap.size) := by omega
 have hne2 : ¬ (w.heap.size = B) := by omega
 go_enter Try.func257, Try.ntmps257
 go_wp2
 go_ret
 exact ⟨by first | rfl | (simp; done), below_alloc (Below.refl _ _) _⟩
def impl_Memory_pageOf.f (l0_0 : List (S153)) (a1 : Int) : Option (Int) := some (if 0 ≤ a1 ∧ a1 ≤ 65535 then firstAt (fun p => p.f0 == wrap64 (a1 - Int.tmod a1 256)) l0_0 else -1)
set_option maxHeartbeats 8000000 in
set_option maxRecDepth 100000 in
theorem impl_Memory_pageOf.calls (A0_0 : Option Addr) (c0_0 : Nat) (l0_0 : List (S153)) (a1 : Int) (r : Int) (w : World) (hr0_0 : Kd.C k153 w A0_0 l0_0.length l0_0) (hc0_0 : l0_0.length ≤ c0_0) (h : impl_Memory_pageOf.f l0_0 a1 = some r) :
  Calls Try.prog 229 #[.agg #[.slice A0_0 l0_0.length c0_0], .int .i64 a1] w fun e w' => e = .returned (.int .i64 r) ∧ Below w.heap.size w w' := by
 have eg : ∀ args w, (callFunc 257 args).run Try.prog w = .ok (.enter 257 args) w := enters_body Try.func257 by2 rfl
 have hu := Try.underlying45
 unfold impl_Memory_pageOf.f at h
 obtain rfl := Option.some.inj h
 clear h
 have hw := within_at a1 0 65535
 by_cases h1 : 0 ≤ a1 ∧ a1 ≤ 65535
 ·rw [decide_eq_true h1.1, decide_eq_true h1.2] at hw
  rw [if_pos h1]
  have HW := Aside0.mk hw
  have HV := Aside0.mk (fun (W : World) (B : Nat) (hb : Below w.heap.size w W) (hB : B < W.heap.size) (hc : W.cell? ⟨B, 0, none⟩ = some (.int .i64 a1)) => indexFunc153.gives (fun p => p.f0 == wrap64 (a1 - Int.tmod a1 256)) 257 #[.pointer (some ⟨B, 0, none⟩)] eg A0_0 c0_0 l0_0 W (Kd.C_below hr0_0 hb) (fun W' x hW' => impl_Memory_pageOf_1.gives x a1 B W' (Nat.lt_of_lt_of_le hB hW'.size) ((hW'.cell (p := ⟨B, 0, none⟩) hB).trans hc)))
  clear hw h1 hr0_0 hc0_0
  generalize firstAt (fun p : S153 => p.f0 == wrap64 (a1 - Int.tmod a1 256)) l0_0 = r at HV ⊢
  go_enter Try.func229, Try.ntmps229
  go_wp2_with (first | (go_at_call 87; (with_reducible refine (impl_within.calls _ _ _ _ _ HW.out).mono ?_); rintro e w' ⟨rfl, ⟨nd, rfl⟩⟩) | (go_at_call 256; refine (HV.out _ _ by131 (by simp) (by simp)).mono ?_; rintro e w' ⟨rfl, hb⟩))
  go_ret
  exact ⟨rfl, below_then by131 (by simp; try omega) hb⟩
 ·have hf : impl_within.f a1 0 65535 = some false := by
   rw [hw]; congr 1
   by_cases h0 : 0 ≤ a1
   ·rw [decide_eq_false (fun h2 => h1 ⟨h0, h2⟩), Bool.and_false]
   ·rw [decide_eq_false h0, Bool.false_and]
  rw [if_neg h1]
  have HW := Aside0.mk hf
  clear hw h1 hf hr0_0 hc0_0
  go_enter Try.func229, Try.ntmps229
  go_wp2_with (first | (go_at_call 87; (with_reducible refine (impl_within.calls _ _ _ _ _ HW.out).mono ?_); rintro e w' ⟨rfl, ⟨nd, rfl⟩⟩))
  go_ret
  exact ⟨rfl, by131⟩

/-! ### impl_Memory_fault: function 167 -/
def impl_Memory_fault.l0 : Nat → Int → Int → Int → Int → List (S153) → Option (Int)
 | 0, _, _, _, _, _ => none
 | k + 1, x1, x3, x11, x12, x184000 => if x12 < x11 then ((impl_Memory_pageOf.f x184000 (wrap64 (x1 + x12))).bind fun t184 => (if t184 < 0 then (some 13) else (if x3 = 0 then (impl_Memory_fault.l0 k x1 x3 x11 (wrap64 (x12 + 1)) x184000) else (if 0 ≤ t184 then (if t184 < (x184000.length : Int) then (if (Go.bits .and .i64 ((rd_T153 x184000 t184).f1) x3) = 0 then (some 14) else (impl_Memory_fault.l0 k x1 x3 x11 (wrap64 (x12 + 1)) x184000)) else (none)) else (none))))) else (some 0)
def impl_Memory_fault.f (k : Nat) (l0_0 : List (S153)) (a1 : Int) (a2 : Int) (a3 : Int) : Option (Int) := impl_Memory_fault.l0 k a1 a3 a2 0 l0_0
theorem impl_Memory_fault.mono_l : ∀ k, (∀ y0 y1 y2 y3 y4, LeO (impl_Memory_fault.l0 k y0 y1 y2 y3 y4) (impl_Memory_fault.l0 (k + 1) y0 y1 y2 y3 y4))
 | 0 => fun _ _ _ _ _ r h => by simp [impl_Memory_fault.l0] at h
 | k + 1 => by
  have ih0 := impl_Memory_fault.mono_l k
  ·intro y0 y1 y2 y3 y4
   unfold impl_Memory_fault.l0
   repeat' first
   | (with_reducible exact ih0 _ _ _ _ _)
   | (with_reducible exact LeO.refl _)
   | (with_reducible exact LeO.none _)
   | (with_reducible refine LeO.ite ?_ ?_)
   | (with_reducible refine LeO.bind ?_ (fun _ => ?_))
   | refine LeO.ite ?_ ?_
   | refine LeO.bind ?_ (fun _ => ?_)
theorem impl_Memory_fault.mono : ∀ a0 a1 a2 a3 k, LeO (impl_Memory_fault.f k a0 a1 a2 a3) (impl_Memory_fault.f (k + 1) a0 a1 a2 a3) := by
 intro a0 a1 a2 a3 k
 have ih0 := impl_Memory_fault.mono_l k
 unfold impl_Memory_fault.f
 repeat' first
   | (with_reducible exact ih0 _ _ _ _ _)
   | (with_reducible exact LeO.refl _)
   | (with_reducible exact LeO.none _)
   | (with_reducible refine LeO.ite ?_ ?_)
   | (with_reducible refine LeO.bind ?_ (fun _ => ?_))
   | refine LeO.ite ?_ ?_
   | refine LeO.bind ?_ (fun _ => ?_)
set_option maxHeartbeats 8000000 in
set_option maxRecDepth 100000 in
theorem impl_Memory_fault.calls (k : Nat) (A0_0 : Option Addr) (c0_0 : Nat) (l0_0 : List (S153)) (a1 : Int) (a2 : Int) (a3 : Int) (r : Int) (w : World) (hr0_0 : Kd.C k153 w A0_0 l0_0.length l0_0) (hc0_0 : l0_0.length ≤ c0_0) (h : impl_Memory_fault.f k l0_0 a1 a2 a3 = some r) :
  Calls Try.prog 167 #[.agg #[.slice A0_0 l0_0.length c0_0], .int .i64 a1, .int .i64 a2, .int .i64 a3] w fun e w' => e = .returned (.int .i64 r) ∧ Below w.heap.size w w' := by
 have hu45 := Try.underlying45
 have HR0_0 := Aside0.mk hr0_0
 have HC0_0 := Aside0.mk hc0_0
 clear hr0_0 hc0_0
 have HB := Aside0.mk (Below.refl w.heap.size w)
 have H : (impl_Memory_fault.l0 k a1 a3 a2 0 l0_0) = some r := h
 clear h
 have H' := Aside0.mk H
 clear H
 go_enter Try.func167, Try.ntmps167
 go_wp2_with (first | ((with_reducible refine gate_dst (N := 4) rfl ?_); refine box_event ?hg (N := 4) ?hd (cs := #[.slice A0_0 l0_0.length c0_0]) (t := 45) ?hr ?_; (case hd => rfl); (case hg => rfl); (case hr => first | (go_simp; done) | (go_simp; rfl)); intro gb183 hg w5 hbox hb; have n0_ := Aside0.mk (below_step by3 hb); have n1_ := Aside0.mk (hbox); have n2_ := Aside0.mk ((by1 : w.heap.size ≤ gb183)); have n3_ := Aside0.mk ((by1 : w.heap.size ≤ gb183)); clear HB; have HB := n0_; have BK183 := n1_; have GW183 := n2_; have GE183 := n3_; clear n0_ n1_ n2_ n3_; clear hb hbox hg))
 go_loopg [12] k (fun kq v12 w' => ∃ (x12_1 : Int), v12 = .int .i64 x12_1 ∧ Aside0 (impl_Memory_fault.l0 kq a1 a3 a2 x12_1 l0_0 = some r) ∧ Aside0 (kq ≤ k) ∧ Aside0 (w'.heap[gb183]? = some (.cells #[(.slice A0_0 l0_0.length c0_0)] 45 (0, 0))) ∧ Aside0 (Below w.heap.size w w'))
 case atStart => exact ⟨(0), by7, H', ⟨Nat.le_refl _⟩, ⟨by (with_reducible repeat (first | refine blk_drewN ?_ _ | refine blk_drew ?_ | refine blk_alloc ?_ _)); exact BK183.out⟩, ⟨by repeat (first | (with_reducible first | exact HB.out | apply below_alloc | apply pw_below_drewN | apply below_drew1 | refine below_set ?_ GE183.out) | exact HB.out)⟩⟩
 case round =>
  clear H'
  obtain ⟨x12_1, rfl, HA, HK1, BK183, HB⟩ := hrel
  cases gk with
  | zero => exact absurd HA.out (by simp [impl_Memory_fault.l0])
  | succ k1 =>
   have H := HA.out
   clear HA
   simp only [impl_Memory_fault.l0] at H
   by_cases c6 : x12_1 < a2
   ·rw [if_pos c6] at H
    have c6b0 : decide (x12_1 < a2) = true := decide_eq_true c6
    clear c6
    replace H := Option.bind_eq_some_iff.mp H
    obtain ⟨t184, A70, H⟩ := H
    replace H : (if t184 < 0 then (some 13) else (if a3 = 0 then (impl_Memory_fault.l0 k1 a1 a3 a2 (wrap64 (x12_1 + 1)) l0_0) else (if 0 ≤ t184 then (if t184 < (l0_0.length : Int) then (if (Go.bits .and .i64 ((rd_T153 l0_0 t184).f1) a3) = 0 then (some 14) else (impl_Memory_fault.l0 k1 a1 a3 a2 (wrap64 (x12_1 + 1)) l0_0)) else (none)) else (none)))) = some r := H
    have A7 := Aside0.mk A70
    clear A70
    by_cases c8 : t184 < 0
    ·rw [if_pos c8] at H
     have c8b0 : decide (t184 < 0) = true := decide_eq_true c8
     clear c8
     obtain rfl := Option.some.inj H
     have hcz9_0 := cz BK183.out 0 (.slice A0_0 l0_0.length c0_0)
     have hfz9_0 := blk_frozen BK183.out 0
     go_wp2_with (first | ((with_reducible refine gate_callee (f := 229) rfl ?_); refine goesL_ (some 19) rfl rfl Try.func229 by2 rfl #[.agg #[.slice A0_0 l0_0.length c0_0], .int .i64 (wrap64 (a1 + x12_1))] rfl by0 ?_; (with_reducible refine (impl_Memory_pageOf.calls _ _ l0_0 (wrap64 (a1 + x12_1)) t184 _ ?side1 ?side2 A7.out).mono ?_); (case side1 => repeat (first | exact (Kd.C_below HR0_0.out HB.out) | (with_reducible refine Kd.C_alloc ?_ _) | (with_reducible refine Kd.C_drewN ?_ _) | (with_reducible refine Kd.C_drew ?_))); (case side2 => exact HC0_0.out); rintro e w10 ⟨rfl, hb⟩; refine ⟨_, rfl, ?_⟩; have n0_ := Aside0.mk (blk_below (g := gb183) (o := .cells #[.slice A0_0 l0_0.length c0_0] 45 (0, 0)) by96 hb); have n1_ := Aside0.mk (below_step by68 hb); clear BK183; clear HB; have BK183 := n0_; have HB := n1_; clear n0_ n1_; (try clear hb); (try clear hb2); (try clear hk); (try clear hi)))
     go_ret
     exact ⟨by first | rfl | (simp [errW_none, errW_some] <;> rfl) | (simp [*, errW_none, errW_some] <;> rfl), by repeat (first | (with_reducible first | exact HB.out | apply below_alloc | apply pw_below_drewN | apply below_drew1 | refine below_set ?_ GE183.out) | exact HB.out)⟩
    ·rw [if_neg c8] at H
     have c8b0 : decide (t184 < 0) = false := decide_eq_false c8
     clear c8
     by_cases c11 : a3 = 0
     ·rw [if_pos c11] at H
      have c11b0 : (a3 == 0) = true := beq_iff_eq.mpr c11
      have c11b1 : (a3 != 0) = false := bne_eq_false_iff_eq.mpr c11
      clear c11
      have H' := Aside0.mk H
      clear H
      have hcz12_0 := cz BK183.out 0 (.slice A0_0 l0_0.length c0_0)
      have hfz12_0 := blk_frozen BK183.out 0
      go_wp2_with (first | ((with_reducible refine gate_callee (f := 229) rfl ?_); refine goesL_ (some 19) rfl rfl Try.func229 by2 rfl #[.agg #[.slice A0_0 l0_0.length c0_0], .int .i64 (wrap64 (a1 + x12_1))] rfl by0 ?_; (with_reducible refine (impl_Memory_pageOf.calls _ _ l0_0 (wrap64 (a1 + x12_1)) t184 _ ?side1 ?side2 A7.out).mono ?_); (case side1 => repeat (first | exact (Kd.C_below HR0_0.out HB.out) | (with_reducible refine Kd.C_alloc ?_ _) | (with_reducible refine Kd.C_drewN ?_ _) | (with_reducible refine Kd.C_drew ?_))); (case side2 => exact HC0_0.out); rintro e w13 ⟨rfl, hb⟩; refine ⟨_, rfl, ?_⟩; have n0_ := Aside0.mk (blk_below (g := gb183) (o := .cells #[.slice A0_0 l0_0.length c0_0] 45 (0, 0)) by96 hb); have n1_ := Aside0.mk (below_step by68 hb); clear BK183; clear HB; have BK183 := n0_; have HB := n1_; clear n0_ n1_; (try clear hb); (try clear hb2); (try clear hk); (try clear hi)))
      go_roundg k1
      case measure => have := HK1.out; omega
      case rel => exact ⟨(wrap64 (x12_1 + 1)), by7, H', ⟨by have := HK1.out; omega⟩, ⟨by (with_reducible repeat (first | refine blk_drewN ?_ _ | refine blk_drew ?_ | refine blk_alloc ?_ _)); exact BK183.out⟩, ⟨by repeat (first | (with_reducible first | exact HB.out | apply below_alloc | apply pw_below_drewN | apply below_drew1 | refine below_set ?_ GE183.out) | exact HB.out)⟩⟩
     ·rw [if_neg c11] at H
      have c11b0 : (a3 == 0) = false := beq_eq_false_iff_ne.mpr c11
      have c11b1 : (a3 != 0) = true := bne_iff_ne.mpr c11
      by_cases c14 : 0 ≤ t184
      ·rw [if_pos c14] at H
       have c14b0 : decide (0 ≤ t184) = true := decide_eq_true c14
       clear c14
       by_cases c15 : t184 < (l0_0.length : Int)
       ·rw [if_pos c15] at H
        have c15b0 : decide (t184 < (l0_0.length : Int)) = true := decide_eq_true c15
        clear c15
        by_cases c16 : (Go.bits .and .i64 ((rd_T153 l0_0 t184).f1) a3) = 0
        ·rw [if_pos c16] at H
         have c16b0 : ((Go.bits .and .i64 ((rd_T153 l0_0 t184).f1) a3) == 0) = true := beq_iff_eq.mpr c16
         have c16b1 : ((Go.bits .and .i64 ((rd_T153 l0_0 t184).f1) a3) != 0) = false := bne_eq_false_iff_eq.mpr c16
         clear c16
         obtain rfl := Option.some.inj H
         have hcz17_0 := cz BK183.out 0 (.slice A0_0 l0_0.length c0_0)
         have hfz17_0 := blk_frozen BK183.out 0
         go_wp2_with (first | ((with_reducible refine gate_callee (f := 229) rfl ?_); refine goesL_ (some 19) rfl rfl Try.func229 by2 rfl #[.agg #[.slice A0_0 l0_0.length c0_0], .int .i64 (wrap64 (a1 + x12_1))] rfl by0 ?_; (with_reducible refine (impl_Memory_pageOf.calls _ _ l0_0 (wrap64 (a1 + x12_1)) t184 _ ?side1 ?side2 A7.out).mono ?_); (case side1 => repeat (first | exact (Kd.C_below HR0_0.out HB.out) | (with_reducible refine Kd.C_alloc ?_ _) | (with_reducible refine Kd.C_drewN ?_ _) | (with_reducible refine Kd.C_drew ?_))); (case side2 => exact HC0_0.out); rintro e w18 ⟨rfl, hb⟩; refine ⟨_, rfl, ?_⟩; have n0_ := Aside0.mk (blk_below (g := gb183) (o := .cells #[.slice A0_0 l0_0.length c0_0] 45 (0, 0)) by96 hb); have n1_ := Aside0.mk (below_step by68 hb); clear BK183; clear HB; have BK183 := n0_; have HB := n1_; clear n0_ n1_; (try clear hb); (try clear hb2); (try clear hk); (try clear hi); have hcz19_0 := cz BK183.out 0 (.slice A0_0 l0_0.length c0_0); have hfz19_0 := blk_frozen BK183.out 0; have p185 : 0 ≤ (t184 : Int) := of_decide_eq_true by4; have q185 : t184 < (l0_0.length : Int) := of_decide_eq_true by4; obtain ⟨ad185, e185, hx185_0, hx185_1, hx185_2⟩ := at_T153 HR0_0.out t184 p185 q185; cases e185; replace hx185_0 := (HB.out.cell (World.block_lt_of_cell? w _ hx185_0)).trans hx185_0; replace hx185_1 := (HB.out.cell (World.block_lt_of_cell? w _ hx185_1)).trans hx185_1; replace hx185_2 := (HB.out.cell (World.block_lt_of_cell? w _ hx185_2)).trans hx185_2; replace p185 := eq_true p185; replace q185 := eq_true q185))
         go_ret
         exact ⟨by first | rfl | (simp [errW_none, errW_some] <;> rfl) | (simp [*, errW_none, errW_some] <;> rfl), by repeat (first | (with_reducible first | exact HB.out | apply below_alloc | apply pw_below_drewN | apply below_drew1 | refine below_set ?_ GE183.out) | exact HB.out)⟩
        ·rw [if_neg c16] at H
         have c16b0 : ((Go.bits .and .i64 ((rd_T153 l0_0 t184).f1) a3) == 0) = false := beq_eq_false_iff_ne.mpr c16
         have c16b1 : ((Go.bits .and .i64 ((rd_T153 l0_0 t184).f1) a3) != 0) = true := bne_iff_ne.mpr c16
         have H' := Aside0.mk H
         clear H
         have hcz20_0 := cz BK183.out 0 (.slice A0_0 l0_0.length c0_0)
         have hfz20_0 := blk_frozen BK183.out 0
         go_wp2_with (first | ((with_reducible refine gate_callee (f := 229) rfl ?_); refine goesL_ (some 19) rfl rfl Try.func229 by2 rfl #[.agg #[.slice A0_0 l0_0.length c0_0], .int .i64 (wrap64 (a1 + x12_1))] rfl by0 ?_; (with_reducible refine (impl_Memory_pageOf.calls _ _ l0_0 (wrap64 (a1 + x12_1)) t184 _ ?side1 ?side2 A7.out).mono ?_); (case side1 => repeat (first | exact (Kd.C_below HR0_0.out HB.out) | (with_reducible refine Kd.C_alloc ?_ _) | (with_reducible refine Kd.C_drewN ?_ _) | (with_reducible refine Kd.C_drew ?_))); (case side2 => exact HC0_0.out); rintro e w21 ⟨rfl, hb⟩; refine ⟨_, rfl, ?_⟩; have n0_ := Aside0.mk (blk_below (g := gb183) (o := .cells #[.slice A0_0 l0_0.length c0_0] 45 (0, 0)) by96 hb); have n1_ := Aside0.mk (below_step by68 hb); clear BK183; clear HB; have BK183 := n0_; have HB := n1_; clear n0_ n1_; (try clear hb); (try clear hb2); (try clear hk); (try clear hi); have hcz22_0 := cz BK183.out 0 (.slice A0_0 l0_0.length c0_0); have hfz22_0 := blk_frozen BK183.out 0; have p185 : 0 ≤ (t184 : Int) := of_decide_eq_true by4; have q185 : t184 < (l0_0.length : Int) := of_decide_eq_true by4; obtain ⟨ad185, e185, hx185_0, hx185_1, hx185_2⟩ := at_T153 HR0_0.out t184 p185 q185; cases e185; replace hx185_0 := (HB.out.cell (World.block_lt_of_cell? w _ hx185_0)).trans hx185_0; replace hx185_1 := (HB.out.cell (World.block_lt_of_cell? w _ hx185_1)).trans hx185_1; replace hx185_2 := (HB.out.cell (World.block_lt_of_cell? w _ hx185_2)).trans hx185_2; replace p185 := eq_true p185; replace q185 := eq_true q185))
         go_roundg k1
         case measure => have := HK1.out; omega
         case rel => exact ⟨(wrap64 (x12_1 + 1)), by7, H', ⟨by have := HK1.out; omega⟩, ⟨by (with_reducible repeat (first | refine blk_drewN ?_ _ | refine blk_drew ?_ | refine blk_alloc ?_ _)); exact BK183.out⟩, ⟨by repeat (first | (with_reducible first | exact HB.out | apply below_alloc | apply pw_below_drewN | apply below_drew1 | refine below_set ?_ GE183.out) | exact HB.out)⟩⟩
       ·rw [if_neg c15] at H
        exact absurd H (by simp)
      ·rw [if_neg c14] at H
       exact absurd H (by simp)
   ·rw [if_neg c6] at H
    have c6b0 : decide (x12_1 < a2) = false := decide_eq_false c6
    clear c6
    obtain rfl := Option.some.inj H
    go_wp2
    go_ret
    exact ⟨by first | rfl | (simp [errW_none, errW_some] <;> rfl) | (simp [*, errW_none, errW_some] <;> rfl), by repeat (first | (with_reducible first | exact HB.out | apply below_alloc | apply pw_below_drewN | apply below_drew1 | refine below_set ?_ GE183.out) | exact HB.out)⟩

/-! ### impl_Page_230: function 230 -/
-- @import Derived.Lib.SliceRun
/-- slices.Clone: the same list, in a row of its own. -/
def impl_Page_230.f (l0 : List (S153)) : Option (List (S153)) := if l0.length ≤ 1073741824 then some l0 else none
set_option maxHeartbeats 8000000 in
set_option maxRecDepth 100000 in
theorem impl_Page_230.calls (A0 : Option Addr) (c0 : Nat) (l0 : List (S153)) (r : List (S153)) (w : World) (hr0 : Kd.C k153 w A0 l0.length l0) (hc0 : l0.length ≤ c0) (h : impl_Page_230.f l0 = some r) :
  Calls Try.prog 230 #[.slice A0 l0.length c0] w fun e w' => ∃ v0_ : Value, e = .returned (v0_) ∧ Kd.R k153 153 w' w.heap.size (fun _ => True) v0_ r ∧ Below w.heap.size w w' := by
 unfold impl_Page_230.f at h
 by_cases c : l0.length ≤ 1073741824
 ·rw [if_pos c] at h
  obtain rfl := Option.some.inj h
  clear h
  have HL := Aside0.mk c
  have HC := Aside0.mk hr0
  cases A0 with
  | none =>
   have h0 : l0 = [] := by
    rcases Nat.eq_zero_or_pos l0.length with h | h
    ·exact List.eq_nil_of_length_eq_zero h
    ·obtain ⟨ad, e, _⟩ := hr0.2.2 h
     cases e
   subst h0
   clear hr0 HC HL c
   have q_ : ∀ (w : World) (a : Option Addr) (n c n' c' : Nat), (binOp .eql 43 (.slice a n c) (.slice none n' c')).run Try.prog w = .ok (.bool a.isNone) w := fun w a n c n' c' => Lib.run_eql_slice_nil w _ _ a n c n' c' Try.underlying43
   go_enter Try.func230, Try.ntmps230
   go_wp2
   go_ret
   exact ⟨_, rfl, Kd.R_nil _ _ _ _ _, Below.refl _ _⟩
  | some ad =>
   clear hr0 c
   have HB := Aside0.mk (Below.refl w.heap.size w)
   have q_ : ∀ (w : World) (a : Option Addr) (n c n' c' : Nat), (binOp .eql 43 (.slice a n c) (.slice none n' c')).run Try.prog w = .ok (.bool a.isNone) w := fun w a n c n' c' => Lib.run_eql_slice_nil w _ _ a n c n' c' Try.underlying43
   go_enter Try.func230, Try.ntmps230
   go_wp2_with (first | ((with_reducible refine gate_dst (N := 5) rfl ?_); refine Kd.R_lit k153 _ 153 ?hg (N := 5) ?hd (xs := ([] : List (S153))) (inner := []) (ok := fun _ => True) (okp := fun _ => True) ?hr ?hp (fun _ hk => hk) trivial (Below.refl _ _) (Nat.le_refl _) (by simp) ?_; (case hd => rfl); (case hg => rfl); (case hr => first | (go_simp; done) | (go_simp; rfl)); (case hp => exact (Reps.none _ _)); intro v1 w1 ho2 hb hg_ hnew_; clear hg_ hnew_; have n0_ := Aside0.mk (Kd.R_lower ho2 (below_size HB.out)); have n1_ := Aside0.mk (below_step HB.out hb); clear HB; have HO := n0_; have HB := n1_; clear n0_ n1_; clear hb ho2) | ((with_reducible refine gate_builtin (b := .append) (xs := #[.tmp 5, .tmp 6]) rfl ?_); at_builtin; refine Kd.R_append_rows k153 (w0 := w) w.heap.size rfl (.tmp 5) (.tmp 6) 43 153 ((.agg #[(.int .i64 0), (.int .i64 0), (.string ⟨#[]⟩)])) 32 rfl Try.underlying43 by2 rfl (by decide) (by omega) _ ([] : List (S153)) l0 _ _ _ (fun _ => True) (fun _ => False) rfl rfl ?aO ?aR (fun _ _ h => h) (fun _ h => h.elim) ?aF ?aB ?aS ?aL ?_; (case aO => exact HO.out); (case aR => exact Kd.C_below HC.out HB.out); (case aF => exact (fun _ _ => trivial)); (case aB => exact HB.out); (case aS => exact below_size HB.out); (case aL => have := HL.out; simp only [List.length_nil]; omega); intro v3 w3 ho hb hg hat; clear hg hat; have n0_ := Aside0.mk ho; have n1_ := Aside0.mk hb; clear ho hb HB HO; have HO := n0_; have HB := n1_; clear n0_ n1_))
   go_ret
   exact ⟨_, rfl, HO.out, HB.out⟩
 ·rw [if_neg c] at h
  cases h

/-! ### impl_copyMemory: function 168 -/
def impl_copyMemory.f (l0_0 : List (S153)) : Option ((List (S153))) := (impl_Page_230.f l0_0).bind fun t188 => (some t188)
set_option maxHeartbeats 8000000 in
set_option maxRecDepth 100000 in
theorem impl_copyMemory.calls (A0_0 : Option Addr) (c0_0 : Nat) (l0_0 : List (S153)) (r : List (S153)) (w : World) (hr0_0 : Kd.C k153 w A0_0 l0_0.length l0_0) (hc0_0 : l0_0.length ≤ c0_0) (h : impl_copyMemory.f l0_0 = some r) :
  Calls Try.prog 168 #[.agg #[.slice A0_0 l0_0.length c0_0]] w fun e w' => ∃ v0_ : Value, e = .returned (.agg #[v0_]) ∧ Kd.R k153 153 w' w.heap.size (fun _ => True) v0_ r ∧ Below w.heap.size w w' := by
 have hu45 := Try.underlying45
 have HR0_0 := Aside0.mk hr0_0
 have HC0_0 := Aside0.mk hc0_0
 clear hr0_0 hc0_0
 have HB := Aside0.mk (Below.refl w.heap.size w)
 have H : ((impl_Page_230.f l0_0).bind fun t188 => (some t188)) = some r := h
 clear h
 replace H := Option.bind_eq_some_iff.mp H
 obtain ⟨t188, A20, H⟩ := H
 replace H : (some t188) = some r := H
 have A2 := Aside0.mk A20
 clear A20
 obtain rfl := Option.some.inj H
 go_enter Try.func168, Try.ntmps168
 go_wp2_with (first | ((with_reducible refine gate_dst (N := 1) rfl ?_); refine box_event ?hg (N := 1) ?hd (cs := #[.slice A0_0 l0_0.length c0_0]) (t := 45) ?hr ?_; (case hd => rfl); (case hg => rfl); (case hr => first | (go_simp; done) | (go_simp; rfl)); intro gb186 hg w3 hbox hb; have n0_ := Aside0.mk (below_step by3 hb); have n1_ := Aside0.mk (hbox); have n2_ := Aside0.mk ((by1 : w.heap.size ≤ gb186)); have n3_ := Aside0.mk ((by1 : w.heap.size ≤ gb186)); clear HB; have HB := n0_; have BK186 := n1_; have GW186 := n2_; have GE186 := n3_; clear n0_ n1_ n2_ n3_; clear hb hbox hg) | ((with_reducible refine gate_dst (N := 2) rfl ?_); refine box_event ?hg (N := 2) ?hd (cs := #[.slice none 0 0]) (t := 45) ?hr ?_; (case hd => rfl); (case hg => rfl); (case hr => first | (go_simp; done) | (go_simp; rfl)); intro gb187 hg w4 hbox hb; have n0_ := Aside0.mk (blk_below (g := gb186) (o := .cells #[.slice A0_0 l0_0.length c0_0] 45 (0, 0)) by135 hb); have n1_ := Aside0.mk (below_step (by repeat (first | (with_reducible first | exact HB.out | apply below_alloc | apply pw_below_drewN | apply below_drew1 | refine below_set ?_ GE186.out) | exact HB.out)) hb); have n2_ := Aside0.mk (hbox); have n3_ := Aside0.mk ((by117 : w.heap.size ≤ gb187)); have n4_ := Aside0.mk ((by117 : w.heap.size ≤ gb187)); have n5_ := Aside0.mk ((by rw [hg]; exact Nat.ne_of_lt (blk_lt (g := gb186) (o := .cells #[.slice A0_0 l0_0.length c0_0] 45 (0, 0)) by135) : gb186 ≠ gb187)); have n6_ := Aside0.mk ((by rw [hg]; exact Nat.ne_of_gt (blk_lt (g := gb186) (o := .cells #[.slice A0_0 l0_0.length c0_0] 45 (0, 0)) by135) : gb187 ≠ gb186)); clear BK186; clear HB; have BK186 := n0_; have HB := n1_; have BK187 := n2_; have GW187 := n3_; have GE187 := n4_; have NB186_187 := n5_; have NB187_186 := n6_; clear n0_ n1_ n2_ n3_ n4_ n5_ n6_; clear hb hbox hg; have hnb5 := NB186_187.out; have hnc5 := NB187_186.out; have hcz6_0 := cz BK186.out 0 (.slice A0_0 l0_0.length c0_0); have hfz6_0 := blk_frozen BK186.out 0) | ((with_reducible refine gate_callee (f := 230) rfl ?_); refine goesL_ (some 5) rfl rfl Try.func230 by2 rfl #[.slice A0_0 l0_0.length c0_0] rfl by0 ?_; (with_reducible refine (impl_Page_230.calls _ _ l0_0 t188 _ ?side1 ?side2 A2.out).mono ?_); (case side1 => repeat (first | exact (Kd.C_below HR0_0.out HB.out) | (with_reducible refine Kd.C_alloc ?_ _) | (with_reducible refine Kd.C_drewN ?_ _) | (with_reducible refine Kd.C_drew ?_))); (case side2 => exact HC0_0.out); rintro e w7 ⟨v189, rfl, ho0, hb⟩; refine ⟨_, rfl, ?_⟩; have n0_ := Aside0.mk (Kd.R_lower ho0 (below_size by120)); have n1_ := Aside0.mk (blk_below (g := gb186) (o := .cells #[.slice A0_0 l0_0.length c0_0] 45 (0, 0)) by135 hb); have n2_ := Aside0.mk (blk_below (g := gb187) (o := .cells #[.slice none 0 0] 45 (0, 0)) (by (with_reducible repeat (first | refine blk_drewN ?_ _ | refine blk_drew ?_ | refine blk_alloc ?_ _)); exact BK187.out) hb); have n3_ := Aside0.mk (below_step by120 hb); clear BK186; clear BK187; clear HB; have HO190 := n0_; have BK186 := n1_; have BK187 := n2_; have HB := n3_; clear n0_ n1_ n2_ n3_; (try clear hb); (try clear hb2); (try clear hk); (try clear hi); (try clear ho0); obtain ⟨Ao8, co8, eo8⟩ := Kd.R_slice HO190.out; subst eo8; have hcz9_0 := cz BK187.out 0 (.slice none 0 0); have hfz9_0 := blk_frozen BK187.out 0))
 refine bodyPost_ret (results_cell_row rfl _ _ gb187 45 #[.slice Ao8 t188.length co8] (0, 0) _ rfl (by (with_reducible repeat (first | refine blk_drewN ?_ _ | refine blk_drew ?_ | refine blk_alloc ?_ _)); refine blk_put (cs := #[.slice none 0 0]) ?_ 0 _ rfl; (with_reducible repeat (first | refine blk_drewN ?_ _ | refine blk_drew ?_ | refine blk_alloc ?_ _)); exact BK187.out) Try.underlying45 rfl (by kernel_rfl)) rfl ?_
 exact ⟨_, by first | rfl | (simp [errW_none, errW_some] <;> rfl) | (simp [*, errW_none, errW_some] <;> rfl), by (with_reducible repeat (first | apply Kd.R_alloc | apply Kd.R_drewN | apply Kd.R_drew)); exact Kd.R_mono (Kd.R_far (p := ⟨gb187, 0, none⟩) (Kd.R_types HO190.out BK187.out (by decide)) (fun _ hk => hk.2) (.slice Ao8 t188.length co8)) (fun _ hk => trivial), by repeat (first | (with_reducible first | exact HB.out | apply below_alloc | apply pw_below_drewN | apply below_drew1 | refine below_set ?_ GE186.out | refine below_set ?_ GE187.out) | exact HB.out)⟩

/-! ### impl_Memory_lay: function 169 -/
-- @import Derived.Deep.QuietTactic
-- @import Derived.BigQuiet
-- @import Derived.StillTailTactics
def impl_Memory_lay.l0 (m : List (S153)) : Nat → Int → ByteArray → List (S153) → Option (List (S153))
 | 0, _, _, _ => none
 | k + 1, x1, x2, o => if (x2.size : Int) > 0 then ((impl_Memory_pageOf.f m x1).bind fun i => (if (0 ≤ i ∧ i < (o.length : Int)) ∧ (0 ≤ x1 ∧ x1 ≤ 65535) ∧ ((rd_T153 o i).f2).size = 256 ∧ x2.size ≤ 65536 then (impl_Memory_lay.l0 m k (x1 + ((min x2.size (256 - x1.toNat % 256) : Nat) : Int)) (x2.extract (min x2.size (256 - x1.toNat % 256)) x2.size) (o.set i.toNat (⟨(rd_T153 o i).f0, (rd_T153 o i).f1, (((rd_T153 o i).f2).extract 0 (x1.toNat % 256) ++ x2.extract 0 (min x2.size (256 - x1.toNat % 256))) ++ ((rd_T153 o i).f2).extract (x1.toNat % 256 + min x2.size (256 - x1.toNat % 256)) 256⟩ : S153))) else none)) else some o
def impl_Memory_lay.f (k : Nat) (l0_0 : List (S153)) (a1 : Int) (a2 : ByteArray) : Option (List (S153)) := (impl_copyMemory.f l0_0).bind fun t => (impl_Memory_lay.l0 l0_0 k a1 a2 t)
theorem impl_Memory_lay.mono_l (m : List (S153)) : ∀ k, (∀ y0 y1 y2, LeO (impl_Memory_lay.l0 m k y0 y1 y2) (impl_Memory_lay.l0 m (k + 1) y0 y1 y2))
 | 0 => fun _ _ _ r h => by simp [impl_Memory_lay.l0] at h
 | k + 1 => by
  have ih0 := impl_Memory_lay.mono_l m k
  ·intro y0 y1 y2
   unfold impl_Memory_lay.l0
   repeat' first
   | (with_reducible exact ih0 _ _ _)
   | (with_reducible exact LeO.refl _)
   | (with_reducible exact LeO.none _)
   | (with_reducible refine LeO.ite ?_ ?_)
   | (with_reducible refine LeO.bind ?_ (fun _ => ?_))
   | refine LeO.ite ?_ ?_
   | refine LeO.bind ?_ (fun _ => ?_)
theorem impl_Memory_lay.mono : ∀ a0 a1 a2 k, LeO (impl_Memory_lay.f k a0 a1 a2) (impl_Memory_lay.f (k + 1) a0 a1 a2) := by
 intro a0 a1 a2 k
 have ih0 := impl_Memory_lay.mono_l a0 k
 unfold impl_Memory_lay.f
 repeat' first
   | (with_reducible exact ih0 _ _ _)
   | (with_reducible exact LeO.refl _)
   | (with_reducible refine LeO.bind ?_ (fun _ => ?_))
   | refine LeO.bind ?_ (fun _ => ?_)
set_option maxHeartbeats 8000000 in
set_option maxRecDepth 100000 in
theorem impl_Memory_lay.calls (k : Nat) (A0_0 : Option Addr) (c0_0 : Nat) (l0_0 : List (S153)) (a1 : Int) (a2 : ByteArray) (r : List (S153)) (w : World) (hr0_0 : Kd.C k153 w A0_0 l0_0.length l0_0) (hc0_0 : l0_0.length ≤ c0_0) (h : impl_Memory_lay.f k l0_0 a1 a2 = some r) :
  Calls Try.prog 169 #[.agg #[.slice A0_0 l0_0.length c0_0], .int .i64 a1, .string a2] w fun e w' => ∃ v0_ : Value, e = .returned (.agg #[v0_]) ∧ Kd.R k153 153 w' w.heap.size (fun _ => True) v0_ r ∧ Below w.heap.size w w' := by
 have hu := Try.underlying45
 have HR0_0 := Aside0.mk hr0_0
 have HC0_0 := Aside0.mk hc0_0
 clear hr0_0 hc0_0
 have HB := Aside0.mk (Below.refl w.heap.size w)
 have H : ((impl_copyMemory.f l0_0).bind fun t => (impl_Memory_lay.l0 l0_0 k a1 a2 t)) = some r := h
 clear h
 replace H := Option.bind_eq_some_iff.mp H
 obtain ⟨t137, A40, H⟩ := H
 have A4 := Aside0.mk A40
 clear A40
 have H' := Aside0.mk H
 clear H
 go_enter Try.func169, Try.ntmps169
 go_wp2_with (first | ((with_reducible refine gate_dst (N := 3) rfl ?_); refine box_event ?hg (N := 3) ?hd (cs := #[.slice A0_0 l0_0.length c0_0]) (t := 45) ?hr ?_; (case hd => rfl); (case hg => rfl); (case hr => first | (go_simp; done) | (go_simp; rfl)); intro gb135 hg w5 hbox hb; have n0_ := Aside0.mk ((below_step by3 hb)); have n1_ := Aside0.mk (hbox); have n2_ := Aside0.mk ((by1 : w.heap.size ≤ gb135)); clear HB; have HB := n0_; have BK135 := n1_; have GE135 := n2_; clear n0_ n1_ n2_; clear hb hbox hg) | ((with_reducible refine gate_dst (N := 6) rfl ?_); refine box_event ?hg (N := 6) ?hd (cs := #[.slice none 0 0]) (t := 45) ?hr ?_; (case hd => rfl); (case hg => rfl); (case hr => first | (go_simp; done) | (go_simp; rfl)); intro gb136 hg w5 hbox hb; have n0_ := Aside0.mk ((blk_below (g := gb135) (o := .cells #[.slice A0_0 l0_0.length c0_0] 45 (0, 0)) by18 hb)); have n1_ := Aside0.mk ((below_step by67 hb)); have n2_ := Aside0.mk (hbox); have n3_ := Aside0.mk ((by41 : w.heap.size ≤ gb136)); have n4_ := Aside0.mk ((by61 : gb135 ≠ gb136)); clear BK135; clear HB; have BK135 := n0_; have HB := n1_; have BK136 := n2_; have GE136 := n3_; have NB135_136 := n4_; clear n0_ n1_ n2_ n3_ n4_; clear hb hbox hg; have hcz := cz BK135.out 0 (.slice A0_0 l0_0.length c0_0); have hfz := blk_frozen BK135.out 0) | ((with_reducible refine gate_callee (f := 168) rfl ?_); refine goesL_ (some 13) rfl rfl Try.func168 by2 rfl #[.agg #[.slice A0_0 l0_0.length c0_0]] rfl by0 ?_; (with_reducible refine (impl_copyMemory.calls _ _ l0_0 t137 _ ?side1 ?side2 A4.out).mono ?_); (case side1 => repeat (first | exact (Kd.C_below HR0_0.out HB.out) | (with_reducible refine Kd.C_alloc ?_ _) | (with_reducible refine Kd.C_drewN ?_ _) | (with_reducible refine Kd.C_drew ?_))); (case side2 => exact HC0_0.out); rintro e w9 ⟨v138, rfl, ho0, hb⟩; refine ⟨_, rfl, ?_⟩; have n0_ := Aside0.mk (Kd.R_lower ho0 (below_size by11)); have n1_ := Aside0.mk (blk_below (g := gb135) (o := .cells #[.slice A0_0 l0_0.length c0_0] 45 (0, 0)) by18 hb); have n2_ := Aside0.mk (blk_below (g := gb136) (o := .cells #[.slice none 0 0] 45 (0, 0)) by32 hb); have n3_ := Aside0.mk (below_step by11 hb); clear BK135; clear BK136; clear HB; have HO139 := n0_; have BK135 := n1_; have BK136 := n2_; have HB := n3_; clear n0_ n1_ n2_ n3_; (try clear hb); (try clear hb2); (try clear ho0); (try clear hcz); (try clear hfz); obtain ⟨Ao10, co10, eo10⟩ := Kd.R_slice HO139.out; subst eo10) | ((with_reducible refine gate_dst (N := 7) rfl ?_); refine box_event ?hg (N := 7) ?hd (cs := #[.slice none 0 0]) (t := 45) ?hr ?_; (case hd => rfl); (case hg => rfl); (case hr => first | (go_simp; done) | (go_simp; rfl)); intro gb137 hg w5 hbox hb; have n0_ := Aside0.mk ((blk_below (g := gb135) (o := .cells #[.slice A0_0 l0_0.length c0_0] 45 (0, 0)) by18 hb)); have n1_ := Aside0.mk ((blk_below (g := gb136) (o := .cells #[.slice none 0 0] 45 (0, 0)) by32 hb)); have n2_ := Aside0.mk ((below_step by11 hb)); have n3_ := Aside0.mk (hbox); have n4_ := Aside0.mk (((by rw [hg]; exact (below_size by11)) : w.heap.size ≤ gb137)); have n5_ := Aside0.mk ((by61 : gb135 ≠ gb137)); have n6_ := Aside0.mk (((by rw [hg]; exact Nat.ne_of_lt (blk_lt (g := gb136) (o := .cells #[.slice none 0 0] 45 (0, 0)) by32)) : gb136 ≠ gb137)); have n7_ := Aside0.mk ((Kd.R_below (by (with_reducible repeat (first | apply Kd.R_alloc | apply Kd.R_drewN | apply Kd.R_drew)); exact HO139.out) hb)); clear BK135; clear BK136; clear HB; clear HO139; have BK135 := n0_; have BK136 := n1_; have HB := n2_; have BK137 := n3_; have GE137 := n4_; have NB135_137 := n5_; have NB136_137 := n6_; have HO139 := n7_; clear n0_ n1_ n2_ n3_ n4_ n5_ n6_ n7_; clear hb hbox hg; have hcy := cz BK137.out 0 (.slice none 0 0); have hfy := blk_frozen BK137.out 0))
 go_loopg [1, 2] k (fun kq v1 v2 w' => ∃ (x1_1 : Int) (x2_1 : ByteArray) (o_1 : List (S153)) (u : Value), v1 = .int .i64 x1_1 ∧ v2 = .string x2_1 ∧ Aside0 (impl_Memory_lay.l0 l0_0 kq x1_1 x2_1 o_1 = some r) ∧ Aside0 (kq ≤ k) ∧ Aside0 (Kd.R k153 153 w' w.heap.size (fun _ => True) u o_1) ∧ Aside0 (w'.heap[gb135]? = some (.cells #[.slice A0_0 l0_0.length c0_0] 45 (0, 0))) ∧ Aside0 (w'.heap[gb136]? = some (.cells #[(.slice none 0 0)] 45 (0, 0))) ∧ Aside0 (w'.heap[gb137]? = some (.cells #[u] 45 (0, 0))) ∧ Aside0 (Below w.heap.size w w'))
 case atStart => exact ⟨(a1), (a2), (t137), (.slice Ao10 t137.length co10), by7, by7, H', ⟨Nat.le_refl _⟩, ⟨by (with_reducible repeat (first | apply Kd.R_alloc | apply Kd.R_drewN | apply Kd.R_drew)); exact Kd.R_mono (Kd.R_far (p := ⟨gb137, 0, none⟩) (Kd.R_types HO139.out BK137.out (by decide)) (fun _ hk => hk.2) (.slice Ao10 t137.length co10)) (fun _ hk => trivial)⟩, ⟨by (with_reducible repeat (first | refine blk_drewN ?_ _ | refine blk_drew ?_ | refine blk_alloc ?_ _)); refine blk_far ?_ NB135_137.out _; (with_reducible repeat (first | refine blk_drewN ?_ _ | refine blk_drew ?_ | refine blk_alloc ?_ _)); exact BK135.out⟩, ⟨by (with_reducible repeat (first | refine blk_drewN ?_ _ | refine blk_drew ?_ | refine blk_alloc ?_ _)); refine blk_far ?_ NB136_137.out _; (with_reducible repeat (first | refine blk_drewN ?_ _ | refine blk_drew ?_ | refine blk_alloc ?_ _)); exact BK136.out⟩, ⟨by (with_reducible repeat (first | refine blk_drewN ?_ _ | refine blk_drew ?_ | refine blk_alloc ?_ _)); refine blk_put (cs := #[.slice none 0 0]) ?_ 0 _ rfl; (with_reducible repeat (first | refine blk_drewN ?_ _ | refine blk_drew ?_ | refine blk_alloc ?_ _)); exact BK137.out⟩, ⟨by repeat (first | (with_reducible first | exact HB.out | apply below_alloc | apply pw_below_drewN | apply below_drew1 | refine below_set ?_ GE135.out | refine below_set ?_ GE136.out | refine below_set ?_ GE137.out) | exact HB.out)⟩⟩
 case round =>
  clear H'
  clear HO139 HB BK135 BK136 BK137
  try clear hcz hfz hcy hfy
  obtain ⟨x1_1, x2_1, o_1, u, rfl, rfl, HA, HK1, HO, BK135, BK136, BK137, HB⟩ := hrel
  cases gk with
  | zero => exact absurd HA.out (by simp [impl_Memory_lay.l0])
  | succ k1 =>
   have H := HA.out
   clear HA
   simp only [impl_Memory_lay.l0] at H
   by_cases c12 : (x2_1.size : Int) > 0
   ·rw [if_pos c12] at H
    have c12b0 : decide (0 < (x2_1.size : Int)) = true := decide_eq_true c12
    have c12b1 : decide (0 < x2_1.size) = true := decide_eq_true (by omega)
    replace H := Option.bind_eq_some_iff.mp H
    obtain ⟨i, A130, H⟩ := H
    have A13 := Aside0.mk A130
    clear A130
    by_cases c14 : (0 ≤ i ∧ i < (o_1.length : Int)) ∧ (0 ≤ x1_1 ∧ x1_1 ≤ 65535) ∧ ((rd_T153 o_1 i).f2).size = 256 ∧ x2_1.size ≤ 65536
    ·rw [if_pos c14] at H
     obtain ⟨⟨i0, i1⟩, ⟨x0, x1⟩, dz, tz⟩ := c14
     obtain ⟨a, ha⟩ : ∃ a : Nat, x1_1.toNat % 256 = a := ⟨_, rfl⟩
     obtain ⟨n, hn⟩ : ∃ n : Nat, min x2_1.size (256 - a) = n := ⟨_, rfl⟩
     rw [ha, hn] at H
     have H' := Aside0.mk H
     clear H
     have f0 : Int.tmod x1_1 256 = (a : Int) := by rw [Int.tmod_eq_emod_of_nonneg x0]; omega
     have f1 : IntKind.i64.wrap (256 - (a : Int)) = 256 - (a : Int) := by rw [IntKind.wrap_i64]; omega
     have f2 : (if 256 - (a : Int) < (x2_1.size : Int) then 256 - (a : Int) else (x2_1.size : Int)) = (n : Int) := by split <;> omega
     have p141 := eq_true i0
     have q141 := eq_true i1
     have p141b : decide (0 ≤ i) = true := decide_eq_true i0
     have q141b : decide (i < (o_1.length : Int)) = true := decide_eq_true i1
     have hcz31_0 := cz BK135.out 0 (.slice A0_0 l0_0.length c0_0)
     have hcy31_0 : wr.cell? ⟨gb137, 0, none⟩ = some u := (blk_cell BK137.out 0).trans rfl
     obtain ⟨Ao32, co32, eo32⟩ := Kd.R_slice HO.out
     subst eo32
     go_wp2_with (first | ((with_reducible refine gate_callee (f := 229) rfl ?_); refine goesL_ (some 19) rfl rfl Try.func229 by2 rfl #[.agg #[.slice A0_0 l0_0.length c0_0], .int .i64 x1_1] rfl by0 ?_; (with_reducible refine (impl_Memory_pageOf.calls _ _ l0_0 x1_1 i _ ?side1 ?side2 A13.out).mono ?_); (case side1 => repeat (first | exact (Kd.C_below HR0_0.out HB.out) | (with_reducible refine Kd.C_alloc ?_ _) | (with_reducible refine Kd.C_drewN ?_ _) | (with_reducible refine Kd.C_drew ?_))); (case side2 => exact HC0_0.out); rintro e w33 ⟨rfl, hb⟩; refine ⟨_, rfl, ?_⟩; have n0_ := Aside0.mk (Kd.R_below (by (with_reducible repeat (first | apply Kd.R_alloc | apply Kd.R_drewN | apply Kd.R_drew)); exact HO.out) hb); have n1_ := Aside0.mk (blk_below (g := gb135) (o := .cells #[.slice A0_0 l0_0.length c0_0] 45 (0, 0)) by18 hb); have n2_ := Aside0.mk (blk_below (g := gb136) (o := .cells #[.slice none 0 0] 45 (0, 0)) by32 hb); have n4_ := Aside0.mk (blk_below (g := gb137) (o := .cells #[.slice Ao32 o_1.length co32] 45 (0, 0)) (by (with_reducible repeat (first | refine blk_drewN ?_ _ | refine blk_drew ?_ | refine blk_alloc ?_ _)); exact BK137.out) hb); have n3_ := Aside0.mk (below_step (by repeat (first | (with_reducible first | exact HB.out | apply below_alloc | apply pw_below_drewN | apply below_drew1 | refine below_set ?_ GE135.out | refine below_set ?_ GE136.out | refine below_set ?_ GE137.out) | exact HB.out)) hb); clear HO; clear BK135; clear BK136; clear BK137; clear HB; have HO := n0_; have BK135 := n1_; have BK136 := n2_; have BK137 := n4_; have HB := n3_; clear n0_ n1_ n2_ n3_ n4_; (try clear hb); have hcz34_0 := cz BK137.out 0 (.slice Ao32 o_1.length co32); have hfz34_0 := blk_frozen BK137.out 0; obtain ⟨ad141, e141, hx141_0, hx141_1, hx141_2⟩ := at_T153 (Kd.R_reads' HO.out).2.2 i i0 i1; cases e141))
     refine wp_region_still_tail 22 by2 by2 ?_
     simp only [List.take_succ_cons, List.take_zero, List.drop_succ_cons, List.drop_zero]
     have n0_ := Aside0.mk (Kd.R_drew HO.out)
     have n1_ := Aside0.mk (blk_drew BK135.out)
     have n2_ := Aside0.mk (blk_drew BK136.out)
     have n4_ := Aside0.mk (blk_drew BK137.out)
     have n3_ := Aside0.mk (below_drew1 HB.out)
     clear HO BK135 BK136 BK137 HB hcz34_0 hfz34_0 hcz31_0 hcy31_0 hx141_0 hx141_1 hx141_2
     have HO := n0_
     have BK135 := n1_
     have BK136 := n2_
     have BK137 := n4_
     have HB := n3_
     clear n0_ n1_ n2_ n3_ n4_
     change wpStill _ _ w33.drew (fun a' => wpList _ _ _ _ a' w33.drew) _ _
     generalize w33.drew = W2 at HO BK135 BK136 BK137 HB ⊢
     obtain ⟨go27, co27, eo27, gb27, gl27, cl27, HG27⟩ := Kd.R_form HO.out (by omega)
     (first | cases eo27 | (injection eo27 with ea_ en_ ec_; (first | subst ea_ | (injection ea_ with ea_; subst ea_)); subst ec_; clear en_))
     have GB27 := Aside0.mk gb27
     clear gb27 gl27 HG27
     obtain ⟨ce27, hcl27, hM27, hcc27, hfr27⟩ := Kd.R_elem HO.out z153 i i0 i1
     obtain rfl := k153_openM hM27
     have hx2 : World.cell? W2 ⟨go27, i.toNat * 3 + 2, none⟩ = some (.string ((rd_T153 o_1 i).f2)) := hcc27 2 _ rfl
     have hf2 : World.frozen? W2 ⟨go27, i.toNat * 3 + 2, none⟩ = false := hfr27 2
     obtain ⟨d, hd⟩ : ∃ d : ByteArray, d = (rd_T153 o_1 i).f2 := ⟨_, rfl⟩
     rw [← hd] at hx2 dz
     have HD := Aside0.mk hd
     clear hd
     have y0 : ((a : Int) ≤ 256) = True := eq_true (by omega)
     have y1 : ((n : Int) ≤ (x2_1.size : Int)) = True := eq_true (by omega)
     have y2 : IntKind.i64.wrap ((a : Int) + (n : Int)) = (a : Int) + (n : Int) := by rw [IntKind.wrap_i64]; omega
     have y3 : ((a : Int) + (n : Int) ≤ 256) = True := eq_true (by omega)
     have y4 : (0 ≤ (a : Int) + (n : Int)) = True := eq_true (by omega)
     have y7 : (9223372036854775807 < min a 256 + min n x2_1.size) = False := eq_false (by omega)
     have y9 : ((a : Int) + (n : Int)).toNat = a + n := by omega
     have y8 : (9223372036854775807 < min a 256 + min n x2_1.size + (256 - (a + n))) = False := eq_false (by omega)
     have y5 : (0 ≤ (a : Int)) = True := eq_true (by omega)
     have y6 : (0 ≤ (n : Int)) = True := eq_true (by omega)
     have y10 : IntKind.i64.wrap (x1_1 + (n : Int)) = x1_1 + (n : Int) := by rw [IntKind.wrap_i64]; omega
     have y11 : wrap64 (x1_1 + (n : Int)) = x1_1 + (n : Int) := (i64_w _).symm.trans y10
     have HP := Aside0.mk (Kd.R_seg HO.out i i0 i1 (seg := [.string (d.extract 0 a ++ x2_1.extract 0 n ++ d.extract (a + n) 256)]) (j := 2) hcl27 hcc27 (show 3 ≤ 3 from by decide) (x' := (⟨(rd_T153 o_1 i).f0, (rd_T153 o_1 i).f1, d.extract 0 a ++ x2_1.extract 0 n ++ d.extract (a + n) 256⟩ : S153)) (k153_mkM _ _ _ (⟨(rd_T153 o_1 i).f0, (rd_T153 o_1 i).f1, d.extract 0 a ++ x2_1.extract 0 n ++ d.extract (a + n) 256⟩ : S153)) (fun _ hk => hk)).1
     clear f0 f1 f2 c12 hn ha
     rw [← HD.out] at H'
     clear hcl27 hcc27 hfr27 hM27
     repeat still_step
     try refine wpStill_nil ?_
     go_wp2
     go_roundg k1
     case measure => have := HK1.out; omega
     case rel => exact ⟨x1_1 + (n : Int), (x2_1.extract n x2_1.size), _, (.slice (some ⟨go27, 0, none⟩) o_1.length co32), by140, by7, H', ⟨by have := HK1.out; omega⟩, ⟨by (with_reducible repeat (first | apply Kd.R_alloc | apply Kd.R_drewN | apply Kd.R_drew)); exact HP.out⟩, ⟨by (with_reducible repeat (first | refine blk_drewN ?_ _ | refine blk_drew ?_ | refine blk_alloc ?_ _)); refine blk_far ?_ (by have h_ := Kd.R_ne HO.out BK135.out (by decide); intro e_; exact h_ (by rw [e_]; rfl)) _; (with_reducible repeat (first | refine blk_drewN ?_ _ | refine blk_drew ?_ | refine blk_alloc ?_ _)); exact BK135.out⟩, ⟨by (with_reducible repeat (first | refine blk_drewN ?_ _ | refine blk_drew ?_ | refine blk_alloc ?_ _)); refine blk_far ?_ (by have h_ := Kd.R_ne HO.out BK136.out (by decide); intro e_; exact h_ (by rw [e_]; rfl)) _; (with_reducible repeat (first | refine blk_drewN ?_ _ | refine blk_drew ?_ | refine blk_alloc ?_ _)); exact BK136.out⟩, ⟨by (with_reducible repeat (first | refine blk_drewN ?_ _ | refine blk_drew ?_ | refine blk_alloc ?_ _)); refine blk_far ?_ (by have h_ := Kd.R_ne HO.out BK137.out (by decide); intro e_; exact h_ (by rw [e_]; rfl)) _; (with_reducible repeat (first | refine blk_drewN ?_ _ | refine blk_drew ?_ | refine blk_alloc ?_ _)); exact BK137.out⟩, ⟨by repeat (first | (with_reducible first | exact HB.out | apply below_alloc | apply pw_below_drewN | apply below_drew1 | refine below_set ?_ GB27.out) | exact HB.out)⟩⟩
    ·rw [if_neg c14] at H
     exact absurd H (by simp)
   ·rw [if_neg c12] at H
    have c12b0 : decide (0 < (x2_1.size : Int)) = false := decide_eq_false c12
    have c12b1 : decide (0 < x2_1.size) = false := decide_eq_false (by omega)
    clear c12
    obtain rfl := Option.some.inj H
    have hcz38_0 := cz BK137.out 0 (u)
    have hfz38_0 := blk_frozen BK137.out 0
    obtain ⟨Ao39, co39, eo39⟩ := Kd.R_slice HO.out
    subst eo39
    have hcz40_0 := cz BK136.out 0 (.slice none 0 0)
    have hfz40_0 := blk_frozen BK136.out 0
    have hne1 := NB136_137.out
    have hne2 := Ne.symm NB136_137.out
    go_wp2
    refine bodyPost_ret (results_cell_row rfl _ _ gb136 45 #[.slice Ao39 o_1.length co39] (0, 0) _ rfl (by (with_reducible repeat (first | refine blk_drewN ?_ _ | refine blk_drew ?_ | refine blk_alloc ?_ _)); refine blk_put (cs := #[.slice none 0 0]) ?_ 0 _ rfl; (with_reducible repeat (first | refine blk_drewN ?_ _ | refine blk_drew ?_ | refine blk_alloc ?_ _)); exact BK136.out) Try.underlying45 rfl (by kernel_rfl)) rfl ?_
    exact ⟨_, by first | rfl | (simp [errW_none, errW_some] <;> rfl) | (simp [*, errW_none, errW_some] <;> rfl), by (with_reducible repeat (first | apply Kd.R_alloc | apply Kd.R_drewN | apply Kd.R_drew)); exact Kd.R_mono (Kd.R_far (p := ⟨gb136, 0, none⟩) (Kd.R_types HO.out BK136.out (by decide)) (fun _ hk => hk.2) (.slice Ao39 o_1.length co39)) (fun _ hk => trivial), by repeat (first | (with_reducible first | exact HB.out | apply below_alloc | apply pw_below_drewN | apply below_drew1 | refine below_set ?_ GE135.out | refine below_set ?_ GE136.out | refine below_set ?_ GE137.out) | exact HB.out)⟩

end Go.Proofs.Ytigoabhkdipdeaa.PFnExactStoreAt
