/- Laid by a program of this session (patch_print.py) out of the translation: plain functions and what the calls do. No condition. -/
import Derived.Test.YtonogadabgilfaaPFnExactBaseAddOfx0
import Derived.Test.YtonogadabgilfaaPFnExactBaseAddOfx1
import Derived.Test.YtonogadabgilfaaPFnExactBaseAddOfx7
import Derived.Test.YtonogadabgilfaaPFnExactBaseAddOfx9
import Derived.Test.YtonogadabgilfaaPFnExactBaseAddOfx10
namespace Go.Proofs.Ytonogadabgilfaa.PFnExactBaseAddOf
open Go.RowKit Go.Proofs.YtonogadabgilfaaW.PrintWords Go.Proofs.YtonogadabgilfaaW.PrintLast Go.Proofs.YtonogadabgilfaaW.PrintMore
attribute [local go_sem] max2_int min2_int max_two min_two max_three min_three max_four min_four   -- for this text's walks alone
set_option linter.unusedVariables false
set_option linter.unusedSimpArgs false

attribute [local go_sem high] eqA28
/-! ### impl_OperandOK: function 87 -/
def impl_OperandOK.f (a0_0 : Int) (a0_1 : Int) (a0_2 : Int) (a0_3 : Int) (a0_4 : Int) (a0_5 : Int) (a0_6 : Int) (a1 : Int) : Option (Bool) := (impl_isSize.f a1).bind fun t217 => (if t217 = true then (if a0_0 = 1 then ((impl_regOf.f a0_1).bind fun bt218 => (if (a0_0 == bt218.1 && (a0_1 == bt218.2.1 && (a0_2 == bt218.2.2.1 && (a0_3 == bt218.2.2.2.1 && (a0_4 == bt218.2.2.2.2.1 && (a0_5 == bt218.2.2.2.2.2.1 && (a0_6 == bt218.2.2.2.2.2.2))))))) = true then ((impl_isReg.f a0_1 a1).bind fun t225 => (some t225)) else (some false))) else (if a0_0 = 2 then ((impl_Operand_isMem.f a0_0 a0_1 a0_2 a0_3 a0_4 a0_5 a0_6).bind fun t226 => (some t226)) else (if a0_0 = 3 then ((impl_immOf.f a0_6).bind fun bt227 => (some (a0_0 == bt227.1 && (a0_1 == bt227.2.1 && (a0_2 == bt227.2.2.1 && (a0_3 == bt227.2.2.2.1 && (a0_4 == bt227.2.2.2.2.1 && (a0_5 == bt227.2.2.2.2.2.1 && (a0_6 == bt227.2.2.2.2.2.2))))))))) else (some (a0_0 == 0 && (a0_1 == 0 && (a0_2 == 0 && (a0_3 == 0 && (a0_4 == 0 && (a0_5 == 0 && (a0_6 == 0))))))))))) else (some false))
def impl_OperandOK.T5 : Bool × List (List Nat × List Nat) := (true, [([], []), ([], []), ([1], [1]), ([2], [2]), ([0, 3], [0, 3]), ([4, 3], [4]), ([5], [5]), ([6, 5], [5, 6]), ([5], [5]), ([7, 8, 5, 5], [5, 7, 8]), ([5, 9], [5, 9]), ([10, 9, 0, 1, 2, 3, 4, 5, 6, 7, 8, 9, 10], [10])])
def impl_OperandOK.B5 : List Nat := [0, 0, 2, 6, 15, 31, 63, 127, 63, 511, 1023, 2047]
theorem impl_OperandOK.tab5 : rtab .any (opsOf Try.f87 5) = impl_OperandOK.T5 := by kernel_rfl
theorem impl_OperandOK.bits5 : waitsOk impl_OperandOK.T5.2 impl_OperandOK.B5 = true := by kernel_rfl
theorem impl_OperandOK.e0 {p : Prop} (h : p := by
  go_ret
  exact ⟨by first | rfl | (simp [errW_none, errW_some] <;> rfl) | (simp [*, errW_none, errW_some] <;> rfl), by repeat (first | (with_reducible first | exact HB.out | apply below_alloc | apply pw_below_drewN | apply below_drew1 | refine below_set ?_ GE216.out) | exact HB.out)⟩) : p := h
set_option maxHeartbeats 8000000 in
set_option maxRecDepth 100000 in
theorem impl_OperandOK.calls (a0_0 : Int) (a0_1 : Int) (a0_2 : Int) (a0_3 : Int) (a0_4 : Int) (a0_5 : Int) (a0_6 : Int) (a1 : Int) (r : Bool) (w : World) (h : impl_OperandOK.f a0_0 a0_1 a0_2 a0_3 a0_4 a0_5 a0_6 a1 = some r) :
    Calls Try.prog 87 #[.agg #[.int .i64 a0_0, .int .i64 a0_1, .int .i64 a0_2, .int .i64 a0_3, .int .i64 a0_4, .int .i64 a0_5, .int .i64 a0_6], .int .i64 a1] w fun e w' => e = .returned (.bool r) ∧ Below w.heap.size w w' := by
  have hu28 := Try.underlying28
  have HB := Aside0.mk (Below.refl w.heap.size w)
  have H : ((impl_isSize.f a1).bind fun t217 => (if t217 = true then (if a0_0 = 1 then ((impl_regOf.f a0_1).bind fun bt218 => (if (a0_0 == bt218.1 && (a0_1 == bt218.2.1 && (a0_2 == bt218.2.2.1 && (a0_3 == bt218.2.2.2.1 && (a0_4 == bt218.2.2.2.2.1 && (a0_5 == bt218.2.2.2.2.2.1 && (a0_6 == bt218.2.2.2.2.2.2))))))) = true then ((impl_isReg.f a0_1 a1).bind fun t225 => (some t225)) else (some false))) else (if a0_0 = 2 then ((impl_Operand_isMem.f a0_0 a0_1 a0_2 a0_3 a0_4 a0_5 a0_6).bind fun t226 => (some t226)) else (if a0_0 = 3 then ((impl_immOf.f a0_6).bind fun bt227 => (some (a0_0 == bt227.1 && (a0_1 == bt227.2.1 && (a0_2 == bt227.2.2.1 && (a0_3 == bt227.2.2.2.1 && (a0_4 == bt227.2.2.2.2.1 && (a0_5 == bt227.2.2.2.2.2.1 && (a0_6 == bt227.2.2.2.2.2.2))))))))) else (some (a0_0 == 0 && (a0_1 == 0 && (a0_2 == 0 && (a0_3 == 0 && (a0_4 == 0 && (a0_5 == 0 && (a0_6 == 0))))))))))) else (some false))) = some r := h
  clear h
  replace H := Option.bind_eq_some_iff.mp H
  obtain ⟨t217, A30, H⟩ := H
  replace H : (if t217 = true then (if a0_0 = 1 then ((impl_regOf.f a0_1).bind fun bt218 => (if (a0_0 == bt218.1 && (a0_1 == bt218.2.1 && (a0_2 == bt218.2.2.1 && (a0_3 == bt218.2.2.2.1 && (a0_4 == bt218.2.2.2.2.1 && (a0_5 == bt218.2.2.2.2.2.1 && (a0_6 == bt218.2.2.2.2.2.2))))))) = true then ((impl_isReg.f a0_1 a1).bind fun t225 => (some t225)) else (some false))) else (if a0_0 = 2 then ((impl_Operand_isMem.f a0_0 a0_1 a0_2 a0_3 a0_4 a0_5 a0_6).bind fun t226 => (some t226)) else (if a0_0 = 3 then ((impl_immOf.f a0_6).bind fun bt227 => (some (a0_0 == bt227.1 && (a0_1 == bt227.2.1 && (a0_2 == bt227.2.2.1 && (a0_3 == bt227.2.2.2.1 && (a0_4 == bt227.2.2.2.2.1 && (a0_5 == bt227.2.2.2.2.2.1 && (a0_6 == bt227.2.2.2.2.2.2))))))))) else (some (a0_0 == 0 && (a0_1 == 0 && (a0_2 == 0 && (a0_3 == 0 && (a0_4 == 0 && (a0_5 == 0 && (a0_6 == 0))))))))))) else (some false)) = some r := H
  have A3 := Aside0.mk A30
  clear A30
  by_cases c4 : t217 = true
  · subst c4
    have H1 : (if a0_0 = 1 then ((impl_regOf.f a0_1).bind fun bt218 => (if (a0_0 == bt218.1 && (a0_1 == bt218.2.1 && (a0_2 == bt218.2.2.1 && (a0_3 == bt218.2.2.2.1 && (a0_4 == bt218.2.2.2.2.1 && (a0_5 == bt218.2.2.2.2.2.1 && (a0_6 == bt218.2.2.2.2.2.2))))))) = true then ((impl_isReg.f a0_1 a1).bind fun t225 => (some t225)) else (some false))) else (if a0_0 = 2 then ((impl_Operand_isMem.f a0_0 a0_1 a0_2 a0_3 a0_4 a0_5 a0_6).bind fun t226 => (some t226)) else (if a0_0 = 3 then ((impl_immOf.f a0_6).bind fun bt227 => (some (a0_0 == bt227.1 && (a0_1 == bt227.2.1 && (a0_2 == bt227.2.2.1 && (a0_3 == bt227.2.2.2.1 && (a0_4 == bt227.2.2.2.2.1 && (a0_5 == bt227.2.2.2.2.2.1 && (a0_6 == bt227.2.2.2.2.2.2))))))))) else (some (a0_0 == 0 && (a0_1 == 0 && (a0_2 == 0 && (a0_3 == 0 && (a0_4 == 0 && (a0_5 == 0 && (a0_6 == 0))))))))))) = some r := by rw [if_pos rfl] at H; exact H
    clear H
    have H := H1
    clear H1
    by_cases c5 : a0_0 = 1
    · rw [if_pos c5] at H
      have c5b0 : (a0_0 == 1) = true := beq_iff_eq.mpr c5
      have c5b1 : (a0_0 != 1) = false := bne_eq_false_iff_eq.mpr c5
      clear c5
      replace H := Option.bind_eq_some_iff.mp H
      obtain ⟨⟨t218, t219, t220, t221, t222, t223, t224⟩, A60, H⟩ := H
      replace H : (if (a0_0 == t218 && (a0_1 == t219 && (a0_2 == t220 && (a0_3 == t221 && (a0_4 == t222 && (a0_5 == t223 && (a0_6 == t224))))))) = true then ((impl_isReg.f a0_1 a1).bind fun t225 => (some t225)) else (some false)) = some r := H
      have A6 := Aside0.mk A60
      clear A60
      by_cases c7 : (a0_0 == t218 && (a0_1 == t219 && (a0_2 == t220 && (a0_3 == t221 && (a0_4 == t222 && (a0_5 == t223 && (a0_6 == t224))))))) = true
      · rw [if_pos c7] at H
        have c7b0 : (a0_0 == t218 && (a0_1 == t219 && (a0_2 == t220 && (a0_3 == t221 && (a0_4 == t222 && (a0_5 == t223 && (a0_6 == t224))))))) = true := c7
        (try (have c7b1 : decide (a0_0 = t218 && (a0_1 == t219 && (a0_2 == t220 && (a0_3 == t221 && (a0_4 == t222 && (a0_5 == t223 && (a0_6 == t224))))))) = true := by simpa using c7))
        (try (have c7b2 : (a0_0 == t218 && (a0_1 == t219 && (a0_2 == t220 && (a0_3 == t221 && (a0_4 == t222 && (a0_5 == t223 && (a0_6 == t224))))))) = true := by simpa using c7))
        clear c7
        replace H := Option.bind_eq_some_iff.mp H
        obtain ⟨t225, A80, H⟩ := H
        replace H : (some t225) = some r := H
        have A8 := Aside0.mk A80
        clear A80
        obtain rfl := Option.some.inj H
        go_enter Try.func87, Try.ntmps87
        try go_wp2_with (first | ((with_reducible refine gate_dst (N := 2) rfl ?_); refine bx28 (w := w) (N := 2) rfl rfl rfl rfl by0 ?_; intro gb216 w9 n0_ BK216 GW216 GE216; clear HB; have HB := n0_; clear n0_) | ((with_reducible refine gate_callee (f := 132) rfl ?_); refine goesL_ (some 6) rfl rfl Try.func132 by4 rfl #[.int .i64 a1] rfl by1 ?_; (with_reducible refine (impl_isSize.calls a1 true _ A3.out).mono ?_); rintro e w' ⟨rfl, ⟨nd, rfl⟩⟩; refine ⟨_, rfl, ?_⟩; obtain ⟨hcz10_0, hcz10_1, hcz10_2, hcz10_3, hcz10_4, hcz10_5, hcz10_6⟩ := cs7 BK216.out))
        (try (rw [drewN_self w9]; generalize hq_ : World.drewN w9 _ = w9; have n0_ : Aside0 (w9.heap[gb216]? = some (.cells #[.int .i64 a0_0, .int .i64 a0_1, .int .i64 a0_2, .int .i64 a0_3, .int .i64 a0_4, .int .i64 a0_5, .int .i64 a0_6] 28 (0, 0))) := ⟨by rw [← hq_]; exact by55⟩; have n1_ : Aside0 (Below w.heap.size w w9) := ⟨by rw [← hq_]; exact by44⟩; clear BK216 HB hq_; have BK216 := n0_; have HB := n1_; clear n0_ n1_))
        have n0_ := Aside0.mk (blk_drew BK216.out)
        have n1_ := Aside0.mk (below_drew1 HB.out)
        clear BK216
        clear HB
        have BK216 := n0_
        have HB := n1_
        clear n0_ n1_
        refine start_ (n := 12) (S := fun w' => w'.cell? ⟨gb216, 0, none⟩ = some (.int .i64 a0_0) ∧ w'.cell? ⟨gb216, 1, none⟩ = some (.int .i64 a0_1) ∧ w'.cell? ⟨gb216, 2, none⟩ = some (.int .i64 a0_2) ∧ w'.cell? ⟨gb216, 3, none⟩ = some (.int .i64 a0_3) ∧ w'.cell? ⟨gb216, 4, none⟩ = some (.int .i64 a0_4) ∧ w'.cell? ⟨gb216, 5, none⟩ = some (.int .i64 a0_5) ∧ w'.cell? ⟨gb216, 6, none⟩ = some (.int .i64 a0_6)) (ds := []) #[false, false, false, false, false, false, false, false, false, false, false, false] by4 rfl rfl ⟨(blk_cell BK216.out 0).trans rfl, (blk_cell BK216.out 1).trans rfl, (blk_cell BK216.out 2).trans rfl, (blk_cell BK216.out 3).trans rfl, (blk_cell BK216.out 4).trans rfl, (blk_cell BK216.out 5).trans rfl, (blk_cell BK216.out 6).trans rfl⟩ (fun hHeld => ?_); refine with_tabW impl_OperandOK.tab5 impl_OperandOK.bits5 (fun HT_ HW_ => ?_)
        generalize w9.drew = w11 at BK216 HB hHeld ⊢
        refine pure_ (i := 1) (N := some 13) (v := ?_) (a' := ?_) #[false, true, false, false, false, false, false, false, false, false, false, false] rfl rfl (any_of HT_.out by4) (fun _ _ _ h => h) (Or.inl ⟨by rfl, ?_⟩) ?_ ?_
        rotate_left
        · intro w'
          go_simp
          first | with_reducible rfl | exact ifs7 _ _ _ _ _ _ _ _ _ _ _ _ _ _ _ | exact ifs7n _ _ _ _ _ _ _ _ _ _ _ _ _ _ _
        rotate_left
        · simp only [Act.put, List.setIfInBounds_toArray, List.set_cons_zero, List.set_cons_succ, i64_w, i32_w]
          rfl
        refine take_ (i := 0) (N := some 12) (v := ?_) (a' := ?_) #[true, true, false, false, false, false, false, false, false, false, false, false] rfl rfl (take_ofW HT_.out HW_.out by4) (fun _ _ _ h => h) (Or.inl ⟨by rfl, ?_⟩) hHeld ?_ ?_
        rotate_left
        · rintro w' ⟨s0, s1, s2, s3, s4, s5, s6⟩
          go_simp
          first | with_reducible rfl | exact ifs7 _ _ _ _ _ _ _ _ _ _ _ _ _ _ _ | exact ifs7n _ _ _ _ _ _ _ _ _ _ _ _ _ _ _
        rotate_left
        · simp only [Act.put, List.setIfInBounds_toArray, List.set_cons_zero, List.set_cons_succ, i64_w, i32_w]
          rfl
        refine take_ (i := 2) (N := some 14) (v := ?_) (a' := ?_) #[true, true, true, false, false, false, false, false, false, false, false, false] rfl rfl (take_ofW HT_.out HW_.out by4) (fun _ _ _ h => h) (Or.inl ⟨by rfl, ?_⟩) hHeld ?_ ?_
        rotate_left
        · rintro w' ⟨s0, s1, s2, s3, s4, s5, s6⟩
          go_simp
          first | with_reducible rfl | exact ifs7 _ _ _ _ _ _ _ _ _ _ _ _ _ _ _ | exact ifs7n _ _ _ _ _ _ _ _ _ _ _ _ _ _ _
        rotate_left
        · simp only [Act.put, List.setIfInBounds_toArray, List.set_cons_zero, List.set_cons_succ, i64_w, i32_w]
          rfl
        refine one_ (i := 3) (N := some 15) #[true, true, true, true, false, false, false, false, false, false, false, false] rfl rfl (one_of HT_.out by4) (by decide) (fun K hK => ?_)
        refine goes_ Try.func101 by4 rfl #[.int .i64 a0_1] (by rfl) rfl rfl by1 ?_
        with_reducible refine (impl_regOf.calls a0_1 t218 t219 t220 t221 t222 t223 t224 _ A6.out).mono ?_
        rintro e w12 ⟨rfl, hb⟩
        refine ⟨_, rfl, ?_⟩
        have n0_ := Aside0.mk (blk_below by55 hb)
        have n1_ := Aside0.mk (below_step by44 hb)
        clear BK216
        clear HB
        have BK216 := n0_
        have HB := n1_
        clear n0_ n1_
        (try clear hb)
        (try clear hb2)
        (try clear hk)
        (try clear hi)
        refine hK.out _ _ ⟨(blk_cell BK216.out 0).trans rfl, (blk_cell BK216.out 1).trans rfl, (blk_cell BK216.out 2).trans rfl, (blk_cell BK216.out 3).trans rfl, (blk_cell BK216.out 4).trans rfl, (blk_cell BK216.out 5).trans rfl, (blk_cell BK216.out 6).trans rfl⟩ (fun hHeld => ?_)
        clear hK K
        refine norm_ (a' := ?_) ?_ ?_
        rotate_left
        · show Act.put _ (some 15) _ = _
          simp only [Act.put, List.setIfInBounds_toArray, List.set_cons_zero, List.set_cons_succ, i64_w, i32_w]
          rfl
        refine pure_ (i := 4) (N := some 16) (v := ?_) (a' := ?_) #[true, true, true, true, true, false, false, false, false, false, false, false] rfl rfl (any_of HT_.out by4) (fun _ _ _ h => h) (Or.inl ⟨by rfl, ?_⟩) ?_ ?_
        rotate_left
        · intro w'
          go_simp
          first | with_reducible rfl | exact ifs7 _ _ _ _ _ _ _ _ _ _ _ _ _ _ _ | exact ifs7n _ _ _ _ _ _ _ _ _ _ _ _ _ _ _
        rotate_left
        · simp only [Act.put, List.setIfInBounds_toArray, List.set_cons_zero, List.set_cons_succ, i64_w, i32_w]
          rfl
        refine pure_ (i := 5) (N := some 17) (v := ?_) (a' := ?_) #[true, true, true, true, true, true, false, false, false, false, false, false] rfl rfl (any_of HT_.out by4) (fun _ _ _ h => h) (Or.inl ⟨by rfl, ?_⟩) ?_ ?_
        rotate_left
        · intro w'
          go_simp
          first | with_reducible rfl | exact ifs7 _ _ _ _ _ _ _ _ _ _ _ _ _ _ _ | exact ifs7n _ _ _ _ _ _ _ _ _ _ _ _ _ _ _
        rotate_left
        · simp only [Act.put, List.setIfInBounds_toArray, List.set_cons_zero, List.set_cons_succ, i64_w, i32_w]
          rfl
        refine pure_ (i := 6) (N := some 18) (v := ?_) (a' := ?_) #[true, true, true, true, true, true, true, false, false, false, false, false] rfl rfl (any_of HT_.out by4) (fun _ _ _ h => h) (Or.inl ⟨by rfl, ?_⟩) ?_ ?_
        rotate_left
        · intro w'
          go_simp
          first | with_reducible rfl | exact ifs7 _ _ _ _ _ _ _ _ _ _ _ _ _ _ _ | exact ifs7n _ _ _ _ _ _ _ _ _ _ _ _ _ _ _
        rotate_left
        · simp only [Act.put, List.setIfInBounds_toArray, List.set_cons_zero, List.set_cons_succ, i64_w, i32_w]
          rfl
        refine pure_ (i := 8) (N := some 20) (v := ?_) (a' := ?_) #[true, true, true, true, true, true, true, false, true, false, false, false] rfl rfl (any_of HT_.out by4) (fun _ _ _ h => h) (Or.inl ⟨by rfl, ?_⟩) ?_ ?_
        rotate_left
        · intro w'
          go_simp
          first | with_reducible rfl | exact ifs7 _ _ _ _ _ _ _ _ _ _ _ _ _ _ _ | exact ifs7n _ _ _ _ _ _ _ _ _ _ _ _ _ _ _
        rotate_left
        · simp only [Act.put, List.setIfInBounds_toArray, List.set_cons_zero, List.set_cons_succ, i64_w, i32_w]
          rfl
        refine take_ (i := 7) (N := some 19) (v := ?_) (a' := ?_) #[true, true, true, true, true, true, true, true, true, false, false, false] rfl rfl (take_ofW HT_.out HW_.out by4) (fun _ _ _ h => h) (Or.inl ⟨by rfl, ?_⟩) hHeld ?_ ?_
        rotate_left
        · rintro w' ⟨s0, s1, s2, s3, s4, s5, s6⟩
          go_simp
          first | with_reducible rfl | exact ifs7 _ _ _ _ _ _ _ _ _ _ _ _ _ _ _ | exact ifs7n _ _ _ _ _ _ _ _ _ _ _ _ _ _ _
        rotate_left
        · simp only [Act.put, List.setIfInBounds_toArray, List.set_cons_zero, List.set_cons_succ, i64_w, i32_w]
          rfl
        refine one_ (i := 9) (N := some 21) #[true, true, true, true, true, true, true, true, true, true, false, false] rfl rfl (one_of HT_.out by4) (by decide) (fun K hK => ?_)
        refine goes_ Try.func133 by4 rfl #[.int .i64 a0_1, .int .i64 a1] (by rfl) rfl rfl by1 ?_
        with_reducible refine (impl_isReg.calls a0_1 a1 t225 _ A8.out).mono ?_
        rintro e w' ⟨rfl, ⟨nd, rfl⟩⟩
        refine ⟨_, rfl, ?_⟩
        refine hK.out _ _ ⟨(blk_cell BK216.out 0).trans rfl, (blk_cell BK216.out 1).trans rfl, (blk_cell BK216.out 2).trans rfl, (blk_cell BK216.out 3).trans rfl, (blk_cell BK216.out 4).trans rfl, (blk_cell BK216.out 5).trans rfl, (blk_cell BK216.out 6).trans rfl⟩ (fun hHeld => ?_)
        clear hK K
        refine norm_ (a' := ?_) ?_ ?_
        rotate_left
        · show Act.put _ (some 21) _ = _
          simp only [Act.put, List.setIfInBounds_toArray, List.set_cons_zero, List.set_cons_succ, i64_w, i32_w]
          rfl
        refine pure_ (i := 10) (N := some 22) (v := ?_) (a' := ?_) #[true, true, true, true, true, true, true, true, true, true, true, false] rfl rfl (any_of HT_.out by4) (fun _ _ _ h => h) (Or.inl ⟨by rfl, ?_⟩) ?_ ?_
        rotate_left
        · intro w'
          go_simp
          first | with_reducible rfl | exact ifs7 _ _ _ _ _ _ _ _ _ _ _ _ _ _ _ | exact ifs7n _ _ _ _ _ _ _ _ _ _ _ _ _ _ _
        rotate_left
        · simp only [Act.put, List.setIfInBounds_toArray, List.set_cons_zero, List.set_cons_succ, i64_w, i32_w]
          rfl
        refine pure_ (i := 11) (N := some 4) (v := ?_) (a' := ?_) #[true, true, true, true, true, true, true, true, true, true, true, true] rfl rfl (any_of HT_.out by4) (fun _ _ _ h => h) (Or.inl ⟨by rfl, ?_⟩) ?_ ?_
        rotate_left
        · intro w'
          go_simp
          first | with_reducible rfl | exact ifs7 _ _ _ _ _ _ _ _ _ _ _ _ _ _ _ | exact ifs7n _ _ _ _ _ _ _ _ _ _ _ _ _ _ _
        rotate_left
        · simp only [Act.put, List.setIfInBounds_toArray, List.set_cons_zero, List.set_cons_succ, i64_w, i32_w]
          rfl
        refine done_ (done_of HT_.out by4) ?_
        try go_wp2
        all_goals
         exact impl_OperandOK.e0
      · rw [if_neg c7] at H
        have c7b0 : (a0_0 == t218 && (a0_1 == t219 && (a0_2 == t220 && (a0_3 == t221 && (a0_4 == t222 && (a0_5 == t223 && (a0_6 == t224))))))) = false := by simpa using c7
        (try (have c7b1 : decide (a0_0 = t218 && (a0_1 == t219 && (a0_2 == t220 && (a0_3 == t221 && (a0_4 == t222 && (a0_5 == t223 && (a0_6 == t224))))))) = false := by simpa using c7))
        (try (have c7b2 : (a0_0 == t218 && (a0_1 == t219 && (a0_2 == t220 && (a0_3 == t221 && (a0_4 == t222 && (a0_5 == t223 && (a0_6 == t224))))))) = false := by simpa using c7))
        (try (have c7b3 : ¬ (a0_0 = t218 && (a0_1 == t219 && (a0_2 == t220 && (a0_3 == t221 && (a0_4 == t222 && (a0_5 == t223 && (a0_6 == t224))))))) := by simpa using c7))
        clear c7
        obtain rfl := Option.some.inj H
        go_enter Try.func87, Try.ntmps87
        try go_wp2_with (first | ((with_reducible refine gate_dst (N := 2) rfl ?_); refine bx28 (w := w) (N := 2) rfl rfl rfl rfl by0 ?_; intro gb216 w13 n0_ BK216 GW216 GE216; clear HB; have HB := n0_; clear n0_) | ((with_reducible refine gate_callee (f := 132) rfl ?_); refine goesL_ (some 6) rfl rfl Try.func132 by4 rfl #[.int .i64 a1] rfl by1 ?_; (with_reducible refine (impl_isSize.calls a1 true _ A3.out).mono ?_); rintro e w' ⟨rfl, ⟨nd, rfl⟩⟩; refine ⟨_, rfl, ?_⟩; obtain ⟨hcz14_0, hcz14_1, hcz14_2, hcz14_3, hcz14_4, hcz14_5, hcz14_6⟩ := cs7 BK216.out))
        (try (rw [drewN_self w13]; generalize hq_ : World.drewN w13 _ = w13; have n0_ : Aside0 (w13.heap[gb216]? = some (.cells #[.int .i64 a0_0, .int .i64 a0_1, .int .i64 a0_2, .int .i64 a0_3, .int .i64 a0_4, .int .i64 a0_5, .int .i64 a0_6] 28 (0, 0))) := ⟨by rw [← hq_]; exact by55⟩; have n1_ : Aside0 (Below w.heap.size w w13) := ⟨by rw [← hq_]; exact by44⟩; clear BK216 HB hq_; have BK216 := n0_; have HB := n1_; clear n0_ n1_))
        have n0_ := Aside0.mk (blk_drew BK216.out)
        have n1_ := Aside0.mk (below_drew1 HB.out)
        clear BK216
        clear HB
        have BK216 := n0_
        have HB := n1_
        clear n0_ n1_
        refine start_ (n := 12) (S := fun w' => w'.cell? ⟨gb216, 0, none⟩ = some (.int .i64 a0_0) ∧ w'.cell? ⟨gb216, 1, none⟩ = some (.int .i64 a0_1) ∧ w'.cell? ⟨gb216, 2, none⟩ = some (.int .i64 a0_2) ∧ w'.cell? ⟨gb216, 3, none⟩ = some (.int .i64 a0_3) ∧ w'.cell? ⟨gb216, 4, none⟩ = some (.int .i64 a0_4) ∧ w'.cell? ⟨gb216, 5, none⟩ = some (.int .i64 a0_5) ∧ w'.cell? ⟨gb216, 6, none⟩ = some (.int .i64 a0_6)) (ds := []) #[false, false, false, false, false, false, false, false, false, false, false, false] by4 rfl rfl ⟨(blk_cell BK216.out 0).trans rfl, (blk_cell BK216.out 1).trans rfl, (blk_cell BK216.out 2).trans rfl, (blk_cell BK216.out 3).trans rfl, (blk_cell BK216.out 4).trans rfl, (blk_cell BK216.out 5).trans rfl, (blk_cell BK216.out 6).trans rfl⟩ (fun hHeld => ?_); refine with_tabW impl_OperandOK.tab5 impl_OperandOK.bits5 (fun HT_ HW_ => ?_)
        generalize w13.drew = w15 at BK216 HB hHeld ⊢
        refine pure_ (i := 1) (N := some 13) (v := ?_) (a' := ?_) #[false, true, false, false, false, false, false, false, false, false, false, false] rfl rfl (any_of HT_.out by4) (fun _ _ _ h => h) (Or.inl ⟨by rfl, ?_⟩) ?_ ?_
        rotate_left
        · intro w'
          go_simp
          first | with_reducible rfl | exact ifs7 _ _ _ _ _ _ _ _ _ _ _ _ _ _ _ | exact ifs7n _ _ _ _ _ _ _ _ _ _ _ _ _ _ _
        rotate_left
        · simp only [Act.put, List.setIfInBounds_toArray, List.set_cons_zero, List.set_cons_succ, i64_w, i32_w]
          rfl
        refine take_ (i := 0) (N := some 12) (v := ?_) (a' := ?_) #[true, true, false, false, false, false, false, false, false, false, false, false] rfl rfl (take_ofW HT_.out HW_.out by4) (fun _ _ _ h => h) (Or.inl ⟨by rfl, ?_⟩) hHeld ?_ ?_
        rotate_left
        · rintro w' ⟨s0, s1, s2, s3, s4, s5, s6⟩
          go_simp
          first | with_reducible rfl | exact ifs7 _ _ _ _ _ _ _ _ _ _ _ _ _ _ _ | exact ifs7n _ _ _ _ _ _ _ _ _ _ _ _ _ _ _
        rotate_left
        · simp only [Act.put, List.setIfInBounds_toArray, List.set_cons_zero, List.set_cons_succ, i64_w, i32_w]
          rfl
        refine take_ (i := 2) (N := some 14) (v := ?_) (a' := ?_) #[true, true, true, false, false, false, false, false, false, false, false, false] rfl rfl (take_ofW HT_.out HW_.out by4) (fun _ _ _ h => h) (Or.inl ⟨by rfl, ?_⟩) hHeld ?_ ?_
        rotate_left
        · rintro w' ⟨s0, s1, s2, s3, s4, s5, s6⟩
          go_simp
          first | with_reducible rfl | exact ifs7 _ _ _ _ _ _ _ _ _ _ _ _ _ _ _ | exact ifs7n _ _ _ _ _ _ _ _ _ _ _ _ _ _ _
        rotate_left
        · simp only [Act.put, List.setIfInBounds_toArray, List.set_cons_zero, List.set_cons_succ, i64_w, i32_w]
          rfl
        refine one_ (i := 3) (N := some 15) #[true, true, true, true, false, false, false, false, false, false, false, false] rfl rfl (one_of HT_.out by4) (by decide) (fun K hK => ?_)
        refine goes_ Try.func101 by4 rfl #[.int .i64 a0_1] (by rfl) rfl rfl by1 ?_
        with_reducible refine (impl_regOf.calls a0_1 t218 t219 t220 t221 t222 t223 t224 _ A6.out).mono ?_
        rintro e w16 ⟨rfl, hb⟩
        refine ⟨_, rfl, ?_⟩
        have n0_ := Aside0.mk (blk_below by55 hb)
        have n1_ := Aside0.mk (below_step by44 hb)
        clear BK216
        clear HB
        have BK216 := n0_
        have HB := n1_
        clear n0_ n1_
        (try clear hb)
        (try clear hb2)
        (try clear hk)
        (try clear hi)
        refine hK.out _ _ ⟨(blk_cell BK216.out 0).trans rfl, (blk_cell BK216.out 1).trans rfl, (blk_cell BK216.out 2).trans rfl, (blk_cell BK216.out 3).trans rfl, (blk_cell BK216.out 4).trans rfl, (blk_cell BK216.out 5).trans rfl, (blk_cell BK216.out 6).trans rfl⟩ (fun hHeld => ?_)
        clear hK K
        refine norm_ (a' := ?_) ?_ ?_
        rotate_left
        · show Act.put _ (some 15) _ = _
          simp only [Act.put, List.setIfInBounds_toArray, List.set_cons_zero, List.set_cons_succ, i64_w, i32_w]
          rfl
        refine pure_ (i := 4) (N := some 16) (v := ?_) (a' := ?_) #[true, true, true, true, true, false, false, false, false, false, false, false] rfl rfl (any_of HT_.out by4) (fun _ _ _ h => h) (Or.inl ⟨by rfl, ?_⟩) ?_ ?_
        rotate_left
        · intro w'
          go_simp
          first | with_reducible rfl | exact ifs7 _ _ _ _ _ _ _ _ _ _ _ _ _ _ _ | exact ifs7n _ _ _ _ _ _ _ _ _ _ _ _ _ _ _
        rotate_left
        · simp only [Act.put, List.setIfInBounds_toArray, List.set_cons_zero, List.set_cons_succ, i64_w, i32_w]
          rfl
        refine pure_ (i := 5) (N := some 17) (v := ?_) (a' := ?_) #[true, true, true, true, true, true, false, false, false, false, false, false] rfl rfl (any_of HT_.out by4) (fun _ _ _ h => h) (Or.inl ⟨by rfl, ?_⟩) ?_ ?_
        rotate_left
        · intro w'
          go_simp
          first | with_reducible rfl | exact ifs7 _ _ _ _ _ _ _ _ _ _ _ _ _ _ _ | exact ifs7n _ _ _ _ _ _ _ _ _ _ _ _ _ _ _
        rotate_left
        · simp only [Act.put, List.setIfInBounds_toArray, List.set_cons_zero, List.set_cons_succ, i64_w, i32_w]
          rfl
        refine pure_ (i := 6) (N := some 18) (v := undef) (a' := ?_) #[true, true, true, true, true, true, true, false, false, false, false, false] rfl rfl (any_of HT_.out by4) (fun _ _ _ h => h) (Or.inr ⟨by rfl, rfl⟩) ?_ ?_
        rotate_left
        · simp only [Act.put, List.setIfInBounds_toArray, List.set_cons_zero, List.set_cons_succ, i64_w, i32_w]
          rfl
        refine pure_ (i := 7) (N := some 19) (v := undef) (a' := ?_) #[true, true, true, true, true, true, true, true, false, false, false, false] rfl rfl (any_of HT_.out by4) (fun _ _ _ h => h) (Or.inr ⟨by rfl, rfl⟩) ?_ ?_
        rotate_left
        · simp only [Act.put, List.setIfInBounds_toArray, List.set_cons_zero, List.set_cons_succ, i64_w, i32_w]
          rfl
        refine pure_ (i := 8) (N := some 20) (v := undef) (a' := ?_) #[true, true, true, true, true, true, true, true, true, false, false, false] rfl rfl (any_of HT_.out by4) (fun _ _ _ h => h) (Or.inr ⟨by rfl, rfl⟩) ?_ ?_
        rotate_left
        · simp only [Act.put, List.setIfInBounds_toArray, List.set_cons_zero, List.set_cons_succ, i64_w, i32_w]
          rfl
        refine pure_ (i := 9) (N := some 21) (v := undef) (a' := ?_) #[true, true, true, true, true, true, true, true, true, true, false, false] rfl rfl (any_of HT_.out by4) (fun _ _ _ h => h) (Or.inr ⟨by rfl, rfl⟩) ?_ ?_
        rotate_left
        · simp only [Act.put, List.setIfInBounds_toArray, List.set_cons_zero, List.set_cons_succ, i64_w, i32_w]
          rfl
        refine pure_ (i := 10) (N := some 22) (v := ?_) (a' := ?_) #[true, true, true, true, true, true, true, true, true, true, true, false] rfl rfl (any_of HT_.out by4) (fun _ _ _ h => h) (Or.inl ⟨by rfl, ?_⟩) ?_ ?_
        rotate_left
        · intro w'
          go_simp
          first | with_reducible rfl | exact ifs7 _ _ _ _ _ _ _ _ _ _ _ _ _ _ _ | exact ifs7n _ _ _ _ _ _ _ _ _ _ _ _ _ _ _
        rotate_left
        · simp only [Act.put, List.setIfInBounds_toArray, List.set_cons_zero, List.set_cons_succ, i64_w, i32_w]
          rfl
        refine pure_ (i := 11) (N := some 4) (v := ?_) (a' := ?_) #[true, true, true, true, true, true, true, true, true, true, true, true] rfl rfl (any_of HT_.out by4) (fun _ _ _ h => h) (Or.inl ⟨by rfl, ?_⟩) ?_ ?_
        rotate_left
        · intro w'
          go_simp
          first | with_reducible rfl | exact ifs7 _ _ _ _ _ _ _ _ _ _ _ _ _ _ _ | exact ifs7n _ _ _ _ _ _ _ _ _ _ _ _ _ _ _
        rotate_left
        · simp only [Act.put, List.setIfInBounds_toArray, List.set_cons_zero, List.set_cons_succ, i64_w, i32_w]
          rfl
        refine done_ (done_of HT_.out by4) ?_
        try go_wp2
        all_goals
         exact impl_OperandOK.e0
    · rw [if_neg c5] at H
      have c5b0 : (a0_0 == 1) = false := beq_eq_false_iff_ne.mpr c5
      have c5b1 : (a0_0 != 1) = true := bne_iff_ne.mpr c5
      by_cases c17 : a0_0 = 2
      · rw [if_pos c17] at H
        have c17b0 : (a0_0 == 2) = true := beq_iff_eq.mpr c17
        have c17b1 : (a0_0 != 2) = false := bne_eq_false_iff_eq.mpr c17
        clear c17
        replace H := Option.bind_eq_some_iff.mp H
        obtain ⟨t226, A180, H⟩ := H
        replace H : (some t226) = some r := H
        have A18 := Aside0.mk A180
        clear A180
        obtain rfl := Option.some.inj H
        go_enter Try.func87, Try.ntmps87
        go_wp2_with (first | ((with_reducible refine gate_dst (N := 2) rfl ?_); refine bx28 (w := w) (N := 2) rfl rfl rfl rfl by0 ?_; intro gb216 w19 n0_ BK216 GW216 GE216; clear HB; have HB := n0_; clear n0_) | ((with_reducible refine gate_callee (f := 132) rfl ?_); refine goesL_ (some 6) rfl rfl Try.func132 by4 rfl #[.int .i64 a1] rfl by1 ?_; (with_reducible refine (impl_isSize.calls a1 true _ A3.out).mono ?_); rintro e w' ⟨rfl, ⟨nd, rfl⟩⟩; refine ⟨_, rfl, ?_⟩; obtain ⟨hcz20_0, hcz20_1, hcz20_2, hcz20_3, hcz20_4, hcz20_5, hcz20_6⟩ := cs7 BK216.out) | ((with_reducible refine gate_callee (f := 134) rfl ?_); refine goesL_ (some 26) rfl rfl Try.func134 by4 rfl _ rfl by1 (Calls.mono (impl_Operand_isMem.calls _ _ _ _ _ _ _ _ _ A18.out) ?_); rintro e w21 ⟨rfl, hb⟩; refine ⟨_, rfl, ?_⟩; have n0_ := Aside0.mk (blk_below by55 hb); have n1_ := Aside0.mk (below_step by44 hb); clear BK216; clear HB; have BK216 := n0_; have HB := n1_; clear n0_ n1_; (try clear hb); (try clear hb2); (try clear hk); (try clear hi)))
        all_goals
         exact impl_OperandOK.e0
      · rw [if_neg c17] at H
        have c17b0 : (a0_0 == 2) = false := beq_eq_false_iff_ne.mpr c17
        have c17b1 : (a0_0 != 2) = true := bne_iff_ne.mpr c17
        by_cases c22 : a0_0 = 3
        · rw [if_pos c22] at H
          have c22b0 : (a0_0 == 3) = true := beq_iff_eq.mpr c22
          have c22b1 : (a0_0 != 3) = false := bne_eq_false_iff_eq.mpr c22
          clear c22
          replace H := Option.bind_eq_some_iff.mp H
          obtain ⟨⟨t227, t228, t229, t230, t231, t232, t233⟩, A230, H⟩ := H
          replace H : (some (a0_0 == t227 && (a0_1 == t228 && (a0_2 == t229 && (a0_3 == t230 && (a0_4 == t231 && (a0_5 == t232 && (a0_6 == t233)))))))) = some r := H
          have A23 := Aside0.mk A230
          clear A230
          obtain rfl := Option.some.inj H
          go_enter Try.func87, Try.ntmps87
          try go_wp2_with (first | ((with_reducible refine gate_dst (N := 2) rfl ?_); refine bx28 (w := w) (N := 2) rfl rfl rfl rfl by0 ?_; intro gb216 w24 n0_ BK216 GW216 GE216; clear HB; have HB := n0_; clear n0_) | ((with_reducible refine gate_callee (f := 132) rfl ?_); refine goesL_ (some 6) rfl rfl Try.func132 by4 rfl #[.int .i64 a1] rfl by1 ?_; (with_reducible refine (impl_isSize.calls a1 true _ A3.out).mono ?_); rintro e w' ⟨rfl, ⟨nd, rfl⟩⟩; refine ⟨_, rfl, ?_⟩; obtain ⟨hcz25_0, hcz25_1, hcz25_2, hcz25_3, hcz25_4, hcz25_5, hcz25_6⟩ := cs7 BK216.out))
          (try (rw [drewN_self w24]; generalize hq_ : World.drewN w24 _ = w24; have n0_ : Aside0 (w24.heap[gb216]? = some (.cells #[.int .i64 a0_0, .int .i64 a0_1, .int .i64 a0_2, .int .i64 a0_3, .int .i64 a0_4, .int .i64 a0_5, .int .i64 a0_6] 28 (0, 0))) := ⟨by rw [← hq_]; exact by55⟩; have n1_ : Aside0 (Below w.heap.size w w24) := ⟨by rw [← hq_]; exact by44⟩; clear BK216 HB hq_; have BK216 := n0_; have HB := n1_; clear n0_ n1_))
          have n0_ := Aside0.mk (blk_drew BK216.out)
          have n1_ := Aside0.mk (below_drew1 HB.out)
          clear BK216
          clear HB
          have BK216 := n0_
          have HB := n1_
          clear n0_ n1_
          refine start_ (n := 6) (S := fun w' => w'.cell? ⟨gb216, 0, none⟩ = some (.int .i64 a0_0) ∧ w'.cell? ⟨gb216, 1, none⟩ = some (.int .i64 a0_1) ∧ w'.cell? ⟨gb216, 2, none⟩ = some (.int .i64 a0_2) ∧ w'.cell? ⟨gb216, 3, none⟩ = some (.int .i64 a0_3) ∧ w'.cell? ⟨gb216, 4, none⟩ = some (.int .i64 a0_4) ∧ w'.cell? ⟨gb216, 5, none⟩ = some (.int .i64 a0_5) ∧ w'.cell? ⟨gb216, 6, none⟩ = some (.int .i64 a0_6)) (ds := []) #[false, false, false, false, false, false] by4 rfl rfl ⟨(blk_cell BK216.out 0).trans rfl, (blk_cell BK216.out 1).trans rfl, (blk_cell BK216.out 2).trans rfl, (blk_cell BK216.out 3).trans rfl, (blk_cell BK216.out 4).trans rfl, (blk_cell BK216.out 5).trans rfl, (blk_cell BK216.out 6).trans rfl⟩ (fun hHeld => ?_)
          generalize w24.drew = w26 at BK216 HB hHeld ⊢
          refine pure_ (i := 1) (N := some 30) (v := ?_) (a' := ?_) #[false, true, false, false, false, false] rfl rfl by4 (fun _ _ _ h => h) (Or.inl ⟨by rfl, ?_⟩) ?_ ?_
          rotate_left
          · intro w'
            go_simp
            first | with_reducible rfl | exact ifs7 _ _ _ _ _ _ _ _ _ _ _ _ _ _ _ | exact ifs7n _ _ _ _ _ _ _ _ _ _ _ _ _ _ _
          rotate_left
          · simp only [Act.put, List.setIfInBounds_toArray, List.set_cons_zero, List.set_cons_succ, i64_w, i32_w]
            rfl
          refine take_ (i := 0) (N := some 29) (v := ?_) (a' := ?_) #[true, true, false, false, false, false] rfl rfl by4 (fun _ _ _ h => h) (Or.inl ⟨by rfl, ?_⟩) hHeld ?_ ?_
          rotate_left
          · rintro w' ⟨s0, s1, s2, s3, s4, s5, s6⟩
            go_simp
            first | with_reducible rfl | exact ifs7 _ _ _ _ _ _ _ _ _ _ _ _ _ _ _ | exact ifs7n _ _ _ _ _ _ _ _ _ _ _ _ _ _ _
          rotate_left
          · simp only [Act.put, List.setIfInBounds_toArray, List.set_cons_zero, List.set_cons_succ, i64_w, i32_w]
            rfl
          refine take_ (i := 2) (N := some 31) (v := ?_) (a' := ?_) #[true, true, true, false, false, false] rfl rfl by4 (fun _ _ _ h => h) (Or.inl ⟨by rfl, ?_⟩) hHeld ?_ ?_
          rotate_left
          · rintro w' ⟨s0, s1, s2, s3, s4, s5, s6⟩
            go_simp
            first | with_reducible rfl | exact ifs7 _ _ _ _ _ _ _ _ _ _ _ _ _ _ _ | exact ifs7n _ _ _ _ _ _ _ _ _ _ _ _ _ _ _
          rotate_left
          · simp only [Act.put, List.setIfInBounds_toArray, List.set_cons_zero, List.set_cons_succ, i64_w, i32_w]
            rfl
          refine one_ (i := 3) (N := some 32) #[true, true, true, true, false, false] rfl rfl by4 (by decide) (fun K hK => ?_)
          refine goes_ Try.func121 by4 rfl #[.int .i64 a0_6] (by rfl) rfl rfl by1 ?_
          with_reducible refine (impl_immOf.calls a0_6 t227 t228 t229 t230 t231 t232 t233 _ A23.out).mono ?_
          rintro e w27 ⟨rfl, hb⟩
          refine ⟨_, rfl, ?_⟩
          have n0_ := Aside0.mk (blk_below by55 hb)
          have n1_ := Aside0.mk (below_step by44 hb)
          clear BK216
          clear HB
          have BK216 := n0_
          have HB := n1_
          clear n0_ n1_
          (try clear hb)
          (try clear hb2)
          (try clear hk)
          (try clear hi)
          refine hK.out _ _ ⟨(blk_cell BK216.out 0).trans rfl, (blk_cell BK216.out 1).trans rfl, (blk_cell BK216.out 2).trans rfl, (blk_cell BK216.out 3).trans rfl, (blk_cell BK216.out 4).trans rfl, (blk_cell BK216.out 5).trans rfl, (blk_cell BK216.out 6).trans rfl⟩ (fun hHeld => ?_)
          clear hK K
          refine norm_ (a' := ?_) ?_ ?_
          rotate_left
          · show Act.put _ (some 32) _ = _
            simp only [Act.put, List.setIfInBounds_toArray, List.set_cons_zero, List.set_cons_succ, i64_w, i32_w]
            rfl
          refine pure_ (i := 4) (N := some 33) (v := ?_) (a' := ?_) #[true, true, true, true, true, false] rfl rfl by4 (fun _ _ _ h => h) (Or.inl ⟨by rfl, ?_⟩) ?_ ?_
          rotate_left
          · intro w'
            go_simp
            first | with_reducible rfl | exact ifs7 _ _ _ _ _ _ _ _ _ _ _ _ _ _ _ | exact ifs7n _ _ _ _ _ _ _ _ _ _ _ _ _ _ _
          rotate_left
          · simp only [Act.put, List.setIfInBounds_toArray, List.set_cons_zero, List.set_cons_succ, i64_w, i32_w]
            rfl
          refine pure_ (i := 5) (N := some 4) (v := ?_) (a' := ?_) #[true, true, true, true, true, true] rfl rfl by4 (fun _ _ _ h => h) (Or.inl ⟨by rfl, ?_⟩) ?_ ?_
          rotate_left
          · intro w'
            go_simp
            first | with_reducible rfl | exact ifs7 _ _ _ _ _ _ _ _ _ _ _ _ _ _ _ | exact ifs7n _ _ _ _ _ _ _ _ _ _ _ _ _ _ _
          rotate_left
          · simp only [Act.put, List.setIfInBounds_toArray, List.set_cons_zero, List.set_cons_succ, i64_w, i32_w]
            rfl
          refine done_ by4 ?_
          try go_wp2
          all_goals
           exact impl_OperandOK.e0
        · rw [if_neg c22] at H
          have c22b0 : (a0_0 == 3) = false := beq_eq_false_iff_ne.mpr c22
          have c22b1 : (a0_0 != 3) = true := bne_iff_ne.mpr c22
          obtain rfl := Option.some.inj H
          go_enter Try.func87, Try.ntmps87
          go_wp2_with (first | ((with_reducible refine gate_dst (N := 2) rfl ?_); refine bx28 (w := w) (N := 2) rfl rfl rfl rfl by0 ?_; intro gb216 w28 n0_ BK216 GW216 GE216; clear HB; have HB := n0_; clear n0_) | ((with_reducible refine gate_callee (f := 132) rfl ?_); refine goesL_ (some 6) rfl rfl Try.func132 by4 rfl #[.int .i64 a1] rfl by1 ?_; (with_reducible refine (impl_isSize.calls a1 true _ A3.out).mono ?_); rintro e w' ⟨rfl, ⟨nd, rfl⟩⟩; refine ⟨_, rfl, ?_⟩; obtain ⟨hcz29_0, hcz29_1, hcz29_2, hcz29_3, hcz29_4, hcz29_5, hcz29_6⟩ := cs7 BK216.out))
          all_goals
           exact impl_OperandOK.e0
  · replace c4 := Bool.eq_false_iff.mpr c4
    subst c4
    have H1 : (some false) = some r := by rw [if_neg (show ¬ (false = true) by decide)] at H; exact H
    clear H
    have H := H1
    clear H1
    obtain rfl := Option.some.inj H
    go_enter Try.func87, Try.ntmps87
    go_wp2_with (first | ((with_reducible refine gate_dst (N := 2) rfl ?_); refine bx28 (w := w) (N := 2) rfl rfl rfl rfl by0 ?_; intro gb216 w30 n0_ BK216 GW216 GE216; clear HB; have HB := n0_; clear n0_) | ((with_reducible refine gate_callee (f := 132) rfl ?_); refine goesL_ (some 6) rfl rfl Try.func132 by4 rfl #[.int .i64 a1] rfl by1 ?_; (with_reducible refine (impl_isSize.calls a1 false _ A3.out).mono ?_); rintro e w' ⟨rfl, ⟨nd, rfl⟩⟩; refine ⟨_, rfl, ?_⟩))
    all_goals
     exact impl_OperandOK.e0

/-! ### impl_srcSize: function 88 -/
def impl_srcSize.f (a0_0 : Int) (a0_1 : Int) (a0_2 : Int) (a0_3 : Int) (a0_4 : Int) (a0_5 : Int) (a0_6 : Int) (a0_7 : Int) (a0_8 : Int) (a0_9 : Int) (a0_10 : Int) (a0_11 : Int) (a0_12 : Int) (a0_13 : Int) (a0_14 : Int) (a0_15 : Int) (a0_16 : Int) (a0_17 : Int) (a0_18 : Int) : Option (Int) := if a0_3 = 0 then ((impl_isShift.f a0_0).bind fun t235 => (if t235 = true then (some 8) else (if a0_1 = 0 then (some 8) else (some a0_1)))) else (some a0_3)
theorem impl_srcSize.e0 {p : Prop} (h : p := by
 obtain rfl := Option.some.inj H
 go_enter Try.func88, Try.ntmps88
 go_wp2_with (first | ((with_reducible refine gate_dst (N := 1) rfl ?_); refine bx30 (w := w) (N := 1) rfl rfl rfl rfl by0 ?_; intro gb_y0 w_y1 n_y2 BK_y3 GW_y4 GE_y5; clear HB; have HB := n_y2; clear n_y2; have hcz_y6 := cz BK_y3.out 0 (.int .i64 a0_0); have hcz_y7 := cz BK_y3.out 1 (.int .i64 a0_1); have hcz_y8 := cz BK_y3.out 3 (.int .i64 a0_3)) | ((with_reducible refine gate_callee (f := 90) rfl ?_); refine goesL_ (some 12) rfl rfl Try.func90 by4 rfl #[.int .i64 a0_0] rfl by1 ?_; (with_reducible refine (impl_isShift.calls a0_0 false _ A3.out).mono ?_); rintro e w' ⟨rfl, ⟨nd, rfl⟩⟩; refine ⟨_, rfl, ?_⟩))
 go_ret
 exact ⟨by first | rfl | (simp [errW_none, errW_some] <;> rfl) | (simp [*, errW_none, errW_some] <;> rfl), by repeat (first | (with_reducible first | exact HB.out | apply below_alloc | apply pw_below_drewN | apply below_drew1 | refine below_set ?_ GE_y5.out) | exact HB.out)⟩) : p := h
set_option maxHeartbeats 8000000 in
set_option maxRecDepth 100000 in
theorem impl_srcSize.calls (a0_0 : Int) (a0_1 : Int) (a0_2 : Int) (a0_3 : Int) (a0_4 : Int) (a0_5 : Int) (a0_6 : Int) (a0_7 : Int) (a0_8 : Int) (a0_9 : Int) (a0_10 : Int) (a0_11 : Int) (a0_12 : Int) (a0_13 : Int) (a0_14 : Int) (a0_15 : Int) (a0_16 : Int) (a0_17 : Int) (a0_18 : Int) (r : Int) (w : World) (h : impl_srcSize.f a0_0 a0_1 a0_2 a0_3 a0_4 a0_5 a0_6 a0_7 a0_8 a0_9 a0_10 a0_11 a0_12 a0_13 a0_14 a0_15 a0_16 a0_17 a0_18 = some r) :
  Calls Try.prog 88 #[.agg #[.int .i64 a0_0, .int .i64 a0_1, .int .i64 a0_2, .int .i64 a0_3, .int .i64 a0_4, .int .i64 a0_5, .int .i64 a0_6, .int .i64 a0_7, .int .i64 a0_8, .int .i64 a0_9, .int .i64 a0_10, .int .i64 a0_11, .int .i64 a0_12, .int .i64 a0_13, .int .i64 a0_14, .int .i64 a0_15, .int .i64 a0_16, .int .i64 a0_17, .int .i64 a0_18]] w fun e w' => e = .returned (.int .i64 r) ∧ Below w.heap.size w w' := by
 have hu30 := Try.underlying30
 have HB := Aside0.mk (Below.refl w.heap.size w)
 have H : (if a0_3 = 0 then ((impl_isShift.f a0_0).bind fun t235 => (if t235 = true then (some 8) else (if a0_1 = 0 then (some 8) else (some a0_1)))) else (some a0_3)) = some r := h
 clear h
 by_cases c2 : a0_3 = 0
 ·rw [if_pos c2] at H
  have c2b0 : (a0_3 == 0) = true := beq_iff_eq.mpr c2
  have c2b1 : (a0_3 != 0) = false := bne_eq_false_iff_eq.mpr c2
  clear c2
  replace H := Option.bind_eq_some_iff.mp H
  obtain ⟨t235, A30, H⟩ := H
  replace H : (if t235 = true then (some 8) else (if a0_1 = 0 then (some 8) else (some a0_1))) = some r := H
  have A3 := Aside0.mk A30
  clear A30
  by_cases c4 : t235 = true
  ·subst c4
   have H1 : (some 8) = some r := by rw [if_pos rfl] at H; exact H
   clear H
   have H := H1
   clear H1
   obtain rfl := Option.some.inj H
   go_enter Try.func88, Try.ntmps88
   go_wp2_with (first | ((with_reducible refine gate_dst (N := 1) rfl ?_); refine bx30 (w := w) (N := 1) rfl rfl rfl rfl by0 ?_; intro gb234 w5 n0_ BK234 GW234 GE234; clear HB; have HB := n0_; clear n0_; have hcz6_0 := cz BK234.out 0 (.int .i64 a0_0); have hcz6_1 := cz BK234.out 1 (.int .i64 a0_1); have hcz6_3 := cz BK234.out 3 (.int .i64 a0_3)) | ((with_reducible refine gate_callee (f := 90) rfl ?_); refine goesL_ (some 12) rfl rfl Try.func90 by4 rfl #[.int .i64 a0_0] rfl by1 ?_; (with_reducible refine (impl_isShift.calls a0_0 true _ A3.out).mono ?_); rintro e w' ⟨rfl, ⟨nd, rfl⟩⟩; refine ⟨_, rfl, ?_⟩))
   go_ret
   exact ⟨by first | rfl | (simp [errW_none, errW_some] <;> rfl) | (simp [*, errW_none, errW_some] <;> rfl), by repeat (first | (with_reducible first | exact HB.out | apply below_alloc | apply pw_below_drewN | apply below_drew1 | refine below_set ?_ GE234.out) | exact HB.out)⟩
  ·replace c4 := Bool.eq_false_iff.mpr c4
   subst c4
   have H1 : (if a0_1 = 0 then (some 8) else (some a0_1)) = some r := by rw [if_neg (show ¬ (false = true) by decide)] at H; exact H
   clear H
   have H := H1
   clear H1
   by_cases c7 : a0_1 = 0
   ·rw [if_pos c7] at H
    have c7b0 : (a0_1 == 0) = true := beq_iff_eq.mpr c7
    have c7b1 : (a0_1 != 0) = false := bne_eq_false_iff_eq.mpr c7
    clear c7
    exact impl_srcSize.e0
   ·rw [if_neg c7] at H
    have c7b0 : (a0_1 == 0) = false := beq_eq_false_iff_ne.mpr c7
    have c7b1 : (a0_1 != 0) = true := bne_iff_ne.mpr c7
    exact impl_srcSize.e0
 ·rw [if_neg c2] at H
  have c2b0 : (a0_3 == 0) = false := beq_eq_false_iff_ne.mpr c2
  have c2b1 : (a0_3 != 0) = true := bne_iff_ne.mpr c2
  obtain rfl := Option.some.inj H
  go_enter Try.func88, Try.ntmps88
  go_wp2_with (first | ((with_reducible refine gate_dst (N := 1) rfl ?_); refine bx30 (w := w) (N := 1) rfl rfl rfl rfl by0 ?_; intro gb234 w12 n0_ BK234 GW234 GE234; clear HB; have HB := n0_; clear n0_; have hcz13_0 := cz BK234.out 0 (.int .i64 a0_0); have hcz13_1 := cz BK234.out 1 (.int .i64 a0_1); have hcz13_3 := cz BK234.out 3 (.int .i64 a0_3)))
  go_ret
  exact ⟨by first | rfl | (simp [errW_none, errW_some] <;> rfl) | (simp [*, errW_none, errW_some] <;> rfl), by repeat (first | (with_reducible first | exact HB.out | apply below_alloc | apply pw_below_drewN | apply below_drew1 | refine below_set ?_ GE234.out) | exact HB.out)⟩

/-! ### impl_isByte: function 135 -/
def impl_isByte.f (a0 : Int) : Option (Bool) := (impl_within.f a0 0 255).bind fun t236 => (some t236)
set_option maxHeartbeats 8000000 in
set_option maxRecDepth 100000 in
theorem impl_isByte.calls (a0 : Int) (r : Bool) (w : World) (h : impl_isByte.f a0 = some r) :
  Calls Try.prog 135 #[.int .i64 a0] w fun e w' => e = .returned (.bool r) ∧ Drawn0 w w' := by
 have H : ((impl_within.f a0 0 255).bind fun t236 => (some t236)) = some r := h
 clear h
 replace H := Option.bind_eq_some_iff.mp H
 obtain ⟨t236, A20, H⟩ := H
 replace H : (some t236) = some r := H
 have A2 := Aside0.mk A20
 clear A20
 obtain rfl := Option.some.inj H
 go_enter Try.func135, Try.ntmps135
 go_wp2_with (first | ((with_reducible refine gate_callee (f := 58) rfl ?_); refine goesL_ (some 4) rfl rfl Try.func58 by4 rfl #[.int .i64 a0, .int .i64 0, .int .i64 255] rfl by1 ?_; (with_reducible refine (impl_within.calls a0 0 255 t236 _ A2.out).mono ?_); rintro e w' ⟨rfl, ⟨nd, rfl⟩⟩; refine ⟨_, rfl, ?_⟩))
 go_ret
 exact ⟨by first | rfl | (simp; done) | (simp [*]; done), by repeat (first | exact Drawn0.refl _ | apply Drawn0.step)⟩

/-! ### impl_isNumber: function 89 -/
mutual
def impl_isNumber.j0 : Nat → Int → Bool → Int → Int → Int → Int → Int → Int → Int → Int → Int → Int → Int → Int → Int → Int → Int → Int → Int → Int → Int → Option (Bool)
 | 0, _, _, _, _, _, _, _, _, _, _, _, _, _, _, _, _, _, _, _, _, _ => none
 | k + 1, x3, x7, x238000, x238001, x238002, x238003, x238004, x238005, x238006, x238007, x238008, x238009, x238010, x238011, x238012, x238013, x238014, x238015, x238016, x238017, x238018 => if x7 = true then ((impl_isByte.f x3).bind fun t239 => (some t239)) else (if x238000 = 9 then (if x238001 = 8 then (impl_isNumber.j1 k x3 (x238004 == 1) x238000 x238001 x238002 x238003 x238004 x238005 x238006 x238007 x238008 x238009 x238010 x238011 x238012 x238013 x238014 x238015 x238016 x238017 x238018) else (impl_isNumber.j1 k x3 false x238000 x238001 x238002 x238003 x238004 x238005 x238006 x238007 x238008 x238009 x238010 x238011 x238012 x238013 x238014 x238015 x238016 x238017 x238018)) else (impl_isNumber.j1 k x3 false x238000 x238001 x238002 x238003 x238004 x238005 x238006 x238007 x238008 x238009 x238010 x238011 x238012 x238013 x238014 x238015 x238016 x238017 x238018))
def impl_isNumber.j1 : Nat → Int → Bool → Int → Int → Int → Int → Int → Int → Int → Int → Int → Int → Int → Int → Int → Int → Int → Int → Int → Int → Int → Option (Bool)
 | 0, _, _, _, _, _, _, _, _, _, _, _, _, _, _, _, _, _, _, _, _, _ => none
 | k + 1, x3, x18, x238000, x238001, x238002, x238003, x238004, x238005, x238006, x238007, x238008, x238009, x238010, x238011, x238012, x238013, x238014, x238015, x238016, x238017, x238018 => if x18 = true then (some true) else (if x238001 = 0 then ((impl_fits.f x3 4).bind fun t240 => (some t240)) else ((impl_fits.f x3 (mn 4 x238001)).bind fun t241 => (some t241)))
end
def impl_isNumber.f (k : Nat) (a0_0 : Int) (a0_1 : Int) (a0_2 : Int) (a0_3 : Int) (a0_4 : Int) (a0_5 : Int) (a0_6 : Int) (a0_7 : Int) (a0_8 : Int) (a0_9 : Int) (a0_10 : Int) (a0_11 : Int) (a0_12 : Int) (a0_13 : Int) (a0_14 : Int) (a0_15 : Int) (a0_16 : Int) (a0_17 : Int) (a0_18 : Int) : Option (Bool) := (impl_isShift.f a0_0).bind fun t238 => (if t238 = true then (impl_isNumber.j0 k a0_17 true a0_0 a0_1 a0_2 a0_3 a0_4 a0_5 a0_6 a0_7 a0_8 a0_9 a0_10 a0_11 a0_12 a0_13 a0_14 a0_15 a0_16 a0_17 a0_18) else (impl_isNumber.j0 k a0_17 (a0_0 == 44) a0_0 a0_1 a0_2 a0_3 a0_4 a0_5 a0_6 a0_7 a0_8 a0_9 a0_10 a0_11 a0_12 a0_13 a0_14 a0_15 a0_16 a0_17 a0_18))
theorem impl_isNumber.mono_l : ∀ k, (∀ y0 y1 y2 y3 y4 y5 y6 y7 y8 y9 y10 y11 y12 y13 y14 y15 y16 y17 y18 y19 y20, LeO (impl_isNumber.j0 k y0 y1 y2 y3 y4 y5 y6 y7 y8 y9 y10 y11 y12 y13 y14 y15 y16 y17 y18 y19 y20) (impl_isNumber.j0 (k + 1) y0 y1 y2 y3 y4 y5 y6 y7 y8 y9 y10 y11 y12 y13 y14 y15 y16 y17 y18 y19 y20)) ∧ (∀ y0 y1 y2 y3 y4 y5 y6 y7 y8 y9 y10 y11 y12 y13 y14 y15 y16 y17 y18 y19 y20, LeO (impl_isNumber.j1 k y0 y1 y2 y3 y4 y5 y6 y7 y8 y9 y10 y11 y12 y13 y14 y15 y16 y17 y18 y19 y20) (impl_isNumber.j1 (k + 1) y0 y1 y2 y3 y4 y5 y6 y7 y8 y9 y10 y11 y12 y13 y14 y15 y16 y17 y18 y19 y20))
 | 0 => ⟨fun _ _ _ _ _ _ _ _ _ _ _ _ _ _ _ _ _ _ _ _ _ r h => by simp [impl_isNumber.j0] at h, fun _ _ _ _ _ _ _ _ _ _ _ _ _ _ _ _ _ _ _ _ _ r h => by simp [impl_isNumber.j1] at h⟩
 | k + 1 => by
  obtain ⟨ih0, ih1⟩ := impl_isNumber.mono_l k
  refine ⟨?_, ?_⟩
  ·intro y0 y1 y2 y3 y4 y5 y6 y7 y8 y9 y10 y11 y12 y13 y14 y15 y16 y17 y18 y19 y20
   unfold impl_isNumber.j0
   repeat' first
   | (with_reducible exact ih0 _ _ _ _ _ _ _ _ _ _ _ _ _ _ _ _ _ _ _ _ _)
   | (with_reducible exact ih1 _ _ _ _ _ _ _ _ _ _ _ _ _ _ _ _ _ _ _ _ _)
   | (with_reducible exact LeO.refl _)
   | (with_reducible exact LeO.none _)
   | (with_reducible refine LeO.ite ?_ ?_)
   | (with_reducible refine LeO.bind ?_ (fun _ => ?_))
   | refine LeO.ite ?_ ?_
   | refine LeO.bind ?_ (fun _ => ?_)
  ·intro y0 y1 y2 y3 y4 y5 y6 y7 y8 y9 y10 y11 y12 y13 y14 y15 y16 y17 y18 y19 y20
   unfold impl_isNumber.j1
   repeat' first
   | (with_reducible exact ih0 _ _ _ _ _ _ _ _ _ _ _ _ _ _ _ _ _ _ _ _ _)
   | (with_reducible exact ih1 _ _ _ _ _ _ _ _ _ _ _ _ _ _ _ _ _ _ _ _ _)
   | (with_reducible exact LeO.refl _)
   | (with_reducible exact LeO.none _)
   | (with_reducible refine LeO.ite ?_ ?_)
   | (with_reducible refine LeO.bind ?_ (fun _ => ?_))
   | refine LeO.ite ?_ ?_
   | refine LeO.bind ?_ (fun _ => ?_)
theorem impl_isNumber.mono : ∀ a0 a1 a2 a3 a4 a5 a6 a7 a8 a9 a10 a11 a12 a13 a14 a15 a16 a17 a18 k, LeO (impl_isNumber.f k a0 a1 a2 a3 a4 a5 a6 a7 a8 a9 a10 a11 a12 a13 a14 a15 a16 a17 a18) (impl_isNumber.f (k + 1) a0 a1 a2 a3 a4 a5 a6 a7 a8 a9 a10 a11 a12 a13 a14 a15 a16 a17 a18) := by
 intro a0 a1 a2 a3 a4 a5 a6 a7 a8 a9 a10 a11 a12 a13 a14 a15 a16 a17 a18 k
 obtain ⟨ih0, ih1⟩ := impl_isNumber.mono_l k
 unfold impl_isNumber.f
 repeat' first
   | (with_reducible exact ih0 _ _ _ _ _ _ _ _ _ _ _ _ _ _ _ _ _ _ _ _ _)
   | (with_reducible exact ih1 _ _ _ _ _ _ _ _ _ _ _ _ _ _ _ _ _ _ _ _ _)
   | (with_reducible exact LeO.refl _)
   | (with_reducible exact LeO.none _)
   | (with_reducible refine LeO.ite ?_ ?_)
   | (with_reducible refine LeO.bind ?_ (fun _ => ?_))
   | refine LeO.ite ?_ ?_
   | refine LeO.bind ?_ (fun _ => ?_)
set_option maxHeartbeats 8000000 in
set_option maxRecDepth 100000 in
theorem impl_isNumber.calls (k : Nat) (a0_0 : Int) (a0_1 : Int) (a0_2 : Int) (a0_3 : Int) (a0_4 : Int) (a0_5 : Int) (a0_6 : Int) (a0_7 : Int) (a0_8 : Int) (a0_9 : Int) (a0_10 : Int) (a0_11 : Int) (a0_12 : Int) (a0_13 : Int) (a0_14 : Int) (a0_15 : Int) (a0_16 : Int) (a0_17 : Int) (a0_18 : Int) (r : Bool) (w : World) (h : impl_isNumber.f k a0_0 a0_1 a0_2 a0_3 a0_4 a0_5 a0_6 a0_7 a0_8 a0_9 a0_10 a0_11 a0_12 a0_13 a0_14 a0_15 a0_16 a0_17 a0_18 = some r) :
  Calls Try.prog 89 #[.agg #[.int .i64 a0_0, .int .i64 a0_1, .int .i64 a0_2, .int .i64 a0_3, .int .i64 a0_4, .int .i64 a0_5, .int .i64 a0_6, .int .i64 a0_7, .int .i64 a0_8, .int .i64 a0_9, .int .i64 a0_10, .int .i64 a0_11, .int .i64 a0_12, .int .i64 a0_13, .int .i64 a0_14, .int .i64 a0_15, .int .i64 a0_16, .int .i64 a0_17, .int .i64 a0_18]] w fun e w' => e = .returned (.bool r) ∧ Below w.heap.size w w' := by
 have hu30 := Try.underlying30
 have HB := Aside0.mk (Below.refl w.heap.size w)
 have H : ((impl_isShift.f a0_0).bind fun t238 => (if t238 = true then (impl_isNumber.j0 k a0_17 true a0_0 a0_1 a0_2 a0_3 a0_4 a0_5 a0_6 a0_7 a0_8 a0_9 a0_10 a0_11 a0_12 a0_13 a0_14 a0_15 a0_16 a0_17 a0_18) else (impl_isNumber.j0 k a0_17 (a0_0 == 44) a0_0 a0_1 a0_2 a0_3 a0_4 a0_5 a0_6 a0_7 a0_8 a0_9 a0_10 a0_11 a0_12 a0_13 a0_14 a0_15 a0_16 a0_17 a0_18))) = some r := h
 clear h
 have HC2 := Aside0.mk H
 clear H
 go_enter Try.func89, Try.ntmps89
 go_upto_region 2 with (first | ((with_reducible refine gate_dst (N := 1) rfl ?_); refine bx30 (w := w) (N := 1) rfl rfl rfl rfl by0 ?_; intro gb237 w3 n0_ BK237 GW237 GE237; clear HB; have HB := n0_; clear n0_; have hcz4_0 := cz BK237.out 0 (.int .i64 a0_0); have hcz4_1 := cz BK237.out 1 (.int .i64 a0_1); have hcz4_4 := cz BK237.out 4 (.int .i64 a0_4); have hcz4_17 := cz BK237.out 17 (.int .i64 a0_17)))
 (try simp only [Act.put, List.setIfInBounds_toArray, List.set_cons_zero, List.set_cons_succ])
 go_cut [7] (fun v7 wc => ∃ (kq : Nat) (x7_1 : Bool), v7 = .bool x7_1 ∧ Aside0 (impl_isNumber.j0 kq a0_17 x7_1 a0_0 a0_1 a0_2 a0_3 a0_4 a0_5 a0_6 a0_7 a0_8 a0_9 a0_10 a0_11 a0_12 a0_13 a0_14 a0_15 a0_16 a0_17 a0_18 = some r) ∧ Aside0 (kq ≤ k) ∧ Aside0 (wc.heap[gb237]? = some (.cells #[.int .i64 a0_0, .int .i64 a0_1, .int .i64 a0_2, .int .i64 a0_3, .int .i64 a0_4, .int .i64 a0_5, .int .i64 a0_6, .int .i64 a0_7, .int .i64 a0_8, .int .i64 a0_9, .int .i64 a0_10, .int .i64 a0_11, .int .i64 a0_12, .int .i64 a0_13, .int .i64 a0_14, .int .i64 a0_15, .int .i64 a0_16, .int .i64 a0_17, .int .i64 a0_18] 30 (0, 0))) ∧ Aside0 (Below w.heap.size w wc))
 case first =>
  have H := HC2.out
  clear HC2
  replace H := Option.bind_eq_some_iff.mp H
  obtain ⟨t238, A50, H⟩ := H
  replace H : (if t238 = true then (impl_isNumber.j0 k a0_17 true a0_0 a0_1 a0_2 a0_3 a0_4 a0_5 a0_6 a0_7 a0_8 a0_9 a0_10 a0_11 a0_12 a0_13 a0_14 a0_15 a0_16 a0_17 a0_18) else (impl_isNumber.j0 k a0_17 (a0_0 == 44) a0_0 a0_1 a0_2 a0_3 a0_4 a0_5 a0_6 a0_7 a0_8 a0_9 a0_10 a0_11 a0_12 a0_13 a0_14 a0_15 a0_16 a0_17 a0_18)) = some r := H
  have A5 := Aside0.mk A50
  clear A50
  by_cases c6 : t238 = true
  ·subst c6
   have H1 : (impl_isNumber.j0 k a0_17 true a0_0 a0_1 a0_2 a0_3 a0_4 a0_5 a0_6 a0_7 a0_8 a0_9 a0_10 a0_11 a0_12 a0_13 a0_14 a0_15 a0_16 a0_17 a0_18) = some r := by rw [if_pos rfl] at H; exact H
   clear H
   have H := H1
   clear H1
   have H' := Aside0.mk H
   clear H
   have hcz7_0 := cz BK237.out 0 (.int .i64 a0_0)
   have hcz7_1 := cz BK237.out 1 (.int .i64 a0_1)
   have hcz7_4 := cz BK237.out 4 (.int .i64 a0_4)
   have hcz7_17 := cz BK237.out 17 (.int .i64 a0_17)
   go_wp2_with (first | ((with_reducible refine gate_callee (f := 90) rfl ?_); refine goesL_ (some 10) rfl rfl Try.func90 by4 rfl #[.int .i64 a0_0] rfl by1 ?_; (with_reducible refine (impl_isShift.calls a0_0 true _ A5.out).mono ?_); rintro e w' ⟨rfl, ⟨nd, rfl⟩⟩; refine ⟨_, rfl, ?_⟩))
   go_meet
   case rel => exact ⟨_, (true), by8, H', ⟨by first | omega | exact Nat.le_refl _⟩, ⟨by (with_reducible repeat (first | refine blk_drewN ?_ _ | refine blk_drew ?_ | refine blk_alloc ?_ _)); exact BK237.out⟩, ⟨by repeat (first | (with_reducible first | exact HB.out | apply below_alloc | apply pw_below_drewN | apply below_drew1 | refine below_set ?_ GE237.out) | exact HB.out)⟩⟩
  ·replace c6 := Bool.eq_false_iff.mpr c6
   subst c6
   have H1 : (impl_isNumber.j0 k a0_17 (a0_0 == 44) a0_0 a0_1 a0_2 a0_3 a0_4 a0_5 a0_6 a0_7 a0_8 a0_9 a0_10 a0_11 a0_12 a0_13 a0_14 a0_15 a0_16 a0_17 a0_18) = some r := by rw [if_neg (show ¬ (false = true) by decide)] at H; exact H
   clear H
   have H := H1
   clear H1
   have H' := Aside0.mk H
   clear H
   have hcz8_0 := cz BK237.out 0 (.int .i64 a0_0)
   have hcz8_1 := cz BK237.out 1 (.int .i64 a0_1)
   have hcz8_4 := cz BK237.out 4 (.int .i64 a0_4)
   have hcz8_17 := cz BK237.out 17 (.int .i64 a0_17)
   go_wp2_with (first | ((with_reducible refine gate_callee (f := 90) rfl ?_); refine goesL_ (some 10) rfl rfl Try.func90 by4 rfl #[.int .i64 a0_0] rfl by1 ?_; (with_reducible refine (impl_isShift.calls a0_0 false _ A5.out).mono ?_); rintro e w' ⟨rfl, ⟨nd, rfl⟩⟩; refine ⟨_, rfl, ?_⟩))
   go_meet
   case rel => exact ⟨_, ((a0_0 == 44)), by8, H', ⟨by first | omega | exact Nat.le_refl _⟩, ⟨by (with_reducible repeat (first | refine blk_drewN ?_ _ | refine blk_drew ?_ | refine blk_alloc ?_ _)); exact BK237.out⟩, ⟨by repeat (first | (with_reducible first | exact HB.out | apply below_alloc | apply pw_below_drewN | apply below_drew1 | refine below_set ?_ GE237.out) | exact HB.out)⟩⟩
 case rest =>
  clear HC2
  (try clear c6); (try clear hcz4_0); (try clear hcz4_1); (try clear hcz4_17); (try clear hcz4_4); (try clear hcz7_0); (try clear hcz7_1); (try clear hcz7_17); (try clear hcz7_4); (try clear hcz8_0); (try clear hcz8_1); (try clear hcz8_17); (try clear hcz8_4)
  obtain ⟨kq, x7_1, rfl, HA, HJ1, BK237, HB⟩ := hcut
  cases kq with
  | zero => exact absurd HA.out (by simp [impl_isNumber.j0])
  | succ kj1 =>
   have H := HA.out
   clear HA
   simp only [impl_isNumber.j0] at H
   by_cases c9 : x7_1 = true
   ·subst c9
    have H1 : ((impl_isByte.f a0_17).bind fun t239 => (some t239)) = some r := by rw [if_pos rfl] at H; exact H
    clear H
    have H := H1
    clear H1
    replace H := Option.bind_eq_some_iff.mp H
    obtain ⟨t239, A100, H⟩ := H
    replace H : (some t239) = some r := H
    have A10 := Aside0.mk A100
    clear A100
    obtain rfl := Option.some.inj H
    go_wp2_with (first | ((with_reducible refine gate_callee (f := 135) rfl ?_); refine goesL_ (some 17) rfl rfl Try.func135 by4 rfl #[.int .i64 a0_17] rfl by1 ?_; (with_reducible refine (impl_isByte.calls a0_17 t239 _ A10.out).mono ?_); rintro e w' ⟨rfl, ⟨nd, rfl⟩⟩; refine ⟨_, rfl, ?_⟩))
    go_ret
    exact ⟨by first | rfl | (simp [errW_none, errW_some] <;> rfl) | (simp [*, errW_none, errW_some] <;> rfl), by repeat (first | (with_reducible first | exact HB.out | apply below_alloc | apply pw_below_drewN | apply below_drew1 | refine below_set ?_ GE237.out) | exact HB.out)⟩
   ·replace c9 := Bool.eq_false_iff.mpr c9
    subst c9
    have H1 : (if a0_0 = 9 then (if a0_1 = 8 then (impl_isNumber.j1 kj1 a0_17 (a0_4 == 1) a0_0 a0_1 a0_2 a0_3 a0_4 a0_5 a0_6 a0_7 a0_8 a0_9 a0_10 a0_11 a0_12 a0_13 a0_14 a0_15 a0_16 a0_17 a0_18) else (impl_isNumber.j1 kj1 a0_17 false a0_0 a0_1 a0_2 a0_3 a0_4 a0_5 a0_6 a0_7 a0_8 a0_9 a0_10 a0_11 a0_12 a0_13 a0_14 a0_15 a0_16 a0_17 a0_18)) else (impl_isNumber.j1 kj1 a0_17 false a0_0 a0_1 a0_2 a0_3 a0_4 a0_5 a0_6 a0_7 a0_8 a0_9 a0_10 a0_11 a0_12 a0_13 a0_14 a0_15 a0_16 a0_17 a0_18)) = some r := by rw [if_neg (show ¬ (false = true) by decide)] at H; exact H
    clear H
    have H := H1
    clear H1
    have HC11 := Aside0.mk H
    clear H
    go_upto_region 4 with (fail)
    go_cut [18] (fun v18 wc => ∃ (kq : Nat) (x18_10 : Bool), v18 = .bool x18_10 ∧ Aside0 (impl_isNumber.j1 kq a0_17 x18_10 a0_0 a0_1 a0_2 a0_3 a0_4 a0_5 a0_6 a0_7 a0_8 a0_9 a0_10 a0_11 a0_12 a0_13 a0_14 a0_15 a0_16 a0_17 a0_18 = some r) ∧ Aside0 (kq ≤ kj1) ∧ Aside0 (wc.heap[gb237]? = some (.cells #[.int .i64 a0_0, .int .i64 a0_1, .int .i64 a0_2, .int .i64 a0_3, .int .i64 a0_4, .int .i64 a0_5, .int .i64 a0_6, .int .i64 a0_7, .int .i64 a0_8, .int .i64 a0_9, .int .i64 a0_10, .int .i64 a0_11, .int .i64 a0_12, .int .i64 a0_13, .int .i64 a0_14, .int .i64 a0_15, .int .i64 a0_16, .int .i64 a0_17, .int .i64 a0_18] 30 (0, 0))) ∧ Aside0 (Below w.heap.size w wc))
    case first =>
     have H := HC11.out
     clear HC11
     by_cases c12 : a0_0 = 9
     ·rw [if_pos c12] at H
      have c12b0 : (a0_0 == 9) = true := beq_iff_eq.mpr c12
      have c12b1 : (a0_0 != 9) = false := bne_eq_false_iff_eq.mpr c12
      clear c12
      (first | rw [c12b0] | (simp only [i64_w, i32_w]; rw [c12b0]) | rw [c12b1] | skip)
      by_cases c13 : a0_1 = 8
      ·rw [if_pos c13] at H
       have c13b0 : (a0_1 == 8) = true := beq_iff_eq.mpr c13
       have c13b1 : (a0_1 != 8) = false := bne_eq_false_iff_eq.mpr c13
       clear c13
       have H' := Aside0.mk H
       clear H
       have hcz14_0 := cz BK237.out 0 (.int .i64 a0_0)
       have hcz14_1 := cz BK237.out 1 (.int .i64 a0_1)
       have hcz14_4 := cz BK237.out 4 (.int .i64 a0_4)
       have hcz14_17 := cz BK237.out 17 (.int .i64 a0_17)
       go_wp2
       go_meet
       case rel => exact ⟨_, ((a0_4 == 1)), by8, H', ⟨by have := HJ1.out; first | omega | exact Nat.le_refl _⟩, ⟨by (with_reducible repeat (first | refine blk_drewN ?_ _ | refine blk_drew ?_ | refine blk_alloc ?_ _)); exact BK237.out⟩, ⟨by repeat (first | (with_reducible first | exact HB.out | apply below_alloc | apply pw_below_drewN | apply below_drew1 | refine below_set ?_ GE237.out) | exact HB.out)⟩⟩
      ·rw [if_neg c13] at H
       have c13b0 : (a0_1 == 8) = false := beq_eq_false_iff_ne.mpr c13
       have c13b1 : (a0_1 != 8) = true := bne_iff_ne.mpr c13
       have H' := Aside0.mk H
       clear H
       have hcz15_0 := cz BK237.out 0 (.int .i64 a0_0)
       have hcz15_1 := cz BK237.out 1 (.int .i64 a0_1)
       have hcz15_4 := cz BK237.out 4 (.int .i64 a0_4)
       have hcz15_17 := cz BK237.out 17 (.int .i64 a0_17)
       go_wp2
       go_meet
       case rel => exact ⟨_, (false), by8, H', ⟨by have := HJ1.out; first | omega | exact Nat.le_refl _⟩, ⟨by (with_reducible repeat (first | refine blk_drewN ?_ _ | refine blk_drew ?_ | refine blk_alloc ?_ _)); exact BK237.out⟩, ⟨by repeat (first | (with_reducible first | exact HB.out | apply below_alloc | apply pw_below_drewN | apply below_drew1 | refine below_set ?_ GE237.out) | exact HB.out)⟩⟩
     ·rw [if_neg c12] at H
      have c12b0 : (a0_0 == 9) = false := beq_eq_false_iff_ne.mpr c12
      have c12b1 : (a0_0 != 9) = true := bne_iff_ne.mpr c12
      (first | rw [c12b0] | (simp only [i64_w, i32_w]; rw [c12b0]) | rw [c12b1] | skip)
      have H' := Aside0.mk H
      clear H
      have hcz16_0 := cz BK237.out 0 (.int .i64 a0_0)
      have hcz16_1 := cz BK237.out 1 (.int .i64 a0_1)
      have hcz16_4 := cz BK237.out 4 (.int .i64 a0_4)
      have hcz16_17 := cz BK237.out 17 (.int .i64 a0_17)
      go_wp2
      go_meet
      case rel => exact ⟨_, (false), by8, H', ⟨by have := HJ1.out; first | omega | exact Nat.le_refl _⟩, ⟨by (with_reducible repeat (first | refine blk_drewN ?_ _ | refine blk_drew ?_ | refine blk_alloc ?_ _)); exact BK237.out⟩, ⟨by repeat (first | (with_reducible first | exact HB.out | apply below_alloc | apply pw_below_drewN | apply below_drew1 | refine below_set ?_ GE237.out) | exact HB.out)⟩⟩
    case rest =>
     clear HC11
     (try clear c6); (try clear c9); (try clear c12); (try clear c12b0); (try clear c12b1); (try clear c13); (try clear c13b0); (try clear c13b1); (try clear hcz14_0); (try clear hcz14_1); (try clear hcz14_17); (try clear hcz14_4); (try clear hcz15_0); (try clear hcz15_1); (try clear hcz15_17); (try clear hcz15_4); (try clear hcz16_0); (try clear hcz16_1); (try clear hcz16_17); (try clear hcz16_4); (try clear hcz4_0); (try clear hcz4_1); (try clear hcz4_17); (try clear hcz4_4); (try clear hcz7_0); (try clear hcz7_1); (try clear hcz7_17); (try clear hcz7_4); (try clear hcz8_0); (try clear hcz8_1); (try clear hcz8_17); (try clear hcz8_4)
     obtain ⟨kq, x18_10, rfl, HA, HJ10, BK237, HB⟩ := hcut
     cases kq with
     | zero => exact absurd HA.out (by simp [impl_isNumber.j1])
     | succ kj10 =>
      have H := HA.out
      clear HA
      simp only [impl_isNumber.j1] at H
      by_cases c17 : x18_10 = true
      ·subst c17
       have H1 : (some true) = some r := by rw [if_pos rfl] at H; exact H
       clear H
       have H := H1
       clear H1
       obtain rfl := Option.some.inj H
       go_wp2
       go_ret
       exact ⟨by first | rfl | (simp [errW_none, errW_some] <;> rfl) | (simp [*, errW_none, errW_some] <;> rfl), by repeat (first | (with_reducible first | exact HB.out | apply below_alloc | apply pw_below_drewN | apply below_drew1 | refine below_set ?_ GE237.out) | exact HB.out)⟩
      ·replace c17 := Bool.eq_false_iff.mpr c17
       subst c17
       have H1 : (if a0_1 = 0 then ((impl_fits.f a0_17 4).bind fun t240 => (some t240)) else ((impl_fits.f a0_17 (mn 4 a0_1)).bind fun t241 => (some t241))) = some r := by rw [if_neg (show ¬ (false = true) by decide)] at H; exact H
       clear H
       have H := H1
       clear H1
       by_cases c18 : a0_1 = 0
       ·rw [if_pos c18] at H
        have c18b0 : (a0_1 == 0) = true := beq_iff_eq.mpr c18
        have c18b1 : (a0_1 != 0) = false := bne_eq_false_iff_eq.mpr c18
        clear c18
        replace H := Option.bind_eq_some_iff.mp H
        obtain ⟨t240, A190, H⟩ := H
        replace H : (some t240) = some r := H
        have A19 := Aside0.mk A190
        clear A190
        obtain rfl := Option.some.inj H
        have hcz20_0 := cz BK237.out 0 (.int .i64 a0_0)
        have hcz20_1 := cz BK237.out 1 (.int .i64 a0_1)
        have hcz20_4 := cz BK237.out 4 (.int .i64 a0_4)
        have hcz20_17 := cz BK237.out 17 (.int .i64 a0_17)
        go_wp2_with (first | ((with_reducible refine gate_callee (f := 119) rfl ?_); refine goesL_ (some 38) rfl rfl Try.func119 by4 rfl #[.int .i64 a0_17, .int .i64 4] rfl by1 ?_; (with_reducible refine (impl_fits.calls a0_17 4 t240 _ A19.out).mono ?_); rintro e w' ⟨rfl, ⟨nd, rfl⟩⟩; refine ⟨_, rfl, ?_⟩))
        go_ret
        exact ⟨by first | rfl | (simp [errW_none, errW_some] <;> rfl) | (simp [*, errW_none, errW_some] <;> rfl), by repeat (first | (with_reducible first | exact HB.out | apply below_alloc | apply pw_below_drewN | apply below_drew1 | refine below_set ?_ GE237.out) | exact HB.out)⟩
       ·rw [if_neg c18] at H
        have c18b0 : (a0_1 == 0) = false := beq_eq_false_iff_ne.mpr c18
        have c18b1 : (a0_1 != 0) = true := bne_iff_ne.mpr c18
        obtain ⟨ji21, hji21⟩ : ∃ j_ : Int, (mn 4 a0_1) = j_ := ⟨_, rfl⟩
        replace H : ((impl_fits.f a0_17 (ji21)).bind fun t241 => (some t241)) = some r := by first | (rw [hji21] at H; exact H) | (simp only [hji21] at H ⊢; exact H)
        have hji21_ : (if a0_1 < 4 then a0_1 else 4) = ji21 := hji21
        replace H := Option.bind_eq_some_iff.mp H
        obtain ⟨t241, A220, H⟩ := H
        replace H : (some t241) = some r := H
        have A22 := Aside0.mk A220
        clear A220
        obtain rfl := Option.some.inj H
        have hcz23_0 := cz BK237.out 0 (.int .i64 a0_0)
        have hcz23_1 := cz BK237.out 1 (.int .i64 a0_1)
        have hcz23_4 := cz BK237.out 4 (.int .i64 a0_4)
        have hcz23_17 := cz BK237.out 17 (.int .i64 a0_17)
        go_wp2_with (first | ((with_reducible refine gate_callee (f := 119) rfl ?_); refine goesL_ (some 43) rfl rfl Try.func119 by4 rfl #[.int .i64 a0_17, .int .i64 ji21] rfl (by (try simp only [List.map_toArray, List.map_cons, List.map_nil]); first | done | (simp only [hji21]; rfl) | rfl | (simp only [List.length_drop, List.length_take]; rfl)) ?_; (with_reducible refine (impl_fits.calls a0_17 ji21 t241 _ A22.out).mono ?_); rintro e w' ⟨rfl, ⟨nd, rfl⟩⟩; refine ⟨_, rfl, ?_⟩))
        go_ret
        exact ⟨by first | rfl | (simp [errW_none, errW_some] <;> rfl) | (simp only [← hji21]; first | rfl | (simp [errW_none, errW_some] <;> rfl)) | (simp [*, errW_none, errW_some] <;> rfl), by repeat (first | (with_reducible first | exact HB.out | apply below_alloc | apply pw_below_drewN | apply below_drew1 | refine below_set ?_ GE237.out) | exact HB.out)⟩

/-! ### impl_hasHigh: function 91 -/
def impl_hasHigh.f (a0_0 : Int) (a0_1 : Int) (a0_2 : Int) (a0_3 : Int) (a0_4 : Int) (a0_5 : Int) (a0_6 : Int) : Option (Bool) := if a0_0 = 1 then ((impl_isHigh.f a0_1).bind fun t243 => (some t243)) else (some false)
set_option maxHeartbeats 8000000 in
set_option maxRecDepth 100000 in
theorem impl_hasHigh.calls (a0_0 : Int) (a0_1 : Int) (a0_2 : Int) (a0_3 : Int) (a0_4 : Int) (a0_5 : Int) (a0_6 : Int) (r : Bool) (w : World) (h : impl_hasHigh.f a0_0 a0_1 a0_2 a0_3 a0_4 a0_5 a0_6 = some r) :
  Calls Try.prog 91 #[.agg #[.int .i64 a0_0, .int .i64 a0_1, .int .i64 a0_2, .int .i64 a0_3, .int .i64 a0_4, .int .i64 a0_5, .int .i64 a0_6]] w fun e w' => e = .returned (.bool r) ∧ Below w.heap.size w w' := by
 have hu28 := Try.underlying28
 have HB := Aside0.mk (Below.refl w.heap.size w)
 have H : (if a0_0 = 1 then ((impl_isHigh.f a0_1).bind fun t243 => (some t243)) else (some false)) = some r := h
 clear h
 by_cases c2 : a0_0 = 1
 ·rw [if_pos c2] at H
  have c2b0 : (a0_0 == 1) = true := beq_iff_eq.mpr c2
  have c2b1 : (a0_0 != 1) = false := bne_eq_false_iff_eq.mpr c2
  clear c2
  replace H := Option.bind_eq_some_iff.mp H
  obtain ⟨t243, A30, H⟩ := H
  replace H : (some t243) = some r := H
  have A3 := Aside0.mk A30
  clear A30
  obtain rfl := Option.some.inj H
  go_enter Try.func91, Try.ntmps91
  go_wp2_with (first | ((with_reducible refine gate_dst (N := 1) rfl ?_); refine bx28 (w := w) (N := 1) rfl rfl rfl rfl by0 ?_; intro gb242 w4 n0_ BK242 GW242 GE242; clear HB; have HB := n0_; clear n0_; have hcz5_0 := cz BK242.out 0 (.int .i64 a0_0); have hcz5_1 := cz BK242.out 1 (.int .i64 a0_1)) | (go_at_call 136; (with_reducible refine (impl_isHigh.calls a0_1 t243 _ A3.out).mono ?_); rintro e w' ⟨rfl, ⟨nd, rfl⟩⟩))
  go_ret
  exact ⟨by first | rfl | (simp [errW_none, errW_some] <;> rfl) | (simp [*, errW_none, errW_some] <;> rfl), by repeat (first | (with_reducible first | exact HB.out | apply below_alloc | apply pw_below_drewN | apply below_drew1 | refine below_set ?_ GE242.out) | exact HB.out)⟩
 ·rw [if_neg c2] at H
  have c2b0 : (a0_0 == 1) = false := beq_eq_false_iff_ne.mpr c2
  have c2b1 : (a0_0 != 1) = true := bne_iff_ne.mpr c2
  obtain rfl := Option.some.inj H
  go_enter Try.func91, Try.ntmps91
  go_wp2_with (first | ((with_reducible refine gate_dst (N := 1) rfl ?_); refine bx28 (w := w) (N := 1) rfl rfl rfl rfl by0 ?_; intro gb242 w6 n0_ BK242 GW242 GE242; clear HB; have HB := n0_; clear n0_; have hcz7_0 := cz BK242.out 0 (.int .i64 a0_0); have hcz7_1 := cz BK242.out 1 (.int .i64 a0_1)))
  go_ret
  exact ⟨by first | rfl | (simp [errW_none, errW_some] <;> rfl) | (simp [*, errW_none, errW_some] <;> rfl), by repeat (first | (with_reducible first | exact HB.out | apply below_alloc | apply pw_below_drewN | apply below_drew1 | refine below_set ?_ GE242.out) | exact HB.out)⟩

end Go.Proofs.Ytonogadabgilfaa.PFnExactBaseAddOf
